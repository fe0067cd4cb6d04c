/-
  tallageref02.Down (86), Up (88).
-/
import Derived.Test.YtpdenhmkpiafiaaRefMulDiv
import Derived.Test.YtpdenhmkpiafiaaMDown
namespace Go.Proofs.Ytpdenhmkpiafiaa
open Go Go.RowKit K6 Ref

theorem quo_cap {n d : Nat} (hd : d ≠ 0) : quoN n d = capN (n / d) ∧ quoB n d = decide (n / d < M) := by
  unfold quoN quoB capN
  by_cases h : n / d < M
  · rw [if_pos ⟨hd, h⟩, if_pos h, decide_eq_true (show d ≠ 0 ∧ n / d < M from ⟨hd, h⟩), decide_eq_true h]; exact ⟨rfl, rfl⟩
  · rw [if_neg (fun x => h x.2), if_neg h, decide_eq_false (show ¬ (d ≠ 0 ∧ n / d < M) from fun x => h x.2), decide_eq_false h]; exact ⟨rfl, rfl⟩
theorem up_cap {n d : Nat} (hd : d ≠ 0) : upN n d = capN (if n % d = 0 then n / d else n / d + 1) ∧ upB n d = decide ((if n % d = 0 then n / d else n / d + 1) < M) := by
  unfold upN upB remN quoN quoB capN addN addB
  obtain ⟨q, hq⟩ : ∃ q, n / d = q := ⟨_, rfl⟩
  obtain ⟨r, hr⟩ : ∃ r, n % d = r := ⟨_, rfl⟩
  rw [hq, hr]
  by_cases h : q < M
  · by_cases h0 : r = 0
    · simp [h0, h, hd]
    · simp [h0, h, hd]
  · have h1 : ¬ q + 1 < M := by omega
    by_cases h0 : r = 0
    · simp [h0, h, hd]
    · simp [h0, h, h1, hd]
theorem MM_up {a b d : Nat} (ha : a < M) (hb : b < M) : a * b / d + 1 < M * M := by
  have h1 : a * b / d ≤ a * b := Nat.div_le_self _ _
  have h2 : a * (b + 1) ≤ a * M := Nat.mul_le_mul_left a hb
  have h3 : a * M < M * M := Nat.mul_lt_mul_of_pos_right ha M_pos
  rw [Nat.mul_succ] at h2
  have h4 : 1 < M * M := by unfold M; decide
  rcases Nat.eq_zero_or_pos a with h0 | h0
  · rw [h0, Nat.zero_mul, Nat.zero_div]; exact h4
  · omega
theorem sl_one {w : World} {b : Nat} (h : Row w b 181 #[.int .u32 1]) : Sl w (.slice (some ⟨b, 0, none⟩) 1 1) [1] := by
  refine ⟨_, _, rfl, Nat.le_refl _, (fun h => (by cases h)), fun a ha => ?_⟩
  cases ha
  refine ⟨b, 0, rfl, h.lt, fun i hi => ?_⟩
  have h0 : i = 0 := by have : i < 1 := hi; omega
  subst h0
  exact h.cell 0
theorem plus_one {q : Nat} (hq : q < M * M) : ∀ wx v u, Sl wx v (digs q) → Sl wx u [1] → Calls Try.prog 163 #[v, u] wx fun e w' => ∃ r, e = .returned r ∧ Sl w' r (digs (q + 1)) ∧ Below wx.heap.size wx w' := fun wx v u s1 s2 => by
  have := plus_any v u _ [1] wx (dig_digs q) (by intro x hx; rw [List.mem_singleton.1 hx]; decide) s1 s2 (len9 hq) (by decide)
  rw [val_digs, show val [1] = 1 by decide] at this
  exact this
set_option maxRecDepth 100000 in
set_option maxHeartbeats 16000000 in
theorem refdownU {a b d : Nat} (ha : a < M) (hb : b < M) (hd : d < M) (w : World) : Calls Try.prog 86 #[.agg (W4 a), .agg (W4 b), .agg (W4 d)] w (Ret w (.tuple #[.agg (W4 (quoN (a * b) d)), .bool (quoB (a * b) d)])) := by
  by_cases h0 : d = 0
  · have q0 : ∀ wx, (Op.equalIn 10000 31 (.agg (W4 d)) (.agg #[.int .u64 0, .int .u64 0, .int .u64 0, .int .u64 0])).run Try.prog wx = .ok true wx := fun wx => by rw [eqU0 hd, decide_eq_true h0]
    rw [show quoN (a * b) d = 0 from if_neg fun h => h.1 h0, show quoB (a * b) d = false from decide_eq_false fun h => h.1 h0]
    clear h0
    go_enter Try.func86, Try.ntmps86
    apply wp_seq_eq
    focus
      intro J hJ
      go_wp2_with fail
      exact hJ
    refine wp_abs (Mem w [(w.heap.size, 31, W4 a), (w.heap.size + 1, 31, W4 b), (w.heap.size + 1 + 1, 31, W4 d), (w.heap.size + 1 + 1 + 1, 31, arr .u64 (fun _ => 0) 4)]) ⟨by go_grown, ?_, ?_, ?_, ?_, trivial⟩ ?_
    · repeat (first | (refine Row.new_at ?_; simp; done) | refine Row.alloc ?_ _)
    · repeat (first | (refine Row.new_at ?_; simp; done) | refine Row.alloc ?_ _)
    · repeat (first | (refine Row.new_at ?_; simp; done) | refine Row.alloc ?_ _)
    · repeat (first | (refine Row.new_at ?_; simp; done) | refine Row.alloc ?_ _)
    intro w0 hM
    obtain ⟨hl, ra, rb, rd, rr0, -⟩ := hM
    go_upto_region 1 with (fail)
    let L : List Sp := []
    refine wp_region_six0 (shs L) (look6 L) (None_) (by kernel_rfl) (by kernel_rfl) (mk_St L [] [] (by kernel_rfl) (by kernel_rfl) trivial (by simp)) ?_
    intro QQ hQ
    -- 0: load<31> *t5
    refine stepK rfl (by kernel_rfl) (fun K hK => ?_); go_simp
    apply Exists.intro; apply And.intro; (focus exact kLoad rfl rfl aggT31 rd rfl id); refine hK _ _ ?_; clear hK K
    -- 1: build<31> 
    refine stepK rfl (by kernel_rfl) (fun K hK => ?_); go_simp
    apply Exists.intro; apply And.intro; (focus (intro wk hk; go_simp; exact ⟨rfl, rfl⟩)); refine hK _ _ ?_; clear hK K
    -- 2: eql<31> t10, t11
    refine stepK rfl (by kernel_rfl) (fun K hK => ?_); go_simp
    apply Exists.intro; apply And.intro; (focus (intro wk hk; go_simp; exact ⟨rfl, rfl⟩)); refine hK _ _ ?_; clear hK K
    refine stepN ?_
    refine hQ _ _ ?_
    intro w1 hT hG hF
    have hbw1 := hT.below
    replace rr0 := rr0.below hbw1 rr0.lt
    replace hl := hl.trans (hbw1.mono hl.size)
    clear hT hG hF hbw1 hQ QQ L 
    go_upto_region 2 with (fail)
    let L : List Sp := [sO 1 (w.heap.size + 1 + 1 + 1) 31 [0] (fun g => aggOf g 0)]
    refine wp_region_six0 (shs L) (look6 L) (fun c => c = w.heap.size + 1 + 1 + 1) (by kernel_rfl) (by kernel_rfl) (mk_St L [1] [1] (by kernel_rfl) (by kernel_rfl) ⟨ok_O aggOf_congr rr0.lt (rfl), trivial⟩ (by simp)) ?_
    intro QQ hQ
    -- 0: build<31> 
    refine stepK rfl (by kernel_rfl) (fun K hK => ?_); go_simp
    apply Exists.intro; apply And.intro; (focus (intro wk hk; go_simp; exact ⟨rfl, rfl⟩)); refine hK _ _ ?_; clear hK K
    -- 1: store<31> *t6 = t13
    refine stepS _ rfl (by kernel_rfl) (fun K hK => ?_); go_simp
    refine ⟨?_, ?_⟩
    · exact sStoreO rfl rfl rfl rfl rfl rfl rr0 id (by kernel_rfl) rfl (by kernel_rfl) (by decide) aggOf_congr
    rintro ⟨v1, lo1, hi1⟩ - - (rfl : v1 = undef)
    refine hK _ _ ?_; clear hK K
    -- 2: assign false
    refine stepKz rfl (fun K hK => ?_); go_simp
    apply Exists.intro; apply And.intro; (focus (intro wk hk; go_simp; exact ⟨rfl, rfl⟩)); refine hK _ _ ?_; clear hK K
    refine stepN ?_
    refine hQ _ _ ?_
    intro w9 hT hG hF
    have hT' := hT
    have x2 : Row w9 (w.heap.size + 1 + 1 + 1) 31 (W4 0) := Row.congr (show Row w9 (w.heap.size + 1 + 1 + 1) 31 _ from hF 1 _ rfl rfl (by decide)) W4_zero
    have hl9 : Below w.heap.size w w9 := hl.trans (hT'.below_of hl.size (by intro c hc; omega))
    clear hT hT' hG hF hQ QQ L
    go_wp2_with fail
    refine bodyPost_ret (results_ct rfl aggT31 rfl x2 rfl) rfl ?_
    exact ⟨rfl, hl9⟩
  · have q0 : ∀ wx, (Op.equalIn 10000 31 (.agg (W4 d)) (.agg #[.int .u64 0, .int .u64 0, .int .u64 0, .int .u64 0])).run Try.prog wx = .ok false wx := fun wx => by rw [eqU0 hd, decide_eq_false h0]
    rw [(quo_cap h0).1, (quo_cap h0).2]
    have hqr := Lib.hid (quorem2 (MM_mul ha hb) hd h0)
    have t2 := Lib.hid (times2 ha hb)
    have o1 := Lib.hid fun wx => of164 a ha wx
    have o2 := Lib.hid fun wx => of164 b hb wx
    have o3 := Lib.hid fun wx => of164 d hd wx
    have tq := Lib.hid (tou2 (Nat.lt_of_le_of_lt (Nat.le_succ _) (MM_up (d := d) ha hb)))
    clear h0
    obtain ⟨n, hn⟩ : ∃ n, a * b = n := ⟨_, rfl⟩
    rw [hn] at hqr tq t2
    rw [hn]
    obtain ⟨q, hq⟩ : ∃ q, n / d = q := ⟨_, rfl⟩
    obtain ⟨r, hr⟩ : ∃ r, n % d = r := ⟨_, rfl⟩
    rw [hq] at hqr tq
    rw [hr] at hqr
    rw [hq]
    obtain ⟨k, hk'⟩ : ∃ k, capN q = k := ⟨_, rfl⟩
    obtain ⟨ok, hok⟩ : ∃ ok, decide (q < M) = ok := ⟨_, rfl⟩
    rw [hk', hok] at tq
    rw [hk', hok]
    clear hn hq hr hk' hok
    go_enter Try.func86, Try.ntmps86
    apply wp_seq_eq
    focus
      intro J hJ
      go_wp2_with fail
      exact hJ
    refine wp_abs (Mem w [(w.heap.size, 31, W4 a), (w.heap.size + 1, 31, W4 b), (w.heap.size + 1 + 1, 31, W4 d), (w.heap.size + 1 + 1 + 1, 31, arr .u64 (fun _ => 0) 4)]) ⟨by go_grown, ?_, ?_, ?_, ?_, trivial⟩ ?_
    · repeat (first | (refine Row.new_at ?_; simp; done) | refine Row.alloc ?_ _)
    · repeat (first | (refine Row.new_at ?_; simp; done) | refine Row.alloc ?_ _)
    · repeat (first | (refine Row.new_at ?_; simp; done) | refine Row.alloc ?_ _)
    · repeat (first | (refine Row.new_at ?_; simp; done) | refine Row.alloc ?_ _)
    intro w0 hM
    obtain ⟨hl, ra, rb, rd, rr0, -⟩ := hM
    go_upto_region 1 with (fail)
    let L : List Sp := []
    refine wp_region_six0 (shs L) (look6 L) (None_) (by kernel_rfl) (by kernel_rfl) (mk_St L [] [] (by kernel_rfl) (by kernel_rfl) trivial (by simp)) ?_
    intro QQ hQ
    -- 0: load<31> *t5
    refine stepK rfl (by kernel_rfl) (fun K hK => ?_); go_simp
    apply Exists.intro; apply And.intro; (focus exact kLoad rfl rfl aggT31 rd rfl id); refine hK _ _ ?_; clear hK K
    -- 1: build<31> 
    refine stepK rfl (by kernel_rfl) (fun K hK => ?_); go_simp
    apply Exists.intro; apply And.intro; (focus (intro wk hk; go_simp; exact ⟨rfl, rfl⟩)); refine hK _ _ ?_; clear hK K
    -- 2: eql<31> t10, t11
    refine stepK rfl (by kernel_rfl) (fun K hK => ?_); go_simp
    apply Exists.intro; apply And.intro; (focus (intro wk hk; go_simp; exact ⟨rfl, rfl⟩)); refine hK _ _ ?_; clear hK K
    refine stepN ?_
    refine hQ _ _ ?_
    intro w1 hT hG hF
    have hbw1 := hT.below
    replace ra := ra.below hbw1 ra.lt
    replace rb := rb.below hbw1 rb.lt
    replace rd := rd.below hbw1 rd.lt
    replace rr0 := rr0.below hbw1 rr0.lt
    replace hl := hl.trans (hbw1.mono hl.size)
    clear hT hG hF hbw1 hQ QQ L 
    go_upto_region 3 with (fail)
    let L : List Sp := [sF 1 [] [] [] (fun _ => True) (fun x w => Sl w x.v (digs (a))), sF 3 [] [] [] (fun _ => True) (fun x w => Sl w x.v (digs (b))), sF 4 [1, 3] [1, 3] [] (fun _ => True) (fun x w => Sl w x.v (digs (n))), sF 6 [] [] [] (fun _ => True) (fun x w => Sl w x.v (digs (d))), sF 7 [4, 6, 1, 3] [4, 6] [] (fun x => ∃ y z, x.v = .tuple #[y, z]) (fun x w => ∃ y z, x.v = .tuple #[y, z] ∧ Sl w y (digs q) ∧ Sl w z (digs r))]
    refine wp_region_six (shs L) (look6 L) (None_) (by kernel_rfl) (by kernel_rfl) (mk_St L [] [] (by kernel_rfl) (by kernel_rfl) ⟨ok_F (any_some _) (fun _ _ _ h hb => Sl.below h hb), ok_F (any_some _) (fun _ _ _ h hb => Sl.below h hb), ok_F (any_some _) (fun _ _ _ h hb => Sl.below h hb), ok_F (any_some _) (fun _ _ _ h hb => Sl.below h hb), ok_F qr_some (fun _ _ _ h hb => let ⟨y, z, e, s, t⟩ := h; ⟨y, z, e, Sl.below s hb, Sl.below t hb⟩), trivial⟩ (by simp)) ?_
    intro QQ hQ
    -- 0: load<31> *t3
    refine stepK rfl (by kernel_rfl) (fun K hK => ?_); go_simp
    apply Exists.intro; apply And.intro; (focus exact kLoad rfl rfl aggT31 ra rfl id); refine hK _ _ ?_; clear hK K
    -- 1: call F164(t15)
    refine stepS _ rfl (by kernel_rfl) (fun K hK => ?_); go_simp
    refine ⟨?_, ?_⟩
    · intro wk hk hg hu; go_simp; refine upon_enter ((o1.out _).mono ?_); rintro e w' ⟨v, rfl, hv, hb⟩; exact ⟨_, rfl, left_F rfl rfl hb trivial hv⟩
    rintro ⟨v1, lo1, hi1⟩ - - -
    refine hK _ _ ?_; clear hK K
    -- 2: load<31> *t4
    refine stepK rfl (by kernel_rfl) (fun K hK => ?_); go_simp
    apply Exists.intro; apply And.intro; (focus exact kLoad rfl rfl aggT31 rb rfl id); refine hK _ _ ?_; clear hK K
    -- 3: call F164(t17)
    refine stepS _ rfl (by kernel_rfl) (fun K hK => ?_); go_simp
    refine ⟨?_, ?_⟩
    · intro wk hk hg hu; go_simp; refine upon_enter ((o2.out _).mono ?_); rintro e w' ⟨v, rfl, hv, hb⟩; exact ⟨_, rfl, left_F rfl rfl hb trivial hv⟩
    rintro ⟨v3, lo3, hi3⟩ - - -
    refine hK _ _ ?_; clear hK K
    -- 4: call F167(t16, t18)
    refine stepS _ rfl (by kernel_rfl) (fun K hK => ?_); go_simp
    refine ⟨?_, ?_⟩
    · intro wk hk hg hu; have u1 := hu 1 (show 1 ∈ [1, 3] by decide); have u3 := hu 3 (show 3 ∈ [1, 3] by decide); have s1 : Sl wk v1 (digs a) := u1; have s3 : Sl wk v3 (digs b) := u3; go_simp; refine upon_enter ((t2.out _ v1 v3 s1 s3).mono ?_); rintro e w' ⟨v, rfl, hv, hb⟩; exact ⟨_, rfl, left_F rfl rfl hb trivial hv⟩
    rintro ⟨v4, lo4, hi4⟩ - - -
    refine hK _ _ ?_; clear hK K
    -- 5: load<31> *t5
    refine stepK rfl (by kernel_rfl) (fun K hK => ?_); go_simp
    apply Exists.intro; apply And.intro; (focus exact kLoad rfl rfl aggT31 rd rfl id); refine hK _ _ ?_; clear hK K
    -- 6: call F164(t20)
    refine stepS _ rfl (by kernel_rfl) (fun K hK => ?_); go_simp
    refine ⟨?_, ?_⟩
    · intro wk hk hg hu; go_simp; refine upon_enter ((o3.out _).mono ?_); rintro e w' ⟨v, rfl, hv, hb⟩; exact ⟨_, rfl, left_F rfl rfl hb trivial hv⟩
    rintro ⟨v6, lo6, hi6⟩ - - -
    refine hK _ _ ?_; clear hK K
    -- 7: call F171(t19, t21)
    refine stepS _ rfl (by kernel_rfl) (fun K hK => ?_); go_simp
    refine ⟨?_, ?_⟩
    · intro wk hk hg hu; have u4 := hu 4 (show 4 ∈ [4, 6] by decide); have u6 := hu 6 (show 6 ∈ [4, 6] by decide); have s4 : Sl wk v4 (digs n) := u4; have s6 : Sl wk v6 (digs d) := u6; go_simp; refine upon_enter ((hqr.out _ v4 v6 s4 s6).mono ?_); rintro e w' ⟨y, z, rfl, hy, hz, hb⟩; exact ⟨_, rfl, left_F rfl rfl hb ⟨_, _, rfl⟩ ⟨_, _, rfl, hy, hz⟩⟩
    rintro ⟨v7, lo7, hi7⟩ - - ⟨y7, z7, (rfl : v7 = _)⟩
    refine hK _ _ ?_; clear hK K
    -- 8: t22
    refine stepK rfl (by kernel_rfl) (fun K hK => ?_); go_simp
    apply Exists.intro; apply And.intro; (focus (intro wk hk; go_simp; exact ⟨rfl, rfl⟩)); refine hK _ _ ?_; clear hK K
    -- 9: extract t14 #0
    refine stepK rfl (by kernel_rfl) (fun K hK => ?_); go_simp
    apply Exists.intro; apply And.intro; (focus (intro wk hk; go_simp; exact ⟨rfl, rfl⟩)); refine hK _ _ ?_; clear hK K
    -- 10: extract t14 #1
    refine stepK rfl (by kernel_rfl) (fun K hK => ?_); go_simp
    apply Exists.intro; apply And.intro; (focus (intro wk hk; go_simp; exact ⟨rfl, rfl⟩)); refine hK _ _ ?_; clear hK K
    -- 11: assign t23
    refine stepK rfl (by kernel_rfl) (fun K hK => ?_); go_simp
    apply Exists.intro; apply And.intro; (focus (intro wk hk; go_simp; exact ⟨rfl, rfl⟩)); refine hK _ _ ?_; clear hK K
    -- 12: assign t24
    refine stepK rfl (by kernel_rfl) (fun K hK => ?_); go_simp
    apply Exists.intro; apply And.intro; (focus (intro wk hk; go_simp; exact ⟨rfl, rfl⟩)); refine hK _ _ ?_; clear hK K
    refine stepN ?_
    refine hQ _ _ ?_
    intro w2 hT hG hF
    have hb2 := hT.undrew.below
    obtain ⟨y, z, ey, sy, sz⟩ : ∃ u t, (Value.tuple #[y7, z7]) = .tuple #[u, t] ∧ Sl w2 u (digs q) ∧ Sl w2 t (digs r) := hF 7 _ rfl rfl (by decide)
    cases ey
    replace rr0 := rr0.below hb2 rr0.lt
    replace hl := hl.trans (hb2.mono hl.size)
    clear hT hG hF hb2 hQ QQ L ra rb rd o1 o2 o3 hqr t2
    go_upto_region 4 with (fail)
    refine wp_abs (fun wx => Below w.heap.size w wx ∧ Row wx (w.heap.size + 1 + 1 + 1) 31 (arr .u64 (fun _ => 0) 4) ∧ Sl wx y7 (digs q)) ⟨hl, rr0, sy⟩ ?_
    clear hl rr0 sy sz
    rintro w3 ⟨hl, rr0, sy⟩
    let L : List Sp := [sV 1 [] [] (fun u => u = .tuple #[.agg (W4 k), .bool ok]), sO 4 (w.heap.size + 1 + 1 + 1) 31 [2] (fun g => aggOf g 2)]
    refine wp_region_six0 (shs L) (look6 L) (fun c => c = w.heap.size + 1 + 1 + 1) (by kernel_rfl) (by kernel_rfl) (mk_St L [4] [4] (by kernel_rfl) (by kernel_rfl) ⟨ok_V ⟨_, rfl⟩, ok_O aggOf_congr rr0.lt (rfl), trivial⟩ (by simp)) ?_
    intro QQ hQ
    -- 0: t8
    refine stepK rfl (by kernel_rfl) (fun K hK => ?_); go_simp
    apply Exists.intro; apply And.intro; (focus (intro wk hk; go_simp; exact ⟨rfl, rfl⟩)); refine hK _ _ ?_; clear hK K
    -- 1: call F172(t25)
    refine stepS _ rfl (by kernel_rfl) (fun K hK => ?_); go_simp
    refine ⟨?_, ?_⟩
    · intro wk hk hg hu; go_simp; refine upon_enter ((tq.out _ _ (sy.below hk.below)).mono ?_); rintro e w' ⟨rfl, hb⟩; exact ⟨_, rfl, left_V (p := fun u => u = .tuple #[.agg (W4 k), .bool ok]) rfl (hb) rfl⟩
    rintro ⟨v1, lo1, hi1⟩ - - (rfl : v1 = _)
    refine hK _ _ ?_; clear hK K
    -- 2: extract t26 #0
    refine stepK rfl (by kernel_rfl) (fun K hK => ?_); go_simp
    apply Exists.intro; apply And.intro; (focus (intro wk hk; go_simp; exact ⟨rfl, rfl⟩)); refine hK _ _ ?_; clear hK K
    -- 3: extract t26 #1
    refine stepK rfl (by kernel_rfl) (fun K hK => ?_); go_simp
    apply Exists.intro; apply And.intro; (focus (intro wk hk; go_simp; exact ⟨rfl, rfl⟩)); refine hK _ _ ?_; clear hK K
    -- 4: store<31> *t6 = t27
    refine stepS _ rfl (by kernel_rfl) (fun K hK => ?_); go_simp
    refine ⟨?_, ?_⟩
    · exact sStoreO rfl rfl rfl rfl rfl rfl rr0 id (by kernel_rfl) rfl (by kernel_rfl) (by decide) aggOf_congr
    rintro ⟨v4, lo4, hi4⟩ - - (rfl : v4 = undef)
    refine hK _ _ ?_; clear hK K
    -- 5: assign t28
    refine stepKz rfl (fun K hK => ?_); go_simp
    apply Exists.intro; apply And.intro; (focus (intro wk hk; go_simp; exact ⟨rfl, rfl⟩)); refine hK _ _ ?_; clear hK K
    refine stepN ?_
    refine hQ _ _ ?_
    intro w9 hT hG hF
    have hT' := hT
    have x2 : Row w9 (w.heap.size + 1 + 1 + 1) 31 (W4 k) := hF 4 _ rfl rfl (by decide)
    have hl9 : Below w.heap.size w w9 := hl.trans (hT'.below_of hl.size (by intro c hc; omega))
    clear hT hT' hG hF hQ QQ L
    go_wp2_with fail
    refine bodyPost_ret (results_ct rfl aggT31 rfl x2 rfl) rfl ?_
    exact ⟨rfl, hl9⟩
set_option maxRecDepth 100000 in
set_option maxHeartbeats 16000000 in
theorem refupU {a b d : Nat} (ha : a < M) (hb : b < M) (hd : d < M) (w : World) : Calls Try.prog 88 #[.agg (W4 a), .agg (W4 b), .agg (W4 d)] w (Ret w (.tuple #[.agg (W4 (upN (a * b) d)), .bool (upB (a * b) d)])) := by
  by_cases h0 : d = 0
  · have q0 : ∀ wx, (Op.equalIn 10000 31 (.agg (W4 d)) (.agg #[.int .u64 0, .int .u64 0, .int .u64 0, .int .u64 0])).run Try.prog wx = .ok true wx := fun wx => by rw [eqU0 hd, decide_eq_true h0]
    rw [show upN (a * b) d = 0 from by unfold upN; rw [if_pos (show remN _ _ = 0 from if_neg fun h => h.1 h0)]; exact if_neg fun h => h.1 h0, show upB (a * b) d = false from by unfold upB; rw [if_pos (show remN _ _ = 0 from if_neg fun h => h.1 h0)]; exact decide_eq_false fun h => h.1 h0]
    clear h0
    go_enter Try.func88, Try.ntmps88
    apply wp_seq_eq
    focus
      intro J hJ
      go_wp2_with fail
      exact hJ
    refine wp_abs (Mem w [(w.heap.size, 31, W4 a), (w.heap.size + 1, 31, W4 b), (w.heap.size + 1 + 1, 31, W4 d), (w.heap.size + 1 + 1 + 1, 31, arr .u64 (fun _ => 0) 4)]) ⟨by go_grown, ?_, ?_, ?_, ?_, trivial⟩ ?_
    · repeat (first | (refine Row.new_at ?_; simp; done) | refine Row.alloc ?_ _)
    · repeat (first | (refine Row.new_at ?_; simp; done) | refine Row.alloc ?_ _)
    · repeat (first | (refine Row.new_at ?_; simp; done) | refine Row.alloc ?_ _)
    · repeat (first | (refine Row.new_at ?_; simp; done) | refine Row.alloc ?_ _)
    intro w0 hM
    obtain ⟨hl, ra, rb, rd, rr0, -⟩ := hM
    go_upto_region 1 with (fail)
    let L : List Sp := []
    refine wp_region_six0 (shs L) (look6 L) (None_) (by kernel_rfl) (by kernel_rfl) (mk_St L [] [] (by kernel_rfl) (by kernel_rfl) trivial (by simp)) ?_
    intro QQ hQ
    -- 0: load<31> *t5
    refine stepK rfl (by kernel_rfl) (fun K hK => ?_); go_simp
    apply Exists.intro; apply And.intro; (focus exact kLoad rfl rfl aggT31 rd rfl id); refine hK _ _ ?_; clear hK K
    -- 1: build<31> 
    refine stepK rfl (by kernel_rfl) (fun K hK => ?_); go_simp
    apply Exists.intro; apply And.intro; (focus (intro wk hk; go_simp; exact ⟨rfl, rfl⟩)); refine hK _ _ ?_; clear hK K
    -- 2: eql<31> t10, t11
    refine stepK rfl (by kernel_rfl) (fun K hK => ?_); go_simp
    apply Exists.intro; apply And.intro; (focus (intro wk hk; go_simp; exact ⟨rfl, rfl⟩)); refine hK _ _ ?_; clear hK K
    refine stepN ?_
    refine hQ _ _ ?_
    intro w1 hT hG hF
    have hbw1 := hT.below
    replace rr0 := rr0.below hbw1 rr0.lt
    replace hl := hl.trans (hbw1.mono hl.size)
    clear hT hG hF hbw1 hQ QQ L 
    go_upto_region 2 with (fail)
    let L : List Sp := [sO 1 (w.heap.size + 1 + 1 + 1) 31 [0] (fun g => aggOf g 0)]
    refine wp_region_six0 (shs L) (look6 L) (fun c => c = w.heap.size + 1 + 1 + 1) (by kernel_rfl) (by kernel_rfl) (mk_St L [1] [1] (by kernel_rfl) (by kernel_rfl) ⟨ok_O aggOf_congr rr0.lt (rfl), trivial⟩ (by simp)) ?_
    intro QQ hQ
    -- 0: build<31> 
    refine stepK rfl (by kernel_rfl) (fun K hK => ?_); go_simp
    apply Exists.intro; apply And.intro; (focus (intro wk hk; go_simp; exact ⟨rfl, rfl⟩)); refine hK _ _ ?_; clear hK K
    -- 1: store<31> *t6 = t13
    refine stepS _ rfl (by kernel_rfl) (fun K hK => ?_); go_simp
    refine ⟨?_, ?_⟩
    · exact sStoreO rfl rfl rfl rfl rfl rfl rr0 id (by kernel_rfl) rfl (by kernel_rfl) (by decide) aggOf_congr
    rintro ⟨v1, lo1, hi1⟩ - - (rfl : v1 = undef)
    refine hK _ _ ?_; clear hK K
    -- 2: assign false
    refine stepKz rfl (fun K hK => ?_); go_simp
    apply Exists.intro; apply And.intro; (focus (intro wk hk; go_simp; exact ⟨rfl, rfl⟩)); refine hK _ _ ?_; clear hK K
    refine stepN ?_
    refine hQ _ _ ?_
    intro w9 hT hG hF
    have hT' := hT
    have x2 : Row w9 (w.heap.size + 1 + 1 + 1) 31 (W4 0) := Row.congr (show Row w9 (w.heap.size + 1 + 1 + 1) 31 _ from hF 1 _ rfl rfl (by decide)) W4_zero
    have hl9 : Below w.heap.size w w9 := hl.trans (hT'.below_of hl.size (by intro c hc; omega))
    clear hT hT' hG hF hQ QQ L
    go_wp2_with fail
    refine bodyPost_ret (results_ct rfl aggT31 rfl x2 rfl) rfl ?_
    exact ⟨rfl, hl9⟩
  · have q0 : ∀ wx, (Op.equalIn 10000 31 (.agg (W4 d)) (.agg #[.int .u64 0, .int .u64 0, .int .u64 0, .int .u64 0])).run Try.prog wx = .ok false wx := fun wx => by rw [eqU0 hd, decide_eq_false h0]
    rw [(up_cap h0).1, (up_cap h0).2]
    have hqr := Lib.hid (quorem2 (MM_mul ha hb) hd h0)
    have t2 := Lib.hid (times2 ha hb)
    have o1 := Lib.hid fun wx => of164 a ha wx
    have o2 := Lib.hid fun wx => of164 b hb wx
    have o3 := Lib.hid fun wx => of164 d hd wx
    by_cases hr0 : a * b % d = 0
    · have tq := Lib.hid (tou2 (Nat.lt_of_le_of_lt (Nat.le_succ _) (MM_up (d := d) ha hb)))
      rw [if_pos hr0]
      obtain ⟨n, hn⟩ : ∃ n, a * b = n := ⟨_, rfl⟩
      rw [hn] at hqr tq t2 hr0
      rw [hn]
      obtain ⟨q, hq⟩ : ∃ q, n / d = q := ⟨_, rfl⟩
      obtain ⟨r, hr⟩ : ∃ r, n % d = r := ⟨_, rfl⟩
      rw [hq] at hqr tq
      rw [hr] at hqr hr0
      rw [hq]
      obtain ⟨k, hk'⟩ : ∃ k, capN (q) = k := ⟨_, rfl⟩
      obtain ⟨ok, hok⟩ : ∃ ok, decide (q < M) = ok := ⟨_, rfl⟩
      rw [hk', hok] at tq
      rw [hk', hok]
      clear hn hq hr hk' hok h0
      replace hr0 := Lib.hid hr0
      go_enter Try.func88, Try.ntmps88
      apply wp_seq_eq
      focus
        intro J hJ
        go_wp2_with fail
        exact hJ
      refine wp_abs (Mem w [(w.heap.size, 31, W4 a), (w.heap.size + 1, 31, W4 b), (w.heap.size + 1 + 1, 31, W4 d), (w.heap.size + 1 + 1 + 1, 31, arr .u64 (fun _ => 0) 4)]) ⟨by go_grown, ?_, ?_, ?_, ?_, trivial⟩ ?_
      · repeat (first | (refine Row.new_at ?_; simp; done) | refine Row.alloc ?_ _)
      · repeat (first | (refine Row.new_at ?_; simp; done) | refine Row.alloc ?_ _)
      · repeat (first | (refine Row.new_at ?_; simp; done) | refine Row.alloc ?_ _)
      · repeat (first | (refine Row.new_at ?_; simp; done) | refine Row.alloc ?_ _)
      intro w0 hM
      obtain ⟨hl, ra, rb, rd, rr0, -⟩ := hM
      go_upto_region 1 with (fail)
      let L : List Sp := []
      refine wp_region_six0 (shs L) (look6 L) (None_) (by kernel_rfl) (by kernel_rfl) (mk_St L [] [] (by kernel_rfl) (by kernel_rfl) trivial (by simp)) ?_
      intro QQ hQ
      -- 0: load<31> *t5
      refine stepK rfl (by kernel_rfl) (fun K hK => ?_); go_simp
      apply Exists.intro; apply And.intro; (focus exact kLoad rfl rfl aggT31 rd rfl id); refine hK _ _ ?_; clear hK K
      -- 1: build<31> 
      refine stepK rfl (by kernel_rfl) (fun K hK => ?_); go_simp
      apply Exists.intro; apply And.intro; (focus (intro wk hk; go_simp; exact ⟨rfl, rfl⟩)); refine hK _ _ ?_; clear hK K
      -- 2: eql<31> t10, t11
      refine stepK rfl (by kernel_rfl) (fun K hK => ?_); go_simp
      apply Exists.intro; apply And.intro; (focus (intro wk hk; go_simp; exact ⟨rfl, rfl⟩)); refine hK _ _ ?_; clear hK K
      refine stepN ?_
      refine hQ _ _ ?_
      intro w1 hT hG hF
      have hbw1 := hT.below
      replace ra := ra.below hbw1 ra.lt
      replace rb := rb.below hbw1 rb.lt
      replace rd := rd.below hbw1 rd.lt
      replace rr0 := rr0.below hbw1 rr0.lt
      replace hl := hl.trans (hbw1.mono hl.size)
      clear hT hG hF hbw1 hQ QQ L 
      go_upto_region 3 with (fail)
      let L : List Sp := [sF 1 [] [] [] (fun _ => True) (fun x w => Sl w x.v (digs (a))), sF 3 [] [] [] (fun _ => True) (fun x w => Sl w x.v (digs (b))), sF 4 [1, 3] [1, 3] [] (fun _ => True) (fun x w => Sl w x.v (digs (n))), sF 6 [] [] [] (fun _ => True) (fun x w => Sl w x.v (digs (d))), sF 7 [4, 6, 1, 3] [4, 6] [] (fun x => ∃ y z, x.v = .tuple #[y, z]) (fun x w => ∃ y z, x.v = .tuple #[y, z] ∧ Sl w y (digs q) ∧ Sl w z (digs r))]
      refine wp_region_six (shs L) (look6 L) (None_) (by kernel_rfl) (by kernel_rfl) (mk_St L [] [] (by kernel_rfl) (by kernel_rfl) ⟨ok_F (any_some _) (fun _ _ _ h hb => Sl.below h hb), ok_F (any_some _) (fun _ _ _ h hb => Sl.below h hb), ok_F (any_some _) (fun _ _ _ h hb => Sl.below h hb), ok_F (any_some _) (fun _ _ _ h hb => Sl.below h hb), ok_F qr_some (fun _ _ _ h hb => let ⟨y, z, e, s, t⟩ := h; ⟨y, z, e, Sl.below s hb, Sl.below t hb⟩), trivial⟩ (by simp)) ?_
      intro QQ hQ
      -- 0: load<31> *t3
      refine stepK rfl (by kernel_rfl) (fun K hK => ?_); go_simp
      apply Exists.intro; apply And.intro; (focus exact kLoad rfl rfl aggT31 ra rfl id); refine hK _ _ ?_; clear hK K
      -- 1: call F164(t15)
      refine stepS _ rfl (by kernel_rfl) (fun K hK => ?_); go_simp
      refine ⟨?_, ?_⟩
      · intro wk hk hg hu; go_simp; refine upon_enter ((o1.out _).mono ?_); rintro e w' ⟨v, rfl, hv, hb⟩; exact ⟨_, rfl, left_F rfl rfl hb trivial hv⟩
      rintro ⟨v1, lo1, hi1⟩ - - -
      refine hK _ _ ?_; clear hK K
      -- 2: load<31> *t4
      refine stepK rfl (by kernel_rfl) (fun K hK => ?_); go_simp
      apply Exists.intro; apply And.intro; (focus exact kLoad rfl rfl aggT31 rb rfl id); refine hK _ _ ?_; clear hK K
      -- 3: call F164(t17)
      refine stepS _ rfl (by kernel_rfl) (fun K hK => ?_); go_simp
      refine ⟨?_, ?_⟩
      · intro wk hk hg hu; go_simp; refine upon_enter ((o2.out _).mono ?_); rintro e w' ⟨v, rfl, hv, hb⟩; exact ⟨_, rfl, left_F rfl rfl hb trivial hv⟩
      rintro ⟨v3, lo3, hi3⟩ - - -
      refine hK _ _ ?_; clear hK K
      -- 4: call F167(t16, t18)
      refine stepS _ rfl (by kernel_rfl) (fun K hK => ?_); go_simp
      refine ⟨?_, ?_⟩
      · intro wk hk hg hu; have u1 := hu 1 (show 1 ∈ [1, 3] by decide); have u3 := hu 3 (show 3 ∈ [1, 3] by decide); have s1 : Sl wk v1 (digs a) := u1; have s3 : Sl wk v3 (digs b) := u3; go_simp; refine upon_enter ((t2.out _ v1 v3 s1 s3).mono ?_); rintro e w' ⟨v, rfl, hv, hb⟩; exact ⟨_, rfl, left_F rfl rfl hb trivial hv⟩
      rintro ⟨v4, lo4, hi4⟩ - - -
      refine hK _ _ ?_; clear hK K
      -- 5: load<31> *t5
      refine stepK rfl (by kernel_rfl) (fun K hK => ?_); go_simp
      apply Exists.intro; apply And.intro; (focus exact kLoad rfl rfl aggT31 rd rfl id); refine hK _ _ ?_; clear hK K
      -- 6: call F164(t20)
      refine stepS _ rfl (by kernel_rfl) (fun K hK => ?_); go_simp
      refine ⟨?_, ?_⟩
      · intro wk hk hg hu; go_simp; refine upon_enter ((o3.out _).mono ?_); rintro e w' ⟨v, rfl, hv, hb⟩; exact ⟨_, rfl, left_F rfl rfl hb trivial hv⟩
      rintro ⟨v6, lo6, hi6⟩ - - -
      refine hK _ _ ?_; clear hK K
      -- 7: call F171(t19, t21)
      refine stepS _ rfl (by kernel_rfl) (fun K hK => ?_); go_simp
      refine ⟨?_, ?_⟩
      · intro wk hk hg hu; have u4 := hu 4 (show 4 ∈ [4, 6] by decide); have u6 := hu 6 (show 6 ∈ [4, 6] by decide); have s4 : Sl wk v4 (digs n) := u4; have s6 : Sl wk v6 (digs d) := u6; go_simp; refine upon_enter ((hqr.out _ v4 v6 s4 s6).mono ?_); rintro e w' ⟨y, z, rfl, hy, hz, hb⟩; exact ⟨_, rfl, left_F rfl rfl hb ⟨_, _, rfl⟩ ⟨_, _, rfl, hy, hz⟩⟩
      rintro ⟨v7, lo7, hi7⟩ - - ⟨y7, z7, (rfl : v7 = _)⟩
      refine hK _ _ ?_; clear hK K
      -- 8: t22
      refine stepK rfl (by kernel_rfl) (fun K hK => ?_); go_simp
      apply Exists.intro; apply And.intro; (focus (intro wk hk; go_simp; exact ⟨rfl, rfl⟩)); refine hK _ _ ?_; clear hK K
      -- 9: extract t14 #0
      refine stepK rfl (by kernel_rfl) (fun K hK => ?_); go_simp
      apply Exists.intro; apply And.intro; (focus (intro wk hk; go_simp; exact ⟨rfl, rfl⟩)); refine hK _ _ ?_; clear hK K
      -- 10: extract t14 #1
      refine stepK rfl (by kernel_rfl) (fun K hK => ?_); go_simp
      apply Exists.intro; apply And.intro; (focus (intro wk hk; go_simp; exact ⟨rfl, rfl⟩)); refine hK _ _ ?_; clear hK K
      -- 11: assign t23
      refine stepK rfl (by kernel_rfl) (fun K hK => ?_); go_simp
      apply Exists.intro; apply And.intro; (focus (intro wk hk; go_simp; exact ⟨rfl, rfl⟩)); refine hK _ _ ?_; clear hK K
      -- 12: assign t24
      refine stepK rfl (by kernel_rfl) (fun K hK => ?_); go_simp
      apply Exists.intro; apply And.intro; (focus (intro wk hk; go_simp; exact ⟨rfl, rfl⟩)); refine hK _ _ ?_; clear hK K
      refine stepN ?_
      refine hQ _ _ ?_
      intro w2 hT hG hF
      have hb2 := hT.undrew.below
      obtain ⟨y, z, ey, sy, sz⟩ : ∃ u t, (Value.tuple #[y7, z7]) = .tuple #[u, t] ∧ Sl w2 u (digs q) ∧ Sl w2 t (digs r) := hF 7 _ rfl rfl (by decide)
      cases ey
      replace rr0 := rr0.below hb2 rr0.lt
      replace hl := hl.trans (hb2.mono hl.size)
      clear hT hG hF hb2 hQ QQ L ra rb rd o1 o2 o3 hqr t2
      go_upto_region 4 with (fail)
      obtain ⟨rz, cz, ez, -, -, -⟩ := id sz
      subst ez
      obtain ⟨n1, hn1⟩ : ∃ n, (digs r).length = n := ⟨_, rfl⟩
      rw [hn1]
      obtain rfl : n1 = 0 := by rw [← hn1, hr0.out, digs_zero]; rfl
      clear hn1 hr0 sz
      go_upto_region 6 with (fail)
      refine wp_abs (fun wx => Below w.heap.size w wx ∧ Row wx (w.heap.size + 1 + 1 + 1) 31 (arr .u64 (fun _ => 0) 4) ∧ Sl wx y7 (digs q)) ⟨hl, rr0, sy⟩ ?_
      clear hl rr0 sy
      rintro w3 ⟨hl, rr0, sy⟩
      let L : List Sp := [sV 1 [] [] (fun u => u = .tuple #[.agg (W4 k), .bool ok]), sO 4 (w.heap.size + 1 + 1 + 1) 31 [2] (fun g => aggOf g 2)]
      refine wp_region_six0 (shs L) (look6 L) (fun c => c = w.heap.size + 1 + 1 + 1) (by kernel_rfl) (by kernel_rfl) (mk_St L [4] [4] (by kernel_rfl) (by kernel_rfl) ⟨ok_V ⟨_, rfl⟩, ok_O aggOf_congr rr0.lt (rfl), trivial⟩ (by simp)) ?_
      intro QQ hQ
      -- 0: t8
      refine stepK rfl (by kernel_rfl) (fun K hK => ?_); go_simp
      apply Exists.intro; apply And.intro; (focus (intro wk hk; go_simp; exact ⟨rfl, rfl⟩)); refine hK _ _ ?_; clear hK K
      -- 1: call F172(t31)
      refine stepS _ rfl (by kernel_rfl) (fun K hK => ?_); go_simp
      refine ⟨?_, ?_⟩
      · intro wk hk hg hu; go_simp; refine upon_enter ((tq.out _ _ (sy.below hk.below)).mono ?_); rintro e w' ⟨rfl, hb⟩; exact ⟨_, rfl, left_V (p := fun u => u = .tuple #[.agg (W4 k), .bool ok]) rfl (hb) rfl⟩
      rintro ⟨v1, lo1, hi1⟩ - - (rfl : v1 = _)
      refine hK _ _ ?_; clear hK K
      -- 2: extract t32 #0
      refine stepK rfl (by kernel_rfl) (fun K hK => ?_); go_simp
      apply Exists.intro; apply And.intro; (focus (intro wk hk; go_simp; exact ⟨rfl, rfl⟩)); refine hK _ _ ?_; clear hK K
      -- 3: extract t32 #1
      refine stepK rfl (by kernel_rfl) (fun K hK => ?_); go_simp
      apply Exists.intro; apply And.intro; (focus (intro wk hk; go_simp; exact ⟨rfl, rfl⟩)); refine hK _ _ ?_; clear hK K
      -- 4: store<31> *t6 = t33
      refine stepS _ rfl (by kernel_rfl) (fun K hK => ?_); go_simp
      refine ⟨?_, ?_⟩
      · exact sStoreO rfl rfl rfl rfl rfl rfl rr0 id (by kernel_rfl) rfl (by kernel_rfl) (by decide) aggOf_congr
      rintro ⟨v4, lo4, hi4⟩ - - (rfl : v4 = undef)
      refine hK _ _ ?_; clear hK K
      -- 5: assign t34
      refine stepKz rfl (fun K hK => ?_); go_simp
      apply Exists.intro; apply And.intro; (focus (intro wk hk; go_simp; exact ⟨rfl, rfl⟩)); refine hK _ _ ?_; clear hK K
      refine stepN ?_
      refine hQ _ _ ?_
      intro w9 hT hG hF
      have hT' := hT
      have x2 : Row w9 (w.heap.size + 1 + 1 + 1) 31 (W4 k) := hF 4 _ rfl rfl (by decide)
      have hl9 : Below w.heap.size w w9 := hl.trans (hT'.below_of hl.size (by intro c hc; omega))
      clear hT hT' hG hF hQ QQ L
      go_wp2_with fail
      refine bodyPost_ret (results_ct rfl aggT31 rfl x2 rfl) rfl ?_
      exact ⟨rfl, hl9⟩
    · have tq := Lib.hid (tou2 (MM_up (d := d) ha hb))
      rw [if_neg hr0]
      have hqM := Nat.lt_of_le_of_lt (Nat.le_succ _) (MM_up (d := d) ha hb)
      obtain ⟨n, hn⟩ : ∃ n, a * b = n := ⟨_, rfl⟩
      rw [hn] at hqr tq t2 hr0 hqM
      rw [hn]
      obtain ⟨q, hq⟩ : ∃ q, n / d = q := ⟨_, rfl⟩
      obtain ⟨r, hr⟩ : ∃ r, n % d = r := ⟨_, rfl⟩
      rw [hq] at hqr tq hqM
      rw [hr] at hqr hr0
      rw [hq]
      have p1 := Lib.hid (plus_one hqM)
      obtain ⟨k, hk'⟩ : ∃ k, capN (q + 1) = k := ⟨_, rfl⟩
      obtain ⟨ok, hok⟩ : ∃ ok, decide (q + 1 < M) = ok := ⟨_, rfl⟩
      rw [hk', hok] at tq
      rw [hk', hok]
      clear hn hq hr hk' hok h0 hqM
      replace hr0 := Lib.hid hr0
      go_enter Try.func88, Try.ntmps88
      apply wp_seq_eq
      focus
        intro J hJ
        go_wp2_with fail
        exact hJ
      refine wp_abs (Mem w [(w.heap.size, 31, W4 a), (w.heap.size + 1, 31, W4 b), (w.heap.size + 1 + 1, 31, W4 d), (w.heap.size + 1 + 1 + 1, 31, arr .u64 (fun _ => 0) 4)]) ⟨by go_grown, ?_, ?_, ?_, ?_, trivial⟩ ?_
      · repeat (first | (refine Row.new_at ?_; simp; done) | refine Row.alloc ?_ _)
      · repeat (first | (refine Row.new_at ?_; simp; done) | refine Row.alloc ?_ _)
      · repeat (first | (refine Row.new_at ?_; simp; done) | refine Row.alloc ?_ _)
      · repeat (first | (refine Row.new_at ?_; simp; done) | refine Row.alloc ?_ _)
      intro w0 hM
      obtain ⟨hl, ra, rb, rd, rr0, -⟩ := hM
      go_upto_region 1 with (fail)
      let L : List Sp := []
      refine wp_region_six0 (shs L) (look6 L) (None_) (by kernel_rfl) (by kernel_rfl) (mk_St L [] [] (by kernel_rfl) (by kernel_rfl) trivial (by simp)) ?_
      intro QQ hQ
      -- 0: load<31> *t5
      refine stepK rfl (by kernel_rfl) (fun K hK => ?_); go_simp
      apply Exists.intro; apply And.intro; (focus exact kLoad rfl rfl aggT31 rd rfl id); refine hK _ _ ?_; clear hK K
      -- 1: build<31> 
      refine stepK rfl (by kernel_rfl) (fun K hK => ?_); go_simp
      apply Exists.intro; apply And.intro; (focus (intro wk hk; go_simp; exact ⟨rfl, rfl⟩)); refine hK _ _ ?_; clear hK K
      -- 2: eql<31> t10, t11
      refine stepK rfl (by kernel_rfl) (fun K hK => ?_); go_simp
      apply Exists.intro; apply And.intro; (focus (intro wk hk; go_simp; exact ⟨rfl, rfl⟩)); refine hK _ _ ?_; clear hK K
      refine stepN ?_
      refine hQ _ _ ?_
      intro w1 hT hG hF
      have hbw1 := hT.below
      replace ra := ra.below hbw1 ra.lt
      replace rb := rb.below hbw1 rb.lt
      replace rd := rd.below hbw1 rd.lt
      replace rr0 := rr0.below hbw1 rr0.lt
      replace hl := hl.trans (hbw1.mono hl.size)
      clear hT hG hF hbw1 hQ QQ L 
      go_upto_region 3 with (fail)
      let L : List Sp := [sF 1 [] [] [] (fun _ => True) (fun x w => Sl w x.v (digs (a))), sF 3 [] [] [] (fun _ => True) (fun x w => Sl w x.v (digs (b))), sF 4 [1, 3] [1, 3] [] (fun _ => True) (fun x w => Sl w x.v (digs (n))), sF 6 [] [] [] (fun _ => True) (fun x w => Sl w x.v (digs (d))), sF 7 [4, 6, 1, 3] [4, 6] [] (fun x => ∃ y z, x.v = .tuple #[y, z]) (fun x w => ∃ y z, x.v = .tuple #[y, z] ∧ Sl w y (digs q) ∧ Sl w z (digs r))]
      refine wp_region_six (shs L) (look6 L) (None_) (by kernel_rfl) (by kernel_rfl) (mk_St L [] [] (by kernel_rfl) (by kernel_rfl) ⟨ok_F (any_some _) (fun _ _ _ h hb => Sl.below h hb), ok_F (any_some _) (fun _ _ _ h hb => Sl.below h hb), ok_F (any_some _) (fun _ _ _ h hb => Sl.below h hb), ok_F (any_some _) (fun _ _ _ h hb => Sl.below h hb), ok_F qr_some (fun _ _ _ h hb => let ⟨y, z, e, s, t⟩ := h; ⟨y, z, e, Sl.below s hb, Sl.below t hb⟩), trivial⟩ (by simp)) ?_
      intro QQ hQ
      -- 0: load<31> *t3
      refine stepK rfl (by kernel_rfl) (fun K hK => ?_); go_simp
      apply Exists.intro; apply And.intro; (focus exact kLoad rfl rfl aggT31 ra rfl id); refine hK _ _ ?_; clear hK K
      -- 1: call F164(t15)
      refine stepS _ rfl (by kernel_rfl) (fun K hK => ?_); go_simp
      refine ⟨?_, ?_⟩
      · intro wk hk hg hu; go_simp; refine upon_enter ((o1.out _).mono ?_); rintro e w' ⟨v, rfl, hv, hb⟩; exact ⟨_, rfl, left_F rfl rfl hb trivial hv⟩
      rintro ⟨v1, lo1, hi1⟩ - - -
      refine hK _ _ ?_; clear hK K
      -- 2: load<31> *t4
      refine stepK rfl (by kernel_rfl) (fun K hK => ?_); go_simp
      apply Exists.intro; apply And.intro; (focus exact kLoad rfl rfl aggT31 rb rfl id); refine hK _ _ ?_; clear hK K
      -- 3: call F164(t17)
      refine stepS _ rfl (by kernel_rfl) (fun K hK => ?_); go_simp
      refine ⟨?_, ?_⟩
      · intro wk hk hg hu; go_simp; refine upon_enter ((o2.out _).mono ?_); rintro e w' ⟨v, rfl, hv, hb⟩; exact ⟨_, rfl, left_F rfl rfl hb trivial hv⟩
      rintro ⟨v3, lo3, hi3⟩ - - -
      refine hK _ _ ?_; clear hK K
      -- 4: call F167(t16, t18)
      refine stepS _ rfl (by kernel_rfl) (fun K hK => ?_); go_simp
      refine ⟨?_, ?_⟩
      · intro wk hk hg hu; have u1 := hu 1 (show 1 ∈ [1, 3] by decide); have u3 := hu 3 (show 3 ∈ [1, 3] by decide); have s1 : Sl wk v1 (digs a) := u1; have s3 : Sl wk v3 (digs b) := u3; go_simp; refine upon_enter ((t2.out _ v1 v3 s1 s3).mono ?_); rintro e w' ⟨v, rfl, hv, hb⟩; exact ⟨_, rfl, left_F rfl rfl hb trivial hv⟩
      rintro ⟨v4, lo4, hi4⟩ - - -
      refine hK _ _ ?_; clear hK K
      -- 5: load<31> *t5
      refine stepK rfl (by kernel_rfl) (fun K hK => ?_); go_simp
      apply Exists.intro; apply And.intro; (focus exact kLoad rfl rfl aggT31 rd rfl id); refine hK _ _ ?_; clear hK K
      -- 6: call F164(t20)
      refine stepS _ rfl (by kernel_rfl) (fun K hK => ?_); go_simp
      refine ⟨?_, ?_⟩
      · intro wk hk hg hu; go_simp; refine upon_enter ((o3.out _).mono ?_); rintro e w' ⟨v, rfl, hv, hb⟩; exact ⟨_, rfl, left_F rfl rfl hb trivial hv⟩
      rintro ⟨v6, lo6, hi6⟩ - - -
      refine hK _ _ ?_; clear hK K
      -- 7: call F171(t19, t21)
      refine stepS _ rfl (by kernel_rfl) (fun K hK => ?_); go_simp
      refine ⟨?_, ?_⟩
      · intro wk hk hg hu; have u4 := hu 4 (show 4 ∈ [4, 6] by decide); have u6 := hu 6 (show 6 ∈ [4, 6] by decide); have s4 : Sl wk v4 (digs n) := u4; have s6 : Sl wk v6 (digs d) := u6; go_simp; refine upon_enter ((hqr.out _ v4 v6 s4 s6).mono ?_); rintro e w' ⟨y, z, rfl, hy, hz, hb⟩; exact ⟨_, rfl, left_F rfl rfl hb ⟨_, _, rfl⟩ ⟨_, _, rfl, hy, hz⟩⟩
      rintro ⟨v7, lo7, hi7⟩ - - ⟨y7, z7, (rfl : v7 = _)⟩
      refine hK _ _ ?_; clear hK K
      -- 8: t22
      refine stepK rfl (by kernel_rfl) (fun K hK => ?_); go_simp
      apply Exists.intro; apply And.intro; (focus (intro wk hk; go_simp; exact ⟨rfl, rfl⟩)); refine hK _ _ ?_; clear hK K
      -- 9: extract t14 #0
      refine stepK rfl (by kernel_rfl) (fun K hK => ?_); go_simp
      apply Exists.intro; apply And.intro; (focus (intro wk hk; go_simp; exact ⟨rfl, rfl⟩)); refine hK _ _ ?_; clear hK K
      -- 10: extract t14 #1
      refine stepK rfl (by kernel_rfl) (fun K hK => ?_); go_simp
      apply Exists.intro; apply And.intro; (focus (intro wk hk; go_simp; exact ⟨rfl, rfl⟩)); refine hK _ _ ?_; clear hK K
      -- 11: assign t23
      refine stepK rfl (by kernel_rfl) (fun K hK => ?_); go_simp
      apply Exists.intro; apply And.intro; (focus (intro wk hk; go_simp; exact ⟨rfl, rfl⟩)); refine hK _ _ ?_; clear hK K
      -- 12: assign t24
      refine stepK rfl (by kernel_rfl) (fun K hK => ?_); go_simp
      apply Exists.intro; apply And.intro; (focus (intro wk hk; go_simp; exact ⟨rfl, rfl⟩)); refine hK _ _ ?_; clear hK K
      refine stepN ?_
      refine hQ _ _ ?_
      intro w2 hT hG hF
      have hb2 := hT.undrew.below
      obtain ⟨y, z, ey, sy, sz⟩ : ∃ u t, (Value.tuple #[y7, z7]) = .tuple #[u, t] ∧ Sl w2 u (digs q) ∧ Sl w2 t (digs r) := hF 7 _ rfl rfl (by decide)
      cases ey
      replace rr0 := rr0.below hb2 rr0.lt
      replace hl := hl.trans (hb2.mono hl.size)
      clear hT hG hF hb2 hQ QQ L ra rb rd o1 o2 o3 hqr t2
      go_upto_region 4 with (fail)
      obtain ⟨rz, cz, ez, -, -, -⟩ := id sz
      subst ez
      obtain ⟨n1, hn1⟩ : ∃ n, (digs r).length = n := ⟨_, rfl⟩
      rw [hn1]
      have g1 : 0 < n1 := by rw [← hn1]; exact digs_ne hr0.out
      clear hn1 hr0 sz
      go_upto_region 5 with (fail)
      refine wp_abs (fun wx => Below w.heap.size w wx ∧ Row wx (w.heap.size + 1 + 1 + 1) 31 (arr .u64 (fun _ => 0) 4) ∧ Sl wx y7 (digs q)) ⟨hl, rr0, sy⟩ ?_
      clear hl rr0 sy
      rintro w3 ⟨hl, rr0, sy⟩
      let L : List Sp := [sL 1 181 [] 1 #[.int .u32 1], sF 2 [1] [1] [] (fun _ => True) (fun x w => Sl w x.v (digs (q + 1)))]
      refine wp_region_six0 (shs L) (look6 L) (None_) (by kernel_rfl) (by kernel_rfl) (mk_St L [] [] (by kernel_rfl) (by kernel_rfl) ⟨ok_L, ok_F (any_some _) (fun _ _ _ h hb => Sl.below h hb), trivial⟩ (by simp)) ?_
      intro QQ hQ
      -- 0: t8
      refine stepK rfl (by kernel_rfl) (fun K hK => ?_); go_simp
      apply Exists.intro; apply And.intro; (focus (intro wk hk; go_simp; exact ⟨rfl, rfl⟩)); refine hK _ _ ?_; clear hK K
      -- 1: buildSlice<153> len 1 0:1u32
      refine stepS _ rfl (by kernel_rfl) (fun K hK => ?_); go_simp
      refine ⟨?_, ?_⟩
      · intro wk hk hg hu; go_simp; exact left_L rfl rfl
      rintro ⟨v1, lo1, hi1⟩ hlo1 hhi1 ⟨e1, f1⟩
      replace e1 : v1 = .slice (some ⟨lo1, 0, none⟩) 1 1 := e1; replace f1 : hi1 = lo1 + 1 := f1; replace hlo1 : _ ≤ lo1 := hlo1; subst e1; subst f1
      refine hK _ _ ?_; clear hK K
      -- 2: call F163(t28, t29)
      refine stepS _ rfl (by kernel_rfl) (fun K hK => ?_); go_simp
      refine ⟨?_, ?_⟩
      · intro wk hk hg hu; have u1 := hu 1 (show 1 ∈ [1] by decide); have r1 : Row wk lo1 181 #[.int .u32 1] := And.right (a := lo1 + 1 = lo1 + 1) u1; go_simp; refine upon_enter ((p1.out _ _ _ (sy.below hk.below) (sl_one r1)).mono ?_); rintro e w' ⟨v, rfl, hv, hb⟩; exact ⟨_, rfl, left_F rfl rfl hb trivial hv⟩
      rintro ⟨v2, lo2, hi2⟩ - - -
      refine hK _ _ ?_; clear hK K
      -- 3: assign t30
      refine stepK rfl (by kernel_rfl) (fun K hK => ?_); go_simp
      apply Exists.intro; apply And.intro; (focus (intro wk hk; go_simp; exact ⟨rfl, rfl⟩)); refine hK _ _ ?_; clear hK K
      refine stepN ?_
      refine hQ _ _ ?_
      intro w4 hT hG hF
      have hb4 := hT.below
      replace sy : Sl w4 v2 (digs (q + 1)) := hF 2 _ rfl rfl (by decide)
      replace rr0 := rr0.below hb4 rr0.lt
      replace hl := hl.trans (hb4.mono hl.size)
      clear hT hG hF hb4 hQ QQ L p1 hlo1 hhi1
      go_upto_region 6 with (fail)
      refine wp_abs (fun wx => Below w.heap.size w wx ∧ Row wx (w.heap.size + 1 + 1 + 1) 31 (arr .u64 (fun _ => 0) 4) ∧ Sl wx v2 (digs (q + 1))) ⟨hl, rr0, sy⟩ ?_
      clear hl rr0 sy
      rintro w5 ⟨hl, rr0, sy⟩
      let L : List Sp := [sV 1 [] [] (fun u => u = .tuple #[.agg (W4 k), .bool ok]), sO 4 (w.heap.size + 1 + 1 + 1) 31 [2] (fun g => aggOf g 2)]
      refine wp_region_six0 (shs L) (look6 L) (fun c => c = w.heap.size + 1 + 1 + 1) (by kernel_rfl) (by kernel_rfl) (mk_St L [4] [4] (by kernel_rfl) (by kernel_rfl) ⟨ok_V ⟨_, rfl⟩, ok_O aggOf_congr rr0.lt (rfl), trivial⟩ (by simp)) ?_
      intro QQ hQ
      -- 0: t8
      refine stepK rfl (by kernel_rfl) (fun K hK => ?_); go_simp
      apply Exists.intro; apply And.intro; (focus (intro wk hk; go_simp; exact ⟨rfl, rfl⟩)); refine hK _ _ ?_; clear hK K
      -- 1: call F172(t31)
      refine stepS _ rfl (by kernel_rfl) (fun K hK => ?_); go_simp
      refine ⟨?_, ?_⟩
      · intro wk hk hg hu; go_simp; refine upon_enter ((tq.out _ _ (sy.below hk.below)).mono ?_); rintro e w' ⟨rfl, hb⟩; exact ⟨_, rfl, left_V (p := fun u => u = .tuple #[.agg (W4 k), .bool ok]) rfl (hb) rfl⟩
      rintro ⟨v1, lo1, hi1⟩ - - (rfl : v1 = _)
      refine hK _ _ ?_; clear hK K
      -- 2: extract t32 #0
      refine stepK rfl (by kernel_rfl) (fun K hK => ?_); go_simp
      apply Exists.intro; apply And.intro; (focus (intro wk hk; go_simp; exact ⟨rfl, rfl⟩)); refine hK _ _ ?_; clear hK K
      -- 3: extract t32 #1
      refine stepK rfl (by kernel_rfl) (fun K hK => ?_); go_simp
      apply Exists.intro; apply And.intro; (focus (intro wk hk; go_simp; exact ⟨rfl, rfl⟩)); refine hK _ _ ?_; clear hK K
      -- 4: store<31> *t6 = t33
      refine stepS _ rfl (by kernel_rfl) (fun K hK => ?_); go_simp
      refine ⟨?_, ?_⟩
      · exact sStoreO rfl rfl rfl rfl rfl rfl rr0 id (by kernel_rfl) rfl (by kernel_rfl) (by decide) aggOf_congr
      rintro ⟨v4, lo4, hi4⟩ - - (rfl : v4 = undef)
      refine hK _ _ ?_; clear hK K
      -- 5: assign t34
      refine stepKz rfl (fun K hK => ?_); go_simp
      apply Exists.intro; apply And.intro; (focus (intro wk hk; go_simp; exact ⟨rfl, rfl⟩)); refine hK _ _ ?_; clear hK K
      refine stepN ?_
      refine hQ _ _ ?_
      intro w9 hT hG hF
      have hT' := hT
      have x2 : Row w9 (w.heap.size + 1 + 1 + 1) 31 (W4 k) := hF 4 _ rfl rfl (by decide)
      have hl9 : Below w.heap.size w w9 := hl.trans (hT'.below_of hl.size (by intro c hc; omega))
      clear hT hT' hG hF hQ QQ L
      go_wp2_with fail
      refine bodyPost_ret (results_ct rfl aggT31 rfl x2 rfl) rfl ?_
      exact ⟨rfl, hl9⟩
end Go.Proofs.Ytpdenhmkpiafiaa
