/-
  tallagelaw02.MuldivDivides, THE WALK.
-/
import Derived.Test.YtpdenhmkpiafiaaRefDown
import Derived.Test.YtpdenhmkpiafiaaRefWide
import Derived.Test.YtpdenhmkpiafiaaLives2
namespace Go.Proofs.Ytpdenhmkpiafiaa
open Go Go.RowKit K6

theorem upN_ltM (n d : Nat) : upN n d < M := by
  unfold upN
  split
  · exact quoN_lt _ _
  · unfold addN; split
    · assumption
    · exact M_pos
set_option maxRecDepth 100000 in
set_option maxHeartbeats 16000000 in
theorem divides_walk (a b d : Nat) (ha : a < M) (hb : b < M) (hd : d < M) (w : World) : Calls Try.prog 13 #[.agg (W4 a), .agg (W4 b), .agg (W4 d)] w (Ret w (.bool true)) := by
  obtain ⟨x, hx⟩ : ∃ z, z = quoN (a * b) d := ⟨_, rfl⟩
  obtain ⟨xo, hxo⟩ : ∃ z, z = quoB (a * b) d := ⟨_, rfl⟩
  obtain ⟨z, hz⟩ : ∃ z, z = upN (a * b) d := ⟨_, rfl⟩
  obtain ⟨zo, hzo⟩ : ∃ z, z = upB (a * b) d := ⟨_, rfl⟩
  obtain ⟨p, hp⟩ : ∃ z, z = a * b / M := ⟨_, rfl⟩
  obtain ⟨q, hq⟩ : ∃ z, z = a * b % M := ⟨_, rfl⟩
  have xl : x < M := hx ▸ quoN_lt _ _
  have zl : z < M := hz ▸ upN_ltM _ _
  have pl : p < M := by rw [hp, Nat.div_lt_iff_lt_mul M_pos]; exact MM_mul ha hb
  have ql : q < M := hq ▸ Nat.mod_lt _ M_pos
  have k0 := Lib.hid (show ∀ wx, Calls Try.prog 85 #[.agg (W4 a), .agg (W4 b), .agg (W4 d)] wx (Ret wx (.tuple #[.agg (W4 x), .bool (xo)])) from fun wx => by have h := downU ha hb hd wx; rw [← hx, ← hxo] at h; exact h)
  have k1 := Lib.hid (show ∀ wx, Calls Try.prog 86 #[.agg (W4 a), .agg (W4 b), .agg (W4 d)] wx (Ret wx (.tuple #[.agg (W4 x), .bool (xo)])) from fun wx => by have h := refdownU ha hb hd wx; rw [← hx, ← hxo] at h; exact h)
  have k2 := Lib.hid (show ∀ wx, Calls Try.prog 87 #[.agg (W4 a), .agg (W4 b), .agg (W4 d)] wx (Ret wx (.tuple #[.agg (W4 z), .bool (zo)])) from fun wx => by have h := upU ha hb hd wx; rw [← hz, ← hzo] at h; exact h)
  have k3 := Lib.hid (show ∀ wx, Calls Try.prog 88 #[.agg (W4 a), .agg (W4 b), .agg (W4 d)] wx (Ret wx (.tuple #[.agg (W4 z), .bool (zo)])) from fun wx => by have h := refupU ha hb hd wx; rw [← hz, ← hzo] at h; exact h)
  have k4 := Lib.hid (show ∀ wx, Calls Try.prog 89 #[.agg (W4 a), .agg (W4 b)] wx (Ret wx (.agg (W8 p q))) from fun wx => by have h := mmulU ha hb wx; rw [← hp, ← hq] at h; exact h)
  have k5 := Lib.hid (show ∀ wx, Calls Try.prog 90 #[.agg (W4 a), .agg (W4 b)] wx (Ret wx (.tuple #[.agg (W4 p), .agg (W4 q)])) from fun wx => by have h := refmulW ha hb wx; rw [← hp, ← hq] at h; exact h)
  have k6 := Lib.hid (show ∀ wx, Calls Try.prog 91 #[] wx (Ret wx (.bool true)) from fun wx => by have h := lives2U  wx; exact h)
  have q0 : ∀ wx, (Op.equalIn 10000 31 (.agg (W4 x)) (.agg (W4 x))).run Try.prog wx = .ok true wx := fun wx => by rw [eqU xl xl, decide_eq_true rfl]
  have q1 : ∀ wx, (Op.equalIn 10000 31 (.agg (W4 z)) (.agg (W4 z))).run Try.prog wx = .ok true wx := fun wx => by rw [eqU zl zl, decide_eq_true rfl]
  have q2 : ∀ wx, (Op.equalIn 10000 31 (.agg (W4 p)) (.agg (W4 p))).run Try.prog wx = .ok true wx := fun wx => by rw [eqU pl pl, decide_eq_true rfl]
  have q3 : ∀ wx, (Op.equalIn 10000 31 (.agg (W4 q)) (.agg (W4 q))).run Try.prog wx = .ok true wx := fun wx => by rw [eqU ql ql, decide_eq_true rfl]
  clear hx hxo hz hzo hp hq
  go_enter Try.func13, Try.ntmps13
  apply wp_seq_eq
  focus
    intro J hJ
    go_wp2_with fail
    exact hJ
  refine wp_abs (Mem w [(w.heap.size, 31, W4 a), (w.heap.size + 1, 31, W4 b), (w.heap.size + 1 + 1, 31, W4 d)]) ⟨by go_grown, ?_, ?_, ?_, trivial⟩ ?_
  · repeat (first | (refine Row.new_at ?_; simp; done) | refine Row.alloc ?_ _)
  · repeat (first | (refine Row.new_at ?_; simp; done) | refine Row.alloc ?_ _)
  · repeat (first | (refine Row.new_at ?_; simp; done) | refine Row.alloc ?_ _)
  intro w0 hM
  obtain ⟨hl, r0, r1, r2, -⟩ := hM
  go_upto_region 1 with (fail)
  let L : List Sp := [sV 3 [] [] (fun u => u = .tuple #[.agg (W4 x), .bool (xo)]), sA 7 31 [8] #[.int .u64 0, .int .u64 0, .int .u64 0, .int .u64 0], sT 8 7 31 [5] (fun g => aggOf g 5)]
  refine wp_region_six0 (shs L) (look6 L) (None_) (by kernel_rfl) (by kernel_rfl) (mk_St L [] [] (by kernel_rfl) (by kernel_rfl) ⟨ok_V ⟨_, rfl⟩, ok_A, ok_T aggOf_congr, trivial⟩ (by simp)) ?_
  intro QQ hQ
  -- 0: load<31> *t3
  refine stepK rfl (by kernel_rfl) (fun K hK => ?_); go_simp
  apply Exists.intro; apply And.intro; (focus exact kLoad rfl rfl aggT31 r0 rfl id); refine hK _ _ ?_; clear hK K
  -- 1: load<31> *t4
  refine stepK rfl (by kernel_rfl) (fun K hK => ?_); go_simp
  apply Exists.intro; apply And.intro; (focus exact kLoad rfl rfl aggT31 r1 rfl id); refine hK _ _ ?_; clear hK K
  -- 2: load<31> *t5
  refine stepK rfl (by kernel_rfl) (fun K hK => ?_); go_simp
  apply Exists.intro; apply And.intro; (focus exact kLoad rfl rfl aggT31 r2 rfl id); refine hK _ _ ?_; clear hK K
  -- 3: call F85(t19, t20, t21)
  refine stepS _ rfl (by kernel_rfl) (fun K hK => ?_); go_simp
  refine ⟨?_, ?_⟩
  · intro wk hk hg hu; go_simp; refine upon_enter ((k0.out _).mono ?_); rintro e w' ⟨rfl, hb⟩; exact ⟨_, rfl, left_V (p := fun u => u = .tuple #[.agg (W4 x), .bool (xo)]) rfl (hb) rfl⟩
  rintro ⟨v3, lo3, hi3⟩ - - (rfl : v3 = _)
  refine hK _ _ ?_; clear hK K
  -- 4: t22
  refine stepK rfl (by kernel_rfl) (fun K hK => ?_); go_simp
  apply Exists.intro; apply And.intro; (focus (intro wk hk; go_simp; exact ⟨rfl, rfl⟩)); refine hK _ _ ?_; clear hK K
  -- 5: extract t18 #0
  refine stepK rfl (by kernel_rfl) (fun K hK => ?_); go_simp
  apply Exists.intro; apply And.intro; (focus (intro wk hk; go_simp; exact ⟨rfl, rfl⟩)); refine hK _ _ ?_; clear hK K
  -- 6: extract t18 #1
  refine stepK rfl (by kernel_rfl) (fun K hK => ?_); go_simp
  apply Exists.intro; apply And.intro; (focus (intro wk hk; go_simp; exact ⟨rfl, rfl⟩)); refine hK _ _ ?_; clear hK K
  -- 7: alloc<31>
  refine stepS _ rfl (by kernel_rfl) (fun K hK => ?_); go_simp
  refine ⟨?_, ?_⟩
  · intro wk hk hg hu; go_simp; exact left_A rfl rfl
  rintro ⟨v7, lo1_7, hi7⟩ hlo7 hhi7 ⟨e7, f7⟩
  replace e7 : v7 = .pointer (some ⟨lo1_7, 0, none⟩) := e7; replace f7 : hi7 = lo1_7 + 1 := f7; replace hlo7 : _ ≤ lo1_7 := hlo7; subst e7; subst f7
  refine hK _ _ ?_; clear hK K
  -- 8: store<31> *t7 = t23
  refine stepS _ rfl (by kernel_rfl) (fun K hK => ?_); go_simp
  refine ⟨?_, ?_⟩
  · exact sStoreT rfl rfl rfl rfl rfl rfl rfl (by kernel_rfl) rfl (by kernel_rfl) (by decide) aggOf_congr
  rintro ⟨v8, lo8, hi8⟩ - - (rfl : v8 = undef)
  refine hK _ _ ?_; clear hK K
  -- 9: assign t24
  refine stepK rfl (by kernel_rfl) (fun K hK => ?_); go_simp
  apply Exists.intro; apply And.intro; (focus (intro wk hk; go_simp; exact ⟨rfl, rfl⟩)); refine hK _ _ ?_; clear hK K
  refine stepN ?_
  refine hQ _ _ ?_
  intro w1 hT hG hF
  have hbw1 := hT.below
  have r3 : Row w1 lo1_7 31 ((W4 x)) := (hF 8 _ rfl rfl (by decide)).2
  replace r0 := r0.below hbw1 r0.lt
  replace r1 := r1.below hbw1 r1.lt
  replace r2 := r2.below hbw1 r2.lt
  replace hl := hl.trans (hbw1.mono hl.size)
  clear hT hG hF hbw1 hQ QQ L hlo7 hhi7
  go_upto_region 2 with (fail)
  let L : List Sp := [sV 3 [] [] (fun u => u = .tuple #[.agg (W4 x), .bool (xo)]), sA 7 31 [8] #[.int .u64 0, .int .u64 0, .int .u64 0, .int .u64 0], sT 8 7 31 [5] (fun g => aggOf g 5)]
  refine wp_region_six0 (shs L) (look6 L) (None_) (by kernel_rfl) (by kernel_rfl) (mk_St L [] [] (by kernel_rfl) (by kernel_rfl) ⟨ok_V ⟨_, rfl⟩, ok_A, ok_T aggOf_congr, trivial⟩ (by simp)) ?_
  intro QQ hQ
  -- 0: load<31> *t3
  refine stepK rfl (by kernel_rfl) (fun K hK => ?_); go_simp
  apply Exists.intro; apply And.intro; (focus exact kLoad rfl rfl aggT31 r0 rfl id); refine hK _ _ ?_; clear hK K
  -- 1: load<31> *t4
  refine stepK rfl (by kernel_rfl) (fun K hK => ?_); go_simp
  apply Exists.intro; apply And.intro; (focus exact kLoad rfl rfl aggT31 r1 rfl id); refine hK _ _ ?_; clear hK K
  -- 2: load<31> *t5
  refine stepK rfl (by kernel_rfl) (fun K hK => ?_); go_simp
  apply Exists.intro; apply And.intro; (focus exact kLoad rfl rfl aggT31 r2 rfl id); refine hK _ _ ?_; clear hK K
  -- 3: call F86(t26, t27, t28)
  refine stepS _ rfl (by kernel_rfl) (fun K hK => ?_); go_simp
  refine ⟨?_, ?_⟩
  · intro wk hk hg hu; go_simp; refine upon_enter ((k1.out _).mono ?_); rintro e w' ⟨rfl, hb⟩; exact ⟨_, rfl, left_V (p := fun u => u = .tuple #[.agg (W4 x), .bool (xo)]) rfl (hb) rfl⟩
  rintro ⟨v3, lo3, hi3⟩ - - (rfl : v3 = _)
  refine hK _ _ ?_; clear hK K
  -- 4: t29
  refine stepK rfl (by kernel_rfl) (fun K hK => ?_); go_simp
  apply Exists.intro; apply And.intro; (focus (intro wk hk; go_simp; exact ⟨rfl, rfl⟩)); refine hK _ _ ?_; clear hK K
  -- 5: extract t25 #0
  refine stepK rfl (by kernel_rfl) (fun K hK => ?_); go_simp
  apply Exists.intro; apply And.intro; (focus (intro wk hk; go_simp; exact ⟨rfl, rfl⟩)); refine hK _ _ ?_; clear hK K
  -- 6: extract t25 #1
  refine stepK rfl (by kernel_rfl) (fun K hK => ?_); go_simp
  apply Exists.intro; apply And.intro; (focus (intro wk hk; go_simp; exact ⟨rfl, rfl⟩)); refine hK _ _ ?_; clear hK K
  -- 7: alloc<31>
  refine stepS _ rfl (by kernel_rfl) (fun K hK => ?_); go_simp
  refine ⟨?_, ?_⟩
  · intro wk hk hg hu; go_simp; exact left_A rfl rfl
  rintro ⟨v7, lo2_7, hi7⟩ hlo7 hhi7 ⟨e7, f7⟩
  replace e7 : v7 = .pointer (some ⟨lo2_7, 0, none⟩) := e7; replace f7 : hi7 = lo2_7 + 1 := f7; replace hlo7 : _ ≤ lo2_7 := hlo7; subst e7; subst f7
  refine hK _ _ ?_; clear hK K
  -- 8: store<31> *t9 = t30
  refine stepS _ rfl (by kernel_rfl) (fun K hK => ?_); go_simp
  refine ⟨?_, ?_⟩
  · exact sStoreT rfl rfl rfl rfl rfl rfl rfl (by kernel_rfl) rfl (by kernel_rfl) (by decide) aggOf_congr
  rintro ⟨v8, lo8, hi8⟩ - - (rfl : v8 = undef)
  refine hK _ _ ?_; clear hK K
  -- 9: assign t31
  refine stepK rfl (by kernel_rfl) (fun K hK => ?_); go_simp
  apply Exists.intro; apply And.intro; (focus (intro wk hk; go_simp; exact ⟨rfl, rfl⟩)); refine hK _ _ ?_; clear hK K
  refine stepN ?_
  refine hQ _ _ ?_
  intro w2 hT hG hF
  have hbw2 := hT.below
  have r4 : Row w2 lo2_7 31 ((W4 x)) := (hF 8 _ rfl rfl (by decide)).2
  replace r0 := r0.below hbw2 r0.lt
  replace r1 := r1.below hbw2 r1.lt
  replace r2 := r2.below hbw2 r2.lt
  replace r3 := r3.below hbw2 r3.lt
  replace hl := hl.trans (hbw2.mono hl.size)
  clear hT hG hF hbw2 hQ QQ L hlo7 hhi7
  go_upto_region 3 with (fail)
  let L : List Sp := [sV 3 [] [] (fun u => u = .tuple #[.agg (W4 z), .bool (zo)]), sA 7 31 [8] #[.int .u64 0, .int .u64 0, .int .u64 0, .int .u64 0], sT 8 7 31 [5] (fun g => aggOf g 5)]
  refine wp_region_six0 (shs L) (look6 L) (None_) (by kernel_rfl) (by kernel_rfl) (mk_St L [] [] (by kernel_rfl) (by kernel_rfl) ⟨ok_V ⟨_, rfl⟩, ok_A, ok_T aggOf_congr, trivial⟩ (by simp)) ?_
  intro QQ hQ
  -- 0: load<31> *t3
  refine stepK rfl (by kernel_rfl) (fun K hK => ?_); go_simp
  apply Exists.intro; apply And.intro; (focus exact kLoad rfl rfl aggT31 r0 rfl id); refine hK _ _ ?_; clear hK K
  -- 1: load<31> *t4
  refine stepK rfl (by kernel_rfl) (fun K hK => ?_); go_simp
  apply Exists.intro; apply And.intro; (focus exact kLoad rfl rfl aggT31 r1 rfl id); refine hK _ _ ?_; clear hK K
  -- 2: load<31> *t5
  refine stepK rfl (by kernel_rfl) (fun K hK => ?_); go_simp
  apply Exists.intro; apply And.intro; (focus exact kLoad rfl rfl aggT31 r2 rfl id); refine hK _ _ ?_; clear hK K
  -- 3: call F87(t33, t34, t35)
  refine stepS _ rfl (by kernel_rfl) (fun K hK => ?_); go_simp
  refine ⟨?_, ?_⟩
  · intro wk hk hg hu; go_simp; refine upon_enter ((k2.out _).mono ?_); rintro e w' ⟨rfl, hb⟩; exact ⟨_, rfl, left_V (p := fun u => u = .tuple #[.agg (W4 z), .bool (zo)]) rfl (hb) rfl⟩
  rintro ⟨v3, lo3, hi3⟩ - - (rfl : v3 = _)
  refine hK _ _ ?_; clear hK K
  -- 4: t36
  refine stepK rfl (by kernel_rfl) (fun K hK => ?_); go_simp
  apply Exists.intro; apply And.intro; (focus (intro wk hk; go_simp; exact ⟨rfl, rfl⟩)); refine hK _ _ ?_; clear hK K
  -- 5: extract t32 #0
  refine stepK rfl (by kernel_rfl) (fun K hK => ?_); go_simp
  apply Exists.intro; apply And.intro; (focus (intro wk hk; go_simp; exact ⟨rfl, rfl⟩)); refine hK _ _ ?_; clear hK K
  -- 6: extract t32 #1
  refine stepK rfl (by kernel_rfl) (fun K hK => ?_); go_simp
  apply Exists.intro; apply And.intro; (focus (intro wk hk; go_simp; exact ⟨rfl, rfl⟩)); refine hK _ _ ?_; clear hK K
  -- 7: alloc<31>
  refine stepS _ rfl (by kernel_rfl) (fun K hK => ?_); go_simp
  refine ⟨?_, ?_⟩
  · intro wk hk hg hu; go_simp; exact left_A rfl rfl
  rintro ⟨v7, lo3_7, hi7⟩ hlo7 hhi7 ⟨e7, f7⟩
  replace e7 : v7 = .pointer (some ⟨lo3_7, 0, none⟩) := e7; replace f7 : hi7 = lo3_7 + 1 := f7; replace hlo7 : _ ≤ lo3_7 := hlo7; subst e7; subst f7
  refine hK _ _ ?_; clear hK K
  -- 8: store<31> *t11 = t37
  refine stepS _ rfl (by kernel_rfl) (fun K hK => ?_); go_simp
  refine ⟨?_, ?_⟩
  · exact sStoreT rfl rfl rfl rfl rfl rfl rfl (by kernel_rfl) rfl (by kernel_rfl) (by decide) aggOf_congr
  rintro ⟨v8, lo8, hi8⟩ - - (rfl : v8 = undef)
  refine hK _ _ ?_; clear hK K
  -- 9: assign t38
  refine stepK rfl (by kernel_rfl) (fun K hK => ?_); go_simp
  apply Exists.intro; apply And.intro; (focus (intro wk hk; go_simp; exact ⟨rfl, rfl⟩)); refine hK _ _ ?_; clear hK K
  refine stepN ?_
  refine hQ _ _ ?_
  intro w3 hT hG hF
  have hbw3 := hT.below
  have r5 : Row w3 lo3_7 31 ((W4 z)) := (hF 8 _ rfl rfl (by decide)).2
  replace r0 := r0.below hbw3 r0.lt
  replace r1 := r1.below hbw3 r1.lt
  replace r2 := r2.below hbw3 r2.lt
  replace r3 := r3.below hbw3 r3.lt
  replace r4 := r4.below hbw3 r4.lt
  replace hl := hl.trans (hbw3.mono hl.size)
  clear hT hG hF hbw3 hQ QQ L hlo7 hhi7
  go_upto_region 4 with (fail)
  let L : List Sp := [sV 3 [] [] (fun u => u = .tuple #[.agg (W4 z), .bool (zo)]), sA 7 31 [8] #[.int .u64 0, .int .u64 0, .int .u64 0, .int .u64 0], sT 8 7 31 [5] (fun g => aggOf g 5)]
  refine wp_region_six0 (shs L) (look6 L) (None_) (by kernel_rfl) (by kernel_rfl) (mk_St L [] [] (by kernel_rfl) (by kernel_rfl) ⟨ok_V ⟨_, rfl⟩, ok_A, ok_T aggOf_congr, trivial⟩ (by simp)) ?_
  intro QQ hQ
  -- 0: load<31> *t3
  refine stepK rfl (by kernel_rfl) (fun K hK => ?_); go_simp
  apply Exists.intro; apply And.intro; (focus exact kLoad rfl rfl aggT31 r0 rfl id); refine hK _ _ ?_; clear hK K
  -- 1: load<31> *t4
  refine stepK rfl (by kernel_rfl) (fun K hK => ?_); go_simp
  apply Exists.intro; apply And.intro; (focus exact kLoad rfl rfl aggT31 r1 rfl id); refine hK _ _ ?_; clear hK K
  -- 2: load<31> *t5
  refine stepK rfl (by kernel_rfl) (fun K hK => ?_); go_simp
  apply Exists.intro; apply And.intro; (focus exact kLoad rfl rfl aggT31 r2 rfl id); refine hK _ _ ?_; clear hK K
  -- 3: call F88(t40, t41, t42)
  refine stepS _ rfl (by kernel_rfl) (fun K hK => ?_); go_simp
  refine ⟨?_, ?_⟩
  · intro wk hk hg hu; go_simp; refine upon_enter ((k3.out _).mono ?_); rintro e w' ⟨rfl, hb⟩; exact ⟨_, rfl, left_V (p := fun u => u = .tuple #[.agg (W4 z), .bool (zo)]) rfl (hb) rfl⟩
  rintro ⟨v3, lo3, hi3⟩ - - (rfl : v3 = _)
  refine hK _ _ ?_; clear hK K
  -- 4: t43
  refine stepK rfl (by kernel_rfl) (fun K hK => ?_); go_simp
  apply Exists.intro; apply And.intro; (focus (intro wk hk; go_simp; exact ⟨rfl, rfl⟩)); refine hK _ _ ?_; clear hK K
  -- 5: extract t39 #0
  refine stepK rfl (by kernel_rfl) (fun K hK => ?_); go_simp
  apply Exists.intro; apply And.intro; (focus (intro wk hk; go_simp; exact ⟨rfl, rfl⟩)); refine hK _ _ ?_; clear hK K
  -- 6: extract t39 #1
  refine stepK rfl (by kernel_rfl) (fun K hK => ?_); go_simp
  apply Exists.intro; apply And.intro; (focus (intro wk hk; go_simp; exact ⟨rfl, rfl⟩)); refine hK _ _ ?_; clear hK K
  -- 7: alloc<31>
  refine stepS _ rfl (by kernel_rfl) (fun K hK => ?_); go_simp
  refine ⟨?_, ?_⟩
  · intro wk hk hg hu; go_simp; exact left_A rfl rfl
  rintro ⟨v7, lo4_7, hi7⟩ hlo7 hhi7 ⟨e7, f7⟩
  replace e7 : v7 = .pointer (some ⟨lo4_7, 0, none⟩) := e7; replace f7 : hi7 = lo4_7 + 1 := f7; replace hlo7 : _ ≤ lo4_7 := hlo7; subst e7; subst f7
  refine hK _ _ ?_; clear hK K
  -- 8: store<31> *t13 = t44
  refine stepS _ rfl (by kernel_rfl) (fun K hK => ?_); go_simp
  refine ⟨?_, ?_⟩
  · exact sStoreT rfl rfl rfl rfl rfl rfl rfl (by kernel_rfl) rfl (by kernel_rfl) (by decide) aggOf_congr
  rintro ⟨v8, lo8, hi8⟩ - - (rfl : v8 = undef)
  refine hK _ _ ?_; clear hK K
  -- 9: assign t45
  refine stepK rfl (by kernel_rfl) (fun K hK => ?_); go_simp
  apply Exists.intro; apply And.intro; (focus (intro wk hk; go_simp; exact ⟨rfl, rfl⟩)); refine hK _ _ ?_; clear hK K
  refine stepN ?_
  refine hQ _ _ ?_
  intro w4 hT hG hF
  have hbw4 := hT.below
  have r6 : Row w4 lo4_7 31 ((W4 z)) := (hF 8 _ rfl rfl (by decide)).2
  replace r0 := r0.below hbw4 r0.lt
  replace r1 := r1.below hbw4 r1.lt
  replace r2 := r2.below hbw4 r2.lt
  replace r3 := r3.below hbw4 r3.lt
  replace r4 := r4.below hbw4 r4.lt
  replace r5 := r5.below hbw4 r5.lt
  replace hl := hl.trans (hbw4.mono hl.size)
  clear hT hG hF hbw4 hQ QQ L hlo7 hhi7
  go_upto_region 5 with (fail)
  let L : List Sp := [sV 2 [] [] (fun u => u = .agg (W8 p q)), sA 3 92 [4] #[.int .u64 0, .int .u64 0, .int .u64 0, .int .u64 0, .int .u64 0, .int .u64 0, .int .u64 0, .int .u64 0], sT 4 3 92 [2] (fun g => aggOf g 2)]
  refine wp_region_six0 (shs L) (look6 L) (None_) (by kernel_rfl) (by kernel_rfl) (mk_St L [] [] (by kernel_rfl) (by kernel_rfl) ⟨ok_V ⟨_, rfl⟩, ok_A, ok_T aggOf_congr, trivial⟩ (by simp)) ?_
  intro QQ hQ
  -- 0: load<31> *t3
  refine stepK rfl (by kernel_rfl) (fun K hK => ?_); go_simp
  apply Exists.intro; apply And.intro; (focus exact kLoad rfl rfl aggT31 r0 rfl id); refine hK _ _ ?_; clear hK K
  -- 1: load<31> *t4
  refine stepK rfl (by kernel_rfl) (fun K hK => ?_); go_simp
  apply Exists.intro; apply And.intro; (focus exact kLoad rfl rfl aggT31 r1 rfl id); refine hK _ _ ?_; clear hK K
  -- 2: call F89(t46, t47)
  refine stepS _ rfl (by kernel_rfl) (fun K hK => ?_); go_simp
  refine ⟨?_, ?_⟩
  · intro wk hk hg hu; go_simp; refine upon_enter ((k4.out _).mono ?_); rintro e w' ⟨rfl, hb⟩; exact ⟨_, rfl, left_V (p := fun u => u = .agg (W8 p q)) rfl (hb) rfl⟩
  rintro ⟨v2, lo2, hi2⟩ - - (rfl : v2 = _)
  refine hK _ _ ?_; clear hK K
  -- 3: alloc<92>
  refine stepS _ rfl (by kernel_rfl) (fun K hK => ?_); go_simp
  refine ⟨?_, ?_⟩
  · intro wk hk hg hu; go_simp; exact left_A rfl rfl
  rintro ⟨v3, lo5_3, hi3⟩ hlo3 hhi3 ⟨e3, f3⟩
  replace e3 : v3 = .pointer (some ⟨lo5_3, 0, none⟩) := e3; replace f3 : hi3 = lo5_3 + 1 := f3; replace hlo3 : _ ≤ lo5_3 := hlo3; subst e3; subst f3
  refine hK _ _ ?_; clear hK K
  -- 4: store<92> *t15 = t48
  refine stepS _ rfl (by kernel_rfl) (fun K hK => ?_); go_simp
  refine ⟨?_, ?_⟩
  · exact sStoreT rfl rfl rfl rfl rfl rfl rfl (by kernel_rfl) rfl (by kernel_rfl) (by decide) aggOf_congr
  rintro ⟨v4, lo4, hi4⟩ - - (rfl : v4 = undef)
  refine hK _ _ ?_; clear hK K
  refine stepN ?_
  refine hQ _ _ ?_
  intro w5 hT hG hF
  have hbw5 := hT.below
  have r7 : Row w5 lo5_3 92 ((W8 p q)) := (hF 4 _ rfl rfl (by decide)).2
  replace r0 := r0.below hbw5 r0.lt
  replace r1 := r1.below hbw5 r1.lt
  replace r2 := r2.below hbw5 r2.lt
  replace r3 := r3.below hbw5 r3.lt
  replace r4 := r4.below hbw5 r4.lt
  replace r5 := r5.below hbw5 r5.lt
  replace r6 := r6.below hbw5 r6.lt
  replace hl := hl.trans (hbw5.mono hl.size)
  clear hT hG hF hbw5 hQ QQ L hlo3 hhi3
  go_upto_region 6 with (fail)
  let L : List Sp := [sV 2 [] [] (fun u => u = .tuple #[.agg (W4 p), .agg (W4 q)]), sA 6 31 [8] #[.int .u64 0, .int .u64 0, .int .u64 0, .int .u64 0], sA 7 31 [9] #[.int .u64 0, .int .u64 0, .int .u64 0, .int .u64 0], sT 8 6 31 [4] (fun g => aggOf g 4), sT 9 7 31 [5] (fun g => aggOf g 5)]
  refine wp_region_six0 (shs L) (look6 L) (None_) (by kernel_rfl) (by kernel_rfl) (mk_St L [] [] (by kernel_rfl) (by kernel_rfl) ⟨ok_V ⟨_, rfl⟩, ok_A, ok_A, ok_T aggOf_congr, ok_T aggOf_congr, trivial⟩ (by simp)) ?_
  intro QQ hQ
  -- 0: load<31> *t3
  refine stepK rfl (by kernel_rfl) (fun K hK => ?_); go_simp
  apply Exists.intro; apply And.intro; (focus exact kLoad rfl rfl aggT31 r0 rfl id); refine hK _ _ ?_; clear hK K
  -- 1: load<31> *t4
  refine stepK rfl (by kernel_rfl) (fun K hK => ?_); go_simp
  apply Exists.intro; apply And.intro; (focus exact kLoad rfl rfl aggT31 r1 rfl id); refine hK _ _ ?_; clear hK K
  -- 2: call F90(t50, t51)
  refine stepS _ rfl (by kernel_rfl) (fun K hK => ?_); go_simp
  refine ⟨?_, ?_⟩
  · intro wk hk hg hu; go_simp; refine upon_enter ((k5.out _).mono ?_); rintro e w' ⟨rfl, hb⟩; exact ⟨_, rfl, left_V (p := fun u => u = .tuple #[.agg (W4 p), .agg (W4 q)]) rfl (hb) rfl⟩
  rintro ⟨v2, lo2, hi2⟩ - - (rfl : v2 = _)
  refine hK _ _ ?_; clear hK K
  -- 3: t52
  refine stepK rfl (by kernel_rfl) (fun K hK => ?_); go_simp
  apply Exists.intro; apply And.intro; (focus (intro wk hk; go_simp; exact ⟨rfl, rfl⟩)); refine hK _ _ ?_; clear hK K
  -- 4: extract t49 #0
  refine stepK rfl (by kernel_rfl) (fun K hK => ?_); go_simp
  apply Exists.intro; apply And.intro; (focus (intro wk hk; go_simp; exact ⟨rfl, rfl⟩)); refine hK _ _ ?_; clear hK K
  -- 5: extract t49 #1
  refine stepK rfl (by kernel_rfl) (fun K hK => ?_); go_simp
  apply Exists.intro; apply And.intro; (focus (intro wk hk; go_simp; exact ⟨rfl, rfl⟩)); refine hK _ _ ?_; clear hK K
  -- 6: alloc<31>
  refine stepS _ rfl (by kernel_rfl) (fun K hK => ?_); go_simp
  refine ⟨?_, ?_⟩
  · intro wk hk hg hu; go_simp; exact left_A rfl rfl
  rintro ⟨v6, lo6_6, hi6⟩ hlo6 hhi6 ⟨e6, f6⟩
  replace e6 : v6 = .pointer (some ⟨lo6_6, 0, none⟩) := e6; replace f6 : hi6 = lo6_6 + 1 := f6; replace hlo6 : _ ≤ lo6_6 := hlo6; subst e6; subst f6
  refine hK _ _ ?_; clear hK K
  -- 7: alloc<31>
  refine stepS _ rfl (by kernel_rfl) (fun K hK => ?_); go_simp
  refine ⟨?_, ?_⟩
  · intro wk hk hg hu; go_simp; exact left_A rfl rfl
  rintro ⟨v7, lo6_7, hi7⟩ hlo7 hhi7 ⟨e7, f7⟩
  replace e7 : v7 = .pointer (some ⟨lo6_7, 0, none⟩) := e7; replace f7 : hi7 = lo6_7 + 1 := f7; replace hlo7 : _ ≤ lo6_7 := hlo7; subst e7; subst f7
  refine hK _ _ ?_; clear hK K
  -- 8: store<31> *t16 = t53
  refine stepS _ rfl (by kernel_rfl) (fun K hK => ?_); go_simp
  refine ⟨?_, ?_⟩
  · exact sStoreT rfl rfl rfl rfl rfl rfl rfl (by kernel_rfl) rfl (by kernel_rfl) (by decide) aggOf_congr
  rintro ⟨v8, lo8, hi8⟩ - - (rfl : v8 = undef)
  refine hK _ _ ?_; clear hK K
  -- 9: store<31> *t17 = t54
  refine stepS _ rfl (by kernel_rfl) (fun K hK => ?_); go_simp
  refine ⟨?_, ?_⟩
  · exact sStoreT rfl rfl rfl rfl rfl rfl rfl (by kernel_rfl) rfl (by kernel_rfl) (by decide) aggOf_congr
  rintro ⟨v9, lo9, hi9⟩ - - (rfl : v9 = undef)
  refine hK _ _ ?_; clear hK K
  refine stepN ?_
  refine hQ _ _ ?_
  intro w6 hT hG hF
  have hbw6 := hT.below
  have r8 : Row w6 lo6_6 31 ((W4 p)) := (hF 8 _ rfl rfl (by decide)).2
  have r9 : Row w6 lo6_7 31 ((W4 q)) := (hF 9 _ rfl rfl (by decide)).2
  replace r0 := r0.below hbw6 r0.lt
  replace r1 := r1.below hbw6 r1.lt
  replace r2 := r2.below hbw6 r2.lt
  replace r3 := r3.below hbw6 r3.lt
  replace r4 := r4.below hbw6 r4.lt
  replace r5 := r5.below hbw6 r5.lt
  replace r6 := r6.below hbw6 r6.lt
  replace r7 := r7.below hbw6 r7.lt
  replace hl := hl.trans (hbw6.mono hl.size)
  clear hT hG hF hbw6 hQ QQ L hlo6 hhi6 hlo7 hhi7
  go_upto_region 7 with (fail)
  let L : List Sp := [sV 31 [] [] (fun u => u = .bool true)]
  refine wp_region_six0 (shs L) (look6 L) (None_) (by kernel_rfl) (by kernel_rfl) (mk_St L [] [] (by kernel_rfl) (by kernel_rfl) ⟨ok_V ⟨_, rfl⟩, trivial⟩ (by simp)) ?_
  intro QQ hQ
  -- 0: load<31> *t7
  refine stepK rfl (by kernel_rfl) (fun K hK => ?_); go_simp
  apply Exists.intro; apply And.intro; (focus exact kLoad rfl rfl aggT31 r3 rfl id); refine hK _ _ ?_; clear hK K
  -- 1: load<31> *t9
  refine stepK rfl (by kernel_rfl) (fun K hK => ?_); go_simp
  apply Exists.intro; apply And.intro; (focus exact kLoad rfl rfl aggT31 r4 rfl id); refine hK _ _ ?_; clear hK K
  -- 2: eql<31> t55, t56
  refine stepK rfl (by kernel_rfl) (fun K hK => ?_); go_simp
  apply Exists.intro; apply And.intro; (focus (intro wk hk; go_simp; exact ⟨rfl, rfl⟩)); refine hK _ _ ?_; clear hK K
  -- 3: t57
  refine stepK rfl (by kernel_rfl) (fun K hK => ?_); go_simp
  apply Exists.intro; apply And.intro; (focus (intro wk hk; go_simp; exact ⟨rfl, rfl⟩)); refine hK _ _ ?_; clear hK K
  -- 4: t8
  refine stepK rfl (by kernel_rfl) (fun K hK => ?_); go_simp
  first | (refine hK _ _ ?_; clear hK K) | (apply Exists.intro; apply And.intro; (focus (intro wk hk; go_simp; exact ⟨rfl, rfl⟩)); refine hK _ _ ?_; clear hK K)
  -- 5: t10
  refine stepK rfl (by kernel_rfl) (fun K hK => ?_); go_simp
  first | (refine hK _ _ ?_; clear hK K) | (apply Exists.intro; apply And.intro; (focus (intro wk hk; go_simp; exact ⟨rfl, rfl⟩)); refine hK _ _ ?_; clear hK K)
  -- 6: eql<4> t59, t60
  refine stepK rfl (by kernel_rfl) (fun K hK => ?_); go_simp
  first | (refine hK _ _ ?_; clear hK K) | (apply Exists.intro; apply And.intro; (focus (intro wk hk; go_simp; exact ⟨rfl, rfl⟩)); refine hK _ _ ?_; clear hK K)
  -- 7: pick t58 ? t61 : false
  refine stepK rfl (by kernel_rfl) (fun K hK => ?_); go_simp
  apply Exists.intro; apply And.intro; (focus (intro wk hk; go_simp; exact ⟨rfl, rfl⟩)); refine hK _ _ ?_; clear hK K
  -- 8: t62
  refine stepK rfl (by kernel_rfl) (fun K hK => ?_); go_simp
  apply Exists.intro; apply And.intro; (focus (intro wk hk; go_simp; exact ⟨rfl, rfl⟩)); refine hK _ _ ?_; clear hK K
  -- 9: load<31> *t11
  refine stepK rfl (by kernel_rfl) (fun K hK => ?_); go_simp
  first | (refine hK _ _ ?_; clear hK K) | (apply Exists.intro; apply And.intro; (focus exact kLoad rfl rfl aggT31 r5 rfl id); refine hK _ _ ?_; clear hK K)
  -- 10: load<31> *t13
  refine stepK rfl (by kernel_rfl) (fun K hK => ?_); go_simp
  first | (refine hK _ _ ?_; clear hK K) | (apply Exists.intro; apply And.intro; (focus exact kLoad rfl rfl aggT31 r6 rfl id); refine hK _ _ ?_; clear hK K)
  -- 11: eql<31> t64, t65
  refine stepK rfl (by kernel_rfl) (fun K hK => ?_); go_simp
  first | (refine hK _ _ ?_; clear hK K) | (apply Exists.intro; apply And.intro; (focus (intro wk hk; go_simp; exact ⟨rfl, rfl⟩)); refine hK _ _ ?_; clear hK K)
  -- 12: pick t63 ? t66 : false
  refine stepK rfl (by kernel_rfl) (fun K hK => ?_); go_simp
  apply Exists.intro; apply And.intro; (focus (intro wk hk; go_simp; exact ⟨rfl, rfl⟩)); refine hK _ _ ?_; clear hK K
  -- 13: t67
  refine stepK rfl (by kernel_rfl) (fun K hK => ?_); go_simp
  apply Exists.intro; apply And.intro; (focus (intro wk hk; go_simp; exact ⟨rfl, rfl⟩)); refine hK _ _ ?_; clear hK K
  -- 14: t12
  refine stepK rfl (by kernel_rfl) (fun K hK => ?_); go_simp
  first | (refine hK _ _ ?_; clear hK K) | (apply Exists.intro; apply And.intro; (focus (intro wk hk; go_simp; exact ⟨rfl, rfl⟩)); refine hK _ _ ?_; clear hK K)
  -- 15: t14
  refine stepK rfl (by kernel_rfl) (fun K hK => ?_); go_simp
  first | (refine hK _ _ ?_; clear hK K) | (apply Exists.intro; apply And.intro; (focus (intro wk hk; go_simp; exact ⟨rfl, rfl⟩)); refine hK _ _ ?_; clear hK K)
  -- 16: eql<4> t69, t70
  refine stepK rfl (by kernel_rfl) (fun K hK => ?_); go_simp
  first | (refine hK _ _ ?_; clear hK K) | (apply Exists.intro; apply And.intro; (focus (intro wk hk; go_simp; exact ⟨rfl, rfl⟩)); refine hK _ _ ?_; clear hK K)
  -- 17: pick t68 ? t71 : false
  refine stepK rfl (by kernel_rfl) (fun K hK => ?_); go_simp
  apply Exists.intro; apply And.intro; (focus (intro wk hk; go_simp; exact ⟨rfl, rfl⟩)); refine hK _ _ ?_; clear hK K
  -- 18: t72
  refine stepK rfl (by kernel_rfl) (fun K hK => ?_); go_simp
  apply Exists.intro; apply And.intro; (focus (intro wk hk; go_simp; exact ⟨rfl, rfl⟩)); refine hK _ _ ?_; clear hK K
  -- 19: fieldAddr<92> t15.0
  refine stepK rfl (by kernel_rfl) (fun K hK => ?_); go_simp
  first | (refine hK _ _ ?_; clear hK K) | (apply Exists.intro; apply And.intro; (focus (intro wk hk; go_simp; exact ⟨rfl, rfl⟩)); refine hK _ _ ?_; clear hK K)
  -- 20: load<31> *t74
  refine stepK rfl (by kernel_rfl) (fun K hK => ?_); go_simp
  first | (refine hK _ _ ?_; clear hK K) | (apply Exists.intro; apply And.intro; (focus exact kLoadMid rfl rfl aggT31 r7 (W8_hi p q) rfl id); refine hK _ _ ?_; clear hK K)
  -- 21: load<31> *t16
  refine stepK rfl (by kernel_rfl) (fun K hK => ?_); go_simp
  first | (refine hK _ _ ?_; clear hK K) | (apply Exists.intro; apply And.intro; (focus exact kLoad rfl rfl aggT31 r8 rfl id); refine hK _ _ ?_; clear hK K)
  -- 22: eql<31> t75, t76
  refine stepK rfl (by kernel_rfl) (fun K hK => ?_); go_simp
  first | (refine hK _ _ ?_; clear hK K) | (apply Exists.intro; apply And.intro; (focus (intro wk hk; go_simp; exact ⟨rfl, rfl⟩)); refine hK _ _ ?_; clear hK K)
  -- 23: pick t73 ? t77 : false
  refine stepK rfl (by kernel_rfl) (fun K hK => ?_); go_simp
  apply Exists.intro; apply And.intro; (focus (intro wk hk; go_simp; exact ⟨rfl, rfl⟩)); refine hK _ _ ?_; clear hK K
  -- 24: t78
  refine stepK rfl (by kernel_rfl) (fun K hK => ?_); go_simp
  apply Exists.intro; apply And.intro; (focus (intro wk hk; go_simp; exact ⟨rfl, rfl⟩)); refine hK _ _ ?_; clear hK K
  -- 25: fieldAddr<92> t15.1
  refine stepK rfl (by kernel_rfl) (fun K hK => ?_); go_simp
  first | (refine hK _ _ ?_; clear hK K) | (apply Exists.intro; apply And.intro; (focus (intro wk hk; go_simp; exact ⟨rfl, rfl⟩)); refine hK _ _ ?_; clear hK K)
  -- 26: load<31> *t80
  refine stepK rfl (by kernel_rfl) (fun K hK => ?_); go_simp
  first | (refine hK _ _ ?_; clear hK K) | (apply Exists.intro; apply And.intro; (focus exact kLoadMid rfl rfl aggT31 r7 (W8_lo p q) rfl id); refine hK _ _ ?_; clear hK K)
  -- 27: load<31> *t17
  refine stepK rfl (by kernel_rfl) (fun K hK => ?_); go_simp
  first | (refine hK _ _ ?_; clear hK K) | (apply Exists.intro; apply And.intro; (focus exact kLoad rfl rfl aggT31 r9 rfl id); refine hK _ _ ?_; clear hK K)
  -- 28: eql<31> t81, t82
  refine stepK rfl (by kernel_rfl) (fun K hK => ?_); go_simp
  first | (refine hK _ _ ?_; clear hK K) | (apply Exists.intro; apply And.intro; (focus (intro wk hk; go_simp; exact ⟨rfl, rfl⟩)); refine hK _ _ ?_; clear hK K)
  -- 29: pick t79 ? t83 : false
  refine stepK rfl (by kernel_rfl) (fun K hK => ?_); go_simp
  apply Exists.intro; apply And.intro; (focus (intro wk hk; go_simp; exact ⟨rfl, rfl⟩)); refine hK _ _ ?_; clear hK K
  -- 30: t84
  refine stepK rfl (by kernel_rfl) (fun K hK => ?_); go_simp
  apply Exists.intro; apply And.intro; (focus (intro wk hk; go_simp; exact ⟨rfl, rfl⟩)); refine hK _ _ ?_; clear hK K
  -- 31: call F91()
  refine stepS _ rfl (by kernel_rfl) (fun K hK => ?_); go_simp
  refine ⟨?_, ?_⟩
  · intro wk hk hg hu; go_simp; refine upon_enter ((k6.out _).mono ?_); rintro e w' ⟨rfl, hb⟩; exact ⟨_, rfl, left_V (p := fun u => u = .bool true) rfl (hb) rfl⟩
  rintro ⟨v31, lo31, hi31⟩ - - (rfl : v31 = _)
  refine hK _ _ ?_; clear hK K
  -- 32: pick t85 ? t86 : false
  refine stepK rfl (by kernel_rfl) (fun K hK => ?_); go_simp
  apply Exists.intro; apply And.intro; (focus (intro wk hk; go_simp; exact ⟨rfl, rfl⟩)); refine hK _ _ ?_; clear hK K
  -- 33: assign t87
  refine stepK rfl (by kernel_rfl) (fun K hK => ?_); go_simp
  apply Exists.intro; apply And.intro; (focus (intro wk hk; go_simp; exact ⟨rfl, rfl⟩)); refine hK _ _ ?_; clear hK K
  refine stepN ?_
  refine hQ _ _ ?_
  intro w7 hT hG hF
  have hbw7 := hT.below
  replace r0 := r0.below hbw7 r0.lt
  replace r1 := r1.below hbw7 r1.lt
  replace r2 := r2.below hbw7 r2.lt
  replace r3 := r3.below hbw7 r3.lt
  replace r4 := r4.below hbw7 r4.lt
  replace r5 := r5.below hbw7 r5.lt
  replace r6 := r6.below hbw7 r6.lt
  replace r7 := r7.below hbw7 r7.lt
  replace r8 := r8.below hbw7 r8.lt
  replace r9 := r9.below hbw7 r9.lt
  replace hl := hl.trans (hbw7.mono hl.size)
  clear hT hG hF hbw7 hQ QQ L 
  go_wp2_with fail
  go_ret
  exact ⟨rfl, hl⟩
end Go.Proofs.Ytpdenhmkpiafiaa
