/-
  tallagelaw02.MuldivQuo, THE WALK.
-/
import Derived.Test.YtpdenhmkpiafiaaRefQuoW
import Derived.Test.YtpdenhmkpiafiaaPart8
import Derived.Test.YtpdenhmkpiafiaaLives2
namespace Go.Proofs.Ytpdenhmkpiafiaa
open Go Go.RowKit K6

set_option maxRecDepth 100000 in
set_option maxHeartbeats 16000000 in
theorem quo_walk (a b d : Nat) (ha : a < M) (hb : b < M) (hd : d < M) (w : World) : Calls Try.prog 14 #[.agg (W4 a), .agg (W4 b), .agg (W4 d)] w (Ret w (.bool true)) := by
  obtain ⟨q, hq⟩ : ∃ z, z = quoN (a * M + b) d := ⟨_, rfl⟩
  obtain ⟨r, hr⟩ : ∃ z, z = remN (a * M + b) d := ⟨_, rfl⟩
  obtain ⟨ok, hok⟩ : ∃ z, z = quoB (a * M + b) d := ⟨_, rfl⟩
  have ql : q < M := hq ▸ quoN_lt _ _
  have rl : r < M := hr ▸ remN_lt _ hd
  have k0 := Lib.hid (show ∀ wx, Calls Try.prog 92 #[.agg (W8 a b), .agg (W4 d)] wx (Ret wx (.tuple #[.agg (W4 q), .agg (W4 r), .bool (ok)])) from fun wx => by have h := mquo_any ha hb hd wx; rw [← hq, ← hr, ← hok] at h; exact h)
  have k1 := Lib.hid (show ∀ wx, Calls Try.prog 93 #[.agg (W4 a), .agg (W4 b), .agg (W4 d)] wx (Ret wx (.tuple #[.agg (W4 q), .agg (W4 r), .bool (ok)])) from fun wx => by have h := refquoU ha hb hd wx; rw [← hq, ← hr, ← hok] at h; exact h)
  have k2 := Lib.hid (show ∀ wx, Calls Try.prog 91 #[] wx (Ret wx (.bool true)) from fun wx => by have h := lives2U  wx; exact h)
  have q0 : ∀ wx, (Op.equalIn 10000 31 (.agg (W4 q)) (.agg (W4 q))).run Try.prog wx = .ok true wx := fun wx => by rw [eqU ql ql, decide_eq_true rfl]
  have q1 : ∀ wx, (Op.equalIn 10000 31 (.agg (W4 r)) (.agg (W4 r))).run Try.prog wx = .ok true wx := fun wx => by rw [eqU rl rl, decide_eq_true rfl]
  clear hq hr hok
  go_enter Try.func14, Try.ntmps14
  apply wp_seq_eq
  focus
    intro J hJ
    go_wp2_with fail
    exact hJ
  refine wp_abs (Mem w [(w.heap.size, 31, W4 a), (w.heap.size + 1, 31, W4 b), (w.heap.size + 1 + 1, 31, W4 d)]) ⟨by go_grown, ?_, ?_, ?_, trivial⟩ ?_
  · repeat (first | (refine Row.new_at ?_; simp; done) | refine Row.alloc ?_ _)
  · repeat (first | (refine Row.new_at ?_; simp; done) | refine Row.alloc ?_ _)
  · repeat (first | (refine Row.new_at ?_; simp; done) | refine Row.alloc ?_ _)
  intro w0 hM
  obtain ⟨hl, r0, r1, r2, -⟩ := hM
  go_upto_region 1 with (fail)
  let L : List Sp := [sV 4 [] [] (fun u => u = .tuple #[.agg (W4 q), .agg (W4 r), .bool (ok)]), sA 9 31 [11] #[.int .u64 0, .int .u64 0, .int .u64 0, .int .u64 0], sA 10 31 [12] #[.int .u64 0, .int .u64 0, .int .u64 0, .int .u64 0], sT 11 9 31 [6] (fun g => aggOf g 6), sT 12 10 31 [7] (fun g => aggOf g 7)]
  refine wp_region_six0 (shs L) (look6 L) (None_) (by kernel_rfl) (by kernel_rfl) (mk_St L [] [] (by kernel_rfl) (by kernel_rfl) ⟨ok_V ⟨_, rfl⟩, ok_A, ok_A, ok_T aggOf_congr, ok_T aggOf_congr, trivial⟩ (by simp)) ?_
  intro QQ hQ
  -- 0: load<31> *t3
  refine stepK rfl (by kernel_rfl) (fun K hK => ?_); go_simp
  apply Exists.intro; apply And.intro; (focus exact kLoad rfl rfl aggT31 r0 rfl id); refine hK _ _ ?_; clear hK K
  -- 1: load<31> *t4
  refine stepK rfl (by kernel_rfl) (fun K hK => ?_); go_simp
  apply Exists.intro; apply And.intro; (focus exact kLoad rfl rfl aggT31 r1 rfl id); refine hK _ _ ?_; clear hK K
  -- 2: build<92> 0:t14, 1:t15
  refine stepK rfl (by kernel_rfl) (fun K hK => ?_); go_simp
  apply Exists.intro; apply And.intro; (focus exact kBuild rfl rfl rfl (fun wx => build92 a b wx)); refine hK _ _ ?_; clear hK K
  -- 3: load<31> *t5
  refine stepK rfl (by kernel_rfl) (fun K hK => ?_); go_simp
  apply Exists.intro; apply And.intro; (focus exact kLoad rfl rfl aggT31 r2 rfl id); refine hK _ _ ?_; clear hK K
  -- 4: call F92(t16, t17)
  refine stepS _ rfl (by kernel_rfl) (fun K hK => ?_); go_simp
  refine ⟨?_, ?_⟩
  · intro wk hk hg hu; go_simp; refine upon_enter ((k0.out _).mono ?_); rintro e w' ⟨rfl, hb⟩; exact ⟨_, rfl, left_V (p := fun u => u = .tuple #[.agg (W4 q), .agg (W4 r), .bool (ok)]) rfl (hb) rfl⟩
  rintro ⟨v4, lo4, hi4⟩ - - (rfl : v4 = _)
  refine hK _ _ ?_; clear hK K
  -- 5: t18
  refine stepK rfl (by kernel_rfl) (fun K hK => ?_); go_simp
  apply Exists.intro; apply And.intro; (focus (intro wk hk; go_simp; exact ⟨rfl, rfl⟩)); refine hK _ _ ?_; clear hK K
  -- 6: extract t13 #0
  refine stepK rfl (by kernel_rfl) (fun K hK => ?_); go_simp
  apply Exists.intro; apply And.intro; (focus (intro wk hk; go_simp; exact ⟨rfl, rfl⟩)); refine hK _ _ ?_; clear hK K
  -- 7: extract t13 #1
  refine stepK rfl (by kernel_rfl) (fun K hK => ?_); go_simp
  apply Exists.intro; apply And.intro; (focus (intro wk hk; go_simp; exact ⟨rfl, rfl⟩)); refine hK _ _ ?_; clear hK K
  -- 8: extract t13 #2
  refine stepK rfl (by kernel_rfl) (fun K hK => ?_); go_simp
  apply Exists.intro; apply And.intro; (focus (intro wk hk; go_simp; exact ⟨rfl, rfl⟩)); refine hK _ _ ?_; clear hK K
  -- 9: alloc<31>
  refine stepS _ rfl (by kernel_rfl) (fun K hK => ?_); go_simp
  refine ⟨?_, ?_⟩
  · intro wk hk hg hu; go_simp; exact left_A rfl rfl
  rintro ⟨v9, lo1_9, hi9⟩ hlo9 hhi9 ⟨e9, f9⟩
  replace e9 : v9 = .pointer (some ⟨lo1_9, 0, none⟩) := e9; replace f9 : hi9 = lo1_9 + 1 := f9; replace hlo9 : _ ≤ lo1_9 := hlo9; subst e9; subst f9
  refine hK _ _ ?_; clear hK K
  -- 10: alloc<31>
  refine stepS _ rfl (by kernel_rfl) (fun K hK => ?_); go_simp
  refine ⟨?_, ?_⟩
  · intro wk hk hg hu; go_simp; exact left_A rfl rfl
  rintro ⟨v10, lo1_10, hi10⟩ hlo10 hhi10 ⟨e10, f10⟩
  replace e10 : v10 = .pointer (some ⟨lo1_10, 0, none⟩) := e10; replace f10 : hi10 = lo1_10 + 1 := f10; replace hlo10 : _ ≤ lo1_10 := hlo10; subst e10; subst f10
  refine hK _ _ ?_; clear hK K
  -- 11: store<31> *t7 = t19
  refine stepS _ rfl (by kernel_rfl) (fun K hK => ?_); go_simp
  refine ⟨?_, ?_⟩
  · exact sStoreT rfl rfl rfl rfl rfl rfl rfl (by kernel_rfl) rfl (by kernel_rfl) (by decide) aggOf_congr
  rintro ⟨v11, lo11, hi11⟩ - - (rfl : v11 = undef)
  refine hK _ _ ?_; clear hK K
  -- 12: store<31> *t8 = t20
  refine stepS _ rfl (by kernel_rfl) (fun K hK => ?_); go_simp
  refine ⟨?_, ?_⟩
  · exact sStoreT rfl rfl rfl rfl rfl rfl rfl (by kernel_rfl) rfl (by kernel_rfl) (by decide) aggOf_congr
  rintro ⟨v12, lo12, hi12⟩ - - (rfl : v12 = undef)
  refine hK _ _ ?_; clear hK K
  -- 13: assign t21
  refine stepK rfl (by kernel_rfl) (fun K hK => ?_); go_simp
  apply Exists.intro; apply And.intro; (focus (intro wk hk; go_simp; exact ⟨rfl, rfl⟩)); refine hK _ _ ?_; clear hK K
  refine stepN ?_
  refine hQ _ _ ?_
  intro w1 hT hG hF
  have hbw1 := hT.below
  have r3 : Row w1 lo1_9 31 ((W4 q)) := (hF 11 _ rfl rfl (by decide)).2
  have r4 : Row w1 lo1_10 31 ((W4 r)) := (hF 12 _ rfl rfl (by decide)).2
  replace r0 := r0.below hbw1 r0.lt
  replace r1 := r1.below hbw1 r1.lt
  replace r2 := r2.below hbw1 r2.lt
  replace hl := hl.trans (hbw1.mono hl.size)
  clear hT hG hF hbw1 hQ QQ L hlo9 hhi9 hlo10 hhi10
  go_upto_region 2 with (fail)
  let L : List Sp := [sV 3 [] [] (fun u => u = .tuple #[.agg (W4 q), .agg (W4 r), .bool (ok)]), sA 8 31 [10] #[.int .u64 0, .int .u64 0, .int .u64 0, .int .u64 0], sA 9 31 [11] #[.int .u64 0, .int .u64 0, .int .u64 0, .int .u64 0], sT 10 8 31 [5] (fun g => aggOf g 5), sT 11 9 31 [6] (fun g => aggOf g 6)]
  refine wp_region_six0 (shs L) (look6 L) (None_) (by kernel_rfl) (by kernel_rfl) (mk_St L [] [] (by kernel_rfl) (by kernel_rfl) ⟨ok_V ⟨_, rfl⟩, ok_A, ok_A, ok_T aggOf_congr, ok_T aggOf_congr, trivial⟩ (by simp)) ?_
  intro QQ hQ
  -- 0: load<31> *t3
  refine stepK rfl (by kernel_rfl) (fun K hK => ?_); go_simp
  apply Exists.intro; apply And.intro; (focus exact kLoad rfl rfl aggT31 r0 rfl id); refine hK _ _ ?_; clear hK K
  -- 1: load<31> *t4
  refine stepK rfl (by kernel_rfl) (fun K hK => ?_); go_simp
  apply Exists.intro; apply And.intro; (focus exact kLoad rfl rfl aggT31 r1 rfl id); refine hK _ _ ?_; clear hK K
  -- 2: load<31> *t5
  refine stepK rfl (by kernel_rfl) (fun K hK => ?_); go_simp
  apply Exists.intro; apply And.intro; (focus exact kLoad rfl rfl aggT31 r2 rfl id); refine hK _ _ ?_; clear hK K
  -- 3: call F93(t23, t24, t25)
  refine stepS _ rfl (by kernel_rfl) (fun K hK => ?_); go_simp
  refine ⟨?_, ?_⟩
  · intro wk hk hg hu; go_simp; refine upon_enter ((k1.out _).mono ?_); rintro e w' ⟨rfl, hb⟩; exact ⟨_, rfl, left_V (p := fun u => u = .tuple #[.agg (W4 q), .agg (W4 r), .bool (ok)]) rfl (hb) rfl⟩
  rintro ⟨v3, lo3, hi3⟩ - - (rfl : v3 = _)
  refine hK _ _ ?_; clear hK K
  -- 4: t26
  refine stepK rfl (by kernel_rfl) (fun K hK => ?_); go_simp
  apply Exists.intro; apply And.intro; (focus (intro wk hk; go_simp; exact ⟨rfl, rfl⟩)); refine hK _ _ ?_; clear hK K
  -- 5: extract t22 #0
  refine stepK rfl (by kernel_rfl) (fun K hK => ?_); go_simp
  apply Exists.intro; apply And.intro; (focus (intro wk hk; go_simp; exact ⟨rfl, rfl⟩)); refine hK _ _ ?_; clear hK K
  -- 6: extract t22 #1
  refine stepK rfl (by kernel_rfl) (fun K hK => ?_); go_simp
  apply Exists.intro; apply And.intro; (focus (intro wk hk; go_simp; exact ⟨rfl, rfl⟩)); refine hK _ _ ?_; clear hK K
  -- 7: extract t22 #2
  refine stepK rfl (by kernel_rfl) (fun K hK => ?_); go_simp
  apply Exists.intro; apply And.intro; (focus (intro wk hk; go_simp; exact ⟨rfl, rfl⟩)); refine hK _ _ ?_; clear hK K
  -- 8: alloc<31>
  refine stepS _ rfl (by kernel_rfl) (fun K hK => ?_); go_simp
  refine ⟨?_, ?_⟩
  · intro wk hk hg hu; go_simp; exact left_A rfl rfl
  rintro ⟨v8, lo2_8, hi8⟩ hlo8 hhi8 ⟨e8, f8⟩
  replace e8 : v8 = .pointer (some ⟨lo2_8, 0, none⟩) := e8; replace f8 : hi8 = lo2_8 + 1 := f8; replace hlo8 : _ ≤ lo2_8 := hlo8; subst e8; subst f8
  refine hK _ _ ?_; clear hK K
  -- 9: alloc<31>
  refine stepS _ rfl (by kernel_rfl) (fun K hK => ?_); go_simp
  refine ⟨?_, ?_⟩
  · intro wk hk hg hu; go_simp; exact left_A rfl rfl
  rintro ⟨v9, lo2_9, hi9⟩ hlo9 hhi9 ⟨e9, f9⟩
  replace e9 : v9 = .pointer (some ⟨lo2_9, 0, none⟩) := e9; replace f9 : hi9 = lo2_9 + 1 := f9; replace hlo9 : _ ≤ lo2_9 := hlo9; subst e9; subst f9
  refine hK _ _ ?_; clear hK K
  -- 10: store<31> *t10 = t27
  refine stepS _ rfl (by kernel_rfl) (fun K hK => ?_); go_simp
  refine ⟨?_, ?_⟩
  · exact sStoreT rfl rfl rfl rfl rfl rfl rfl (by kernel_rfl) rfl (by kernel_rfl) (by decide) aggOf_congr
  rintro ⟨v10, lo10, hi10⟩ - - (rfl : v10 = undef)
  refine hK _ _ ?_; clear hK K
  -- 11: store<31> *t11 = t28
  refine stepS _ rfl (by kernel_rfl) (fun K hK => ?_); go_simp
  refine ⟨?_, ?_⟩
  · exact sStoreT rfl rfl rfl rfl rfl rfl rfl (by kernel_rfl) rfl (by kernel_rfl) (by decide) aggOf_congr
  rintro ⟨v11, lo11, hi11⟩ - - (rfl : v11 = undef)
  refine hK _ _ ?_; clear hK K
  -- 12: assign t29
  refine stepK rfl (by kernel_rfl) (fun K hK => ?_); go_simp
  apply Exists.intro; apply And.intro; (focus (intro wk hk; go_simp; exact ⟨rfl, rfl⟩)); refine hK _ _ ?_; clear hK K
  refine stepN ?_
  refine hQ _ _ ?_
  intro w2 hT hG hF
  have hbw2 := hT.below
  have r5 : Row w2 lo2_8 31 ((W4 q)) := (hF 10 _ rfl rfl (by decide)).2
  have r6 : Row w2 lo2_9 31 ((W4 r)) := (hF 11 _ rfl rfl (by decide)).2
  replace r0 := r0.below hbw2 r0.lt
  replace r1 := r1.below hbw2 r1.lt
  replace r2 := r2.below hbw2 r2.lt
  replace r3 := r3.below hbw2 r3.lt
  replace r4 := r4.below hbw2 r4.lt
  replace hl := hl.trans (hbw2.mono hl.size)
  clear hT hG hF hbw2 hQ QQ L hlo8 hhi8 hlo9 hhi9
  go_upto_region 3 with (fail)
  let L : List Sp := [sV 14 [] [] (fun u => u = .bool true)]
  refine wp_region_six0 (shs L) (look6 L) (None_) (by kernel_rfl) (by kernel_rfl) (mk_St L [] [] (by kernel_rfl) (by kernel_rfl) ⟨ok_V ⟨_, rfl⟩, trivial⟩ (by simp)) ?_
  intro QQ hQ
  -- 0: load<31> *t7
  refine stepK rfl (by kernel_rfl) (fun K hK => ?_); go_simp
  apply Exists.intro; apply And.intro; (focus exact kLoad rfl rfl aggT31 r3 rfl id); refine hK _ _ ?_; clear hK K
  -- 1: load<31> *t10
  refine stepK rfl (by kernel_rfl) (fun K hK => ?_); go_simp
  apply Exists.intro; apply And.intro; (focus exact kLoad rfl rfl aggT31 r5 rfl id); refine hK _ _ ?_; clear hK K
  -- 2: eql<31> t30, t31
  refine stepK rfl (by kernel_rfl) (fun K hK => ?_); go_simp
  apply Exists.intro; apply And.intro; (focus (intro wk hk; go_simp; exact ⟨rfl, rfl⟩)); refine hK _ _ ?_; clear hK K
  -- 3: t32
  refine stepK rfl (by kernel_rfl) (fun K hK => ?_); go_simp
  apply Exists.intro; apply And.intro; (focus (intro wk hk; go_simp; exact ⟨rfl, rfl⟩)); refine hK _ _ ?_; clear hK K
  -- 4: load<31> *t8
  refine stepK rfl (by kernel_rfl) (fun K hK => ?_); go_simp
  first | (refine hK _ _ ?_; clear hK K) | (apply Exists.intro; apply And.intro; (focus exact kLoad rfl rfl aggT31 r4 rfl id); refine hK _ _ ?_; clear hK K)
  -- 5: load<31> *t11
  refine stepK rfl (by kernel_rfl) (fun K hK => ?_); go_simp
  first | (refine hK _ _ ?_; clear hK K) | (apply Exists.intro; apply And.intro; (focus exact kLoad rfl rfl aggT31 r6 rfl id); refine hK _ _ ?_; clear hK K)
  -- 6: eql<31> t34, t35
  refine stepK rfl (by kernel_rfl) (fun K hK => ?_); go_simp
  first | (refine hK _ _ ?_; clear hK K) | (apply Exists.intro; apply And.intro; (focus (intro wk hk; go_simp; exact ⟨rfl, rfl⟩)); refine hK _ _ ?_; clear hK K)
  -- 7: pick t33 ? t36 : false
  refine stepK rfl (by kernel_rfl) (fun K hK => ?_); go_simp
  apply Exists.intro; apply And.intro; (focus (intro wk hk; go_simp; exact ⟨rfl, rfl⟩)); refine hK _ _ ?_; clear hK K
  -- 8: t37
  refine stepK rfl (by kernel_rfl) (fun K hK => ?_); go_simp
  apply Exists.intro; apply And.intro; (focus (intro wk hk; go_simp; exact ⟨rfl, rfl⟩)); refine hK _ _ ?_; clear hK K
  -- 9: t9
  refine stepK rfl (by kernel_rfl) (fun K hK => ?_); go_simp
  first | (refine hK _ _ ?_; clear hK K) | (apply Exists.intro; apply And.intro; (focus (intro wk hk; go_simp; exact ⟨rfl, rfl⟩)); refine hK _ _ ?_; clear hK K)
  -- 10: t12
  refine stepK rfl (by kernel_rfl) (fun K hK => ?_); go_simp
  first | (refine hK _ _ ?_; clear hK K) | (apply Exists.intro; apply And.intro; (focus (intro wk hk; go_simp; exact ⟨rfl, rfl⟩)); refine hK _ _ ?_; clear hK K)
  -- 11: eql<4> t39, t40
  refine stepK rfl (by kernel_rfl) (fun K hK => ?_); go_simp
  first | (refine hK _ _ ?_; clear hK K) | (apply Exists.intro; apply And.intro; (focus (intro wk hk; go_simp; exact ⟨rfl, rfl⟩)); refine hK _ _ ?_; clear hK K)
  -- 12: pick t38 ? t41 : false
  refine stepK rfl (by kernel_rfl) (fun K hK => ?_); go_simp
  apply Exists.intro; apply And.intro; (focus (intro wk hk; go_simp; exact ⟨rfl, rfl⟩)); refine hK _ _ ?_; clear hK K
  -- 13: t42
  refine stepK rfl (by kernel_rfl) (fun K hK => ?_); go_simp
  apply Exists.intro; apply And.intro; (focus (intro wk hk; go_simp; exact ⟨rfl, rfl⟩)); refine hK _ _ ?_; clear hK K
  -- 14: call F91()
  refine stepS _ rfl (by kernel_rfl) (fun K hK => ?_); go_simp
  refine ⟨?_, ?_⟩
  · intro wk hk hg hu; go_simp; refine upon_enter ((k2.out _).mono ?_); rintro e w' ⟨rfl, hb⟩; exact ⟨_, rfl, left_V (p := fun u => u = .bool true) rfl (hb) rfl⟩
  rintro ⟨v14, lo14, hi14⟩ - - (rfl : v14 = _)
  refine hK _ _ ?_; clear hK K
  -- 15: pick t43 ? t44 : false
  refine stepK rfl (by kernel_rfl) (fun K hK => ?_); go_simp
  apply Exists.intro; apply And.intro; (focus (intro wk hk; go_simp; exact ⟨rfl, rfl⟩)); refine hK _ _ ?_; clear hK K
  -- 16: assign t45
  refine stepK rfl (by kernel_rfl) (fun K hK => ?_); go_simp
  apply Exists.intro; apply And.intro; (focus (intro wk hk; go_simp; exact ⟨rfl, rfl⟩)); refine hK _ _ ?_; clear hK K
  refine stepN ?_
  refine hQ _ _ ?_
  intro w3 hT hG hF
  have hbw3 := hT.below
  replace r0 := r0.below hbw3 r0.lt
  replace r1 := r1.below hbw3 r1.lt
  replace r2 := r2.below hbw3 r2.lt
  replace r3 := r3.below hbw3 r3.lt
  replace r4 := r4.below hbw3 r4.lt
  replace r5 := r5.below hbw3 r5.lt
  replace r6 := r6.below hbw3 r6.lt
  replace hl := hl.trans (hbw3.mono hl.size)
  clear hT hG hF hbw3 hQ QQ L 
  go_wp2_with fail
  go_ret
  exact ⟨rfl, hl⟩
end Go.Proofs.Ytpdenhmkpiafiaa
