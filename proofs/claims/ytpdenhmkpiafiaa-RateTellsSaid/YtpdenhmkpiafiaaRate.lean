/-
  Package rate: what shares cost, and are worth.
-/
import Derived.Test.YtpdenhmkpiafiaaPart8
import Derived.Test.YtpdenhmkpiafiaaWadPartsW
namespace Go.Proofs.Ytpdenhmkpiafiaa
open Go Go.RowKit K6

theorem K1_lt : 1000 < M := by unfold M; omega
theorem addN_lt (a b : Nat) : addN a b < M := by unfold addN; split; assumption; exact M_pos
set_option maxRecDepth 100000 in
set_option maxHeartbeats 8000000 in
theorem virtU (w : World) : Calls Try.prog 206 #[] w (Ret w (.agg (W4 1000))) := by
  have k0 := Lib.hid (show ∀ wx, Calls Try.prog 103 #[.int .u64 1000] wx (Ret wx (.agg (W4 1000))) from fun wx => ofU 1000 (by omega) wx)
  go_enter Try.func206, Try.ntmps206
  apply wp_seq_eq
  focus
    intro J hJ
    go_wp2_with fail
    exact hJ
  refine wp_abs (Mem w [(w.heap.size, 31, arr .u64 (fun _ => 0) 4)]) ⟨by go_grown, ?_, trivial⟩ ?_
  · repeat (first | (refine Row.new_at ?_; simp; done) | refine Row.alloc ?_ _)
  intro w0 hM
  obtain ⟨hl, r0, -⟩ := hM
  go_upto_region 1 with (fail)
  let L : List Sp := [sV 0 [] [] (fun u => u = .agg (W4 1000)), sO 1 (w.heap.size) 31 [0] (fun g => aggOf g 0)]
  refine wp_region_six0 (shs L) (look6 L) (fun c => c = w.heap.size) (by kernel_rfl) (by kernel_rfl) (mk_St L [1] [1] (by kernel_rfl) (by kernel_rfl) ⟨ok_V ⟨_, rfl⟩, ok_O aggOf_congr r0.lt (rfl), trivial⟩ (by simp)) ?_
  intro QQ hQ
  -- 0: call F103(1000u)
  refine stepS _ rfl (by kernel_rfl) (fun K hK => ?_); go_simp
  refine ⟨?_, ?_⟩
  · intro wk hk hg hu; go_simp; refine upon_enter ((k0.out _).mono ?_); rintro e w' ⟨rfl, hb⟩; exact ⟨_, rfl, left_V (p := fun u => u = .agg (W4 1000)) rfl (hb) rfl⟩
  rintro ⟨v0, lo0, hi0⟩ - - (rfl : v0 = _)
  refine hK _ _ ?_; clear hK K
  -- 1: store<31> *t0 = t1
  refine stepS _ rfl (by kernel_rfl) (fun K hK => ?_); go_simp
  refine ⟨?_, ?_⟩
  · exact sStoreO rfl rfl rfl rfl rfl rfl r0 id (by kernel_rfl) rfl (by kernel_rfl) (by decide) aggOf_congr
  rintro ⟨v1, lo1, hi1⟩ - - (rfl : v1 = undef)
  refine hK _ _ ?_; clear hK K
  refine stepN ?_
  refine hQ _ _ ?_
  intro w1 hT hG hF
  have hT' := hT
  have xr0 : Row w1 (w.heap.size) 31 ((W4 1000)) := hF 1 _ rfl rfl (by decide)
  have hl9 : Below w.heap.size w w1 := hl.trans (hT'.below_of hl.size (by intro c hc; omega))
  clear hT hT' hG hF hQ QQ L hl r0
  have hl := hl9; clear hl9
  have r0 := xr0; clear xr0
  go_wp2_with fail
  refine bodyPost_ret (results_c rfl aggT31 rfl r0 rfl) rfl ?_
  exact ⟨rfl, hl⟩
set_option maxRecDepth 100000 in
set_option maxHeartbeats 8000000 in
theorem moreU {s t : Nat} (hs : s < M) (ht : t < M) (w : World) : Calls Try.prog 234 #[.agg (W8 s t)] w (Ret w (.agg (W8 (addN s 1000) (addN t 1000)))) := by
  obtain ⟨p, hp⟩ : ∃ p, p = addN s 1000 := ⟨_, rfl⟩
  obtain ⟨q, hq⟩ : ∃ q, q = addN t 1000 := ⟨_, rfl⟩
  obtain ⟨b1, hb1⟩ : ∃ b, b = addB s 1000 := ⟨_, rfl⟩
  obtain ⟨b2, hb2⟩ : ∃ b, b = addB t 1000 := ⟨_, rfl⟩
  have pl : p < M := hp ▸ addN_lt _ _
  have ql : q < M := hq ▸ addN_lt _ _
  rw [← hp, ← hq]
  have k0 := Lib.hid (show ∀ wx, Calls Try.prog 206 #[] wx (Ret wx (.agg (W4 1000))) from fun wx => by have h := virtU  wx; exact h)
  have k1 := Lib.hid (show ∀ wx, Calls Try.prog 46 #[.agg (W4 s), .agg (W4 1000)] wx (Ret wx (.tuple #[.agg (W4 p), .bool (b1)])) from fun wx => by have h := addU hs K1_lt wx; rw [← hp, ← hb1] at h; exact h)
  have k2 := Lib.hid (show ∀ wx, Calls Try.prog 46 #[.agg (W4 t), .agg (W4 1000)] wx (Ret wx (.tuple #[.agg (W4 q), .bool (b2)])) from fun wx => by have h := addU ht K1_lt wx; rw [← hq, ← hb2] at h; exact h)
  clear hp hq hb1 hb2
  go_enter Try.func234, Try.ntmps234
  apply wp_seq_eq
  focus
    intro J hJ
    go_wp2_with fail
    exact hJ
  refine wp_abs (Mem w [(w.heap.size, 192, W8 s t), (w.heap.size + 1, 192, #[.int .u64 0, .int .u64 0, .int .u64 0, .int .u64 0, .int .u64 0, .int .u64 0, .int .u64 0, .int .u64 0])]) ⟨by go_grown, ?_, ?_, trivial⟩ ?_
  · repeat (first | (refine Row.new_at ?_; simp; done) | refine Row.alloc ?_ _)
  · repeat (first | (refine Row.new_at ?_; simp; done) | refine Row.alloc ?_ _)
  intro w0 hM
  obtain ⟨hl, r0, r1, -⟩ := hM
  replace r1 := Row.congr r1 W8_zero
  go_upto_region 1 with (fail)
  let L : List Sp := [sA 0 192 [] #[.int .u64 0, .int .u64 0, .int .u64 0, .int .u64 0, .int .u64 0, .int .u64 0, .int .u64 0, .int .u64 0]]
  refine wp_region_six0 (shs L) (look6 L) (None_) (by kernel_rfl) (by kernel_rfl) (mk_St L [] [] (by kernel_rfl) (by kernel_rfl) ⟨ok_A, trivial⟩ (by simp)) ?_
  intro QQ hQ
  -- 0: alloc<192>
  refine stepS _ rfl (by kernel_rfl) (fun K hK => ?_); go_simp
  refine ⟨?_, ?_⟩
  · intro wk hk hg hu; go_simp; exact left_A rfl rfl
  rintro ⟨v0, lo0, hi0⟩ hlo0 hhi0 ⟨e0, f0⟩
  replace e0 : v0 = .pointer (some ⟨lo0, 0, none⟩) := e0; replace f0 : hi0 = lo0 + 1 := f0; replace hlo0 : _ ≤ lo0 := hlo0; subst e0; subst f0
  refine hK _ _ ?_; clear hK K
  refine stepN ?_
  refine hQ _ _ ?_
  intro w1 hT hG hF
  have nr2r0 : w.heap.size < lo0 := Nat.lt_of_lt_of_le r0.lt hlo0
  have nr2r1 : w.heap.size + 1 < lo0 := Nat.lt_of_lt_of_le r1.lt hlo0
  have hbw1 := hT.below
  have r2 : Row w1 lo0 192 #[.int .u64 0, .int .u64 0, .int .u64 0, .int .u64 0, .int .u64 0, .int .u64 0, .int .u64 0, .int .u64 0] := (hF 0 _ rfl rfl (by decide)).2
  replace r0 := r0.below hbw1 r0.lt
  replace r1 := r1.below hbw1 r1.lt
  replace hl := hl.trans (hbw1.mono hl.size)
  clear hT hG hF hbw1 hQ QQ L hlo0 hhi0
  replace r2 := Row.congr r2 W8_zero
  go_upto_region 2 with (fail)
  let L : List Sp := [sV 2 [] [] (fun u => u = .agg (W4 1000)), sV 3 [] [] (fun u => u = .tuple #[.agg (W4 p), .bool (b1)]), sO 8 (lo0) 192 [5] (fun gh => aggOf gh 5 ++ W4 0)]
  refine wp_region_six (shs L) (look6 L) (fun c => c = lo0) (by kernel_rfl) (by kernel_rfl) (mk_St L [8] [8] (by kernel_rfl) (by kernel_rfl) ⟨ok_V ⟨_, rfl⟩, ok_V ⟨_, rfl⟩, ok_O hi_congr r2.lt (rfl), trivial⟩ (by simp)) ?_
  intro QQ hQ
  -- 0: fieldAddr<192> t1.0
  refine stepK rfl (by kernel_rfl) (fun K hK => ?_); go_simp
  apply Exists.intro; apply And.intro; (focus (intro wk hk; go_simp; exact ⟨rfl, rfl⟩)); refine hK _ _ ?_; clear hK K
  -- 1: load<31> *t5
  refine stepK rfl (by kernel_rfl) (fun K hK => ?_); go_simp
  apply Exists.intro; apply And.intro; (focus exact kLoadMid rfl rfl aggT31 r0 (W8_hi s t) rfl id); refine hK _ _ ?_; clear hK K
  -- 2: call F206()
  refine stepS _ rfl (by kernel_rfl) (fun K hK => ?_); go_simp
  refine ⟨?_, ?_⟩
  · intro wk hk hg hu; go_simp; refine upon_enter ((k0.out _).mono ?_); rintro e w' ⟨rfl, hb⟩; exact ⟨_, rfl, left_V (p := fun u => u = .agg (W4 1000)) rfl (hb) rfl⟩
  rintro ⟨v2, lo2, hi2⟩ - - (rfl : v2 = _)
  refine hK _ _ ?_; clear hK K
  -- 3: call F46(t6, t7)
  refine stepS _ rfl (by kernel_rfl) (fun K hK => ?_); go_simp
  refine ⟨?_, ?_⟩
  · intro wk hk hg hu; go_simp; refine upon_enter ((k1.out _).mono ?_); rintro e w' ⟨rfl, hb⟩; exact ⟨_, rfl, left_V (p := fun u => u = .tuple #[.agg (W4 p), .bool (b1)]) rfl (hb) rfl⟩
  rintro ⟨v3, lo3, hi3⟩ - - (rfl : v3 = _)
  refine hK _ _ ?_; clear hK K
  -- 4: t8
  refine stepK rfl (by kernel_rfl) (fun K hK => ?_); go_simp
  apply Exists.intro; apply And.intro; (focus (intro wk hk; go_simp; exact ⟨rfl, rfl⟩)); refine hK _ _ ?_; clear hK K
  -- 5: extract t4 #0
  refine stepK rfl (by kernel_rfl) (fun K hK => ?_); go_simp
  apply Exists.intro; apply And.intro; (focus (intro wk hk; go_simp; exact ⟨rfl, rfl⟩)); refine hK _ _ ?_; clear hK K
  -- 6: extract t4 #1
  refine stepKz rfl (fun K hK => ?_); go_simp
  apply Exists.intro; apply And.intro; (focus (intro wk hk; go_simp; exact ⟨rfl, rfl⟩)); refine hK _ _ ?_; clear hK K
  -- 7: fieldAddr<192> t3.0
  refine stepK rfl (by kernel_rfl) (fun K hK => ?_); go_simp
  apply Exists.intro; apply And.intro; (focus (intro wk hk; go_simp; exact ⟨rfl, rfl⟩)); refine hK _ _ ?_; clear hK K
  -- 8: store<31> *t11 = t9
  refine stepS _ rfl (by kernel_rfl) (fun K hK => ?_); go_simp
  refine ⟨?_, ?_⟩
  · exact sStoreHi rfl rfl rfl rfl rfl rfl r2 id (by kernel_rfl) (by decide) hi_congr
  rintro ⟨v8, lo8, hi8⟩ - - (rfl : v8 = undef)
  refine hK _ _ ?_; clear hK K
  refine stepN ?_
  refine hQ _ _ ?_
  intro w2 hT hG hF
  have hT' := hT.undrew
  have xr2 : Row w2 (lo0) 192 ((W8 p 0)) := hF 8 _ rfl rfl (by decide)
  have hl9 : Below w.heap.size w w2 := hl.trans (hT'.below_of hl.size (by intro c hc; omega))
  replace r0 := K6.Row.tr r0 hT' (by show ¬ (w.heap.size = lo0); omega)
  replace r1 := K6.Row.tr r1 hT' (by show ¬ (w.heap.size + 1 = lo0); omega)
  clear hT hT' hG hF hQ QQ L hl r2
  have hl := hl9; clear hl9
  have r2 := xr2; clear xr2
  go_upto_region 3 with (fail)
  let L : List Sp := [sV 2 [] [] (fun u => u = .agg (W4 1000)), sV 3 [] [] (fun u => u = .tuple #[.agg (W4 q), .bool (b2)]), sO 8 (lo0) 192 [5] (fun gh => W4 p ++ aggOf gh 5)]
  refine wp_region_six (shs L) (look6 L) (fun c => c = lo0) (by kernel_rfl) (by kernel_rfl) (mk_St L [8] [8] (by kernel_rfl) (by kernel_rfl) ⟨ok_V ⟨_, rfl⟩, ok_V ⟨_, rfl⟩, ok_O lo_congr r2.lt (rfl), trivial⟩ (by simp)) ?_
  intro QQ hQ
  -- 0: fieldAddr<192> t1.1
  refine stepK rfl (by kernel_rfl) (fun K hK => ?_); go_simp
  apply Exists.intro; apply And.intro; (focus (intro wk hk; go_simp; exact ⟨rfl, rfl⟩)); refine hK _ _ ?_; clear hK K
  -- 1: load<31> *t13
  refine stepK rfl (by kernel_rfl) (fun K hK => ?_); go_simp
  apply Exists.intro; apply And.intro; (focus exact kLoadMid rfl rfl aggT31 r0 (W8_lo s t) rfl id); refine hK _ _ ?_; clear hK K
  -- 2: call F206()
  refine stepS _ rfl (by kernel_rfl) (fun K hK => ?_); go_simp
  refine ⟨?_, ?_⟩
  · intro wk hk hg hu; go_simp; refine upon_enter ((k0.out _).mono ?_); rintro e w' ⟨rfl, hb⟩; exact ⟨_, rfl, left_V (p := fun u => u = .agg (W4 1000)) rfl (hb) rfl⟩
  rintro ⟨v2, lo2, hi2⟩ - - (rfl : v2 = _)
  refine hK _ _ ?_; clear hK K
  -- 3: call F46(t14, t15)
  refine stepS _ rfl (by kernel_rfl) (fun K hK => ?_); go_simp
  refine ⟨?_, ?_⟩
  · intro wk hk hg hu; go_simp; refine upon_enter ((k2.out _).mono ?_); rintro e w' ⟨rfl, hb⟩; exact ⟨_, rfl, left_V (p := fun u => u = .tuple #[.agg (W4 q), .bool (b2)]) rfl (hb) rfl⟩
  rintro ⟨v3, lo3, hi3⟩ - - (rfl : v3 = _)
  refine hK _ _ ?_; clear hK K
  -- 4: t16
  refine stepK rfl (by kernel_rfl) (fun K hK => ?_); go_simp
  apply Exists.intro; apply And.intro; (focus (intro wk hk; go_simp; exact ⟨rfl, rfl⟩)); refine hK _ _ ?_; clear hK K
  -- 5: extract t12 #0
  refine stepK rfl (by kernel_rfl) (fun K hK => ?_); go_simp
  apply Exists.intro; apply And.intro; (focus (intro wk hk; go_simp; exact ⟨rfl, rfl⟩)); refine hK _ _ ?_; clear hK K
  -- 6: extract t12 #1
  refine stepKz rfl (fun K hK => ?_); go_simp
  apply Exists.intro; apply And.intro; (focus (intro wk hk; go_simp; exact ⟨rfl, rfl⟩)); refine hK _ _ ?_; clear hK K
  -- 7: fieldAddr<192> t3.1
  refine stepK rfl (by kernel_rfl) (fun K hK => ?_); go_simp
  apply Exists.intro; apply And.intro; (focus (intro wk hk; go_simp; exact ⟨rfl, rfl⟩)); refine hK _ _ ?_; clear hK K
  -- 8: store<31> *t19 = t17
  refine stepS _ rfl (by kernel_rfl) (fun K hK => ?_); go_simp
  refine ⟨?_, ?_⟩
  · exact sStoreLo rfl rfl rfl rfl rfl rfl r2 id (by kernel_rfl) (by decide) lo_congr
  rintro ⟨v8, lo8, hi8⟩ - - (rfl : v8 = undef)
  refine hK _ _ ?_; clear hK K
  refine stepN ?_
  refine hQ _ _ ?_
  intro w3 hT hG hF
  have hT' := hT.undrew
  have xr2 : Row w3 (lo0) 192 ((W8 p q)) := hF 8 _ rfl rfl (by decide)
  have hl9 : Below w.heap.size w w3 := hl.trans (hT'.below_of hl.size (by intro c hc; omega))
  replace r0 := K6.Row.tr r0 hT' (by show ¬ (w.heap.size = lo0); omega)
  replace r1 := K6.Row.tr r1 hT' (by show ¬ (w.heap.size + 1 = lo0); omega)
  clear hT hT' hG hF hQ QQ L hl r2
  have hl := hl9; clear hl9
  have r2 := xr2; clear xr2
  go_upto_region 4 with (fail)
  let L : List Sp := [sO 1 (w.heap.size + 1) 192 [0] (fun g => aggOf g 0)]
  refine wp_region_six0 (shs L) (look6 L) (fun c => c = w.heap.size + 1) (by kernel_rfl) (by kernel_rfl) (mk_St L [1] [1] (by kernel_rfl) (by kernel_rfl) ⟨ok_O aggOf_congr r1.lt (rfl), trivial⟩ (by simp)) ?_
  intro QQ hQ
  -- 0: load<192> *t3
  refine stepK rfl (by kernel_rfl) (fun K hK => ?_); go_simp
  apply Exists.intro; apply And.intro; (focus exact kLoad rfl rfl aggT192 r2 rfl id); refine hK _ _ ?_; clear hK K
  -- 1: store<192> *t2 = t20
  refine stepS _ rfl (by kernel_rfl) (fun K hK => ?_); go_simp
  refine ⟨?_, ?_⟩
  · exact sStoreO rfl rfl rfl rfl rfl rfl r1 id (by kernel_rfl) rfl (by kernel_rfl) (by decide) aggOf_congr
  rintro ⟨v1, lo1, hi1⟩ - - (rfl : v1 = undef)
  refine hK _ _ ?_; clear hK K
  refine stepN ?_
  refine hQ _ _ ?_
  intro w4 hT hG hF
  have hT' := hT
  have xr1 : Row w4 (w.heap.size + 1) 192 ((W8 p q)) := hF 1 _ rfl rfl (by decide)
  have hl9 : Below w.heap.size w w4 := hl.trans (hT'.below_of hl.size (by intro c hc; omega))
  replace r0 := K6.Row.tr r0 hT' (by show ¬ (w.heap.size = w.heap.size + 1); omega)
  replace r2 := K6.Row.tr r2 hT' (by show ¬ (lo0 = w.heap.size + 1); omega)
  clear hT hT' hG hF hQ QQ L hl r1
  have hl := hl9; clear hl9
  have r1 := xr1; clear xr1
  go_wp2_with fail
  refine bodyPost_ret (results_c rfl aggT192 rfl r1 rfl) rfl ?_
  exact ⟨rfl, hl⟩
set_option maxRecDepth 100000 in
set_option maxHeartbeats 8000000 in
theorem buyU {s t a : Nat} (hs : s < M) (ht : t < M) (ha : a < M) (w : World) : Calls Try.prog 202 #[.agg (W8 s t), .agg (W4 a)] w (Ret w (.tuple #[.agg (W4 (quoN (a * t) s)), .bool (quoB (a * t) s)])) := by
  obtain ⟨q, hq⟩ : ∃ q, q = quoN (a * t) s := ⟨_, rfl⟩
  obtain ⟨ok, hok⟩ : ∃ ok, ok = quoB (a * t) s := ⟨_, rfl⟩
  rw [← hq, ← hok]
  have k0 := Lib.hid (show ∀ wx, Calls Try.prog 85 #[.agg (W4 a), .agg (W4 t), .agg (W4 s)] wx (Ret wx (.tuple #[.agg (W4 q), .bool (ok)])) from fun wx => by have h := downU ha ht hs wx; rw [← hq, ← hok] at h; exact h)
  clear hq hok
  go_enter Try.func202, Try.ntmps202
  apply wp_seq_eq
  focus
    intro J hJ
    go_wp2_with fail
    exact hJ
  refine wp_abs (Mem w [(w.heap.size, 192, W8 s t), (w.heap.size + 1, 31, W4 a), (w.heap.size + 1 + 1, 31, arr .u64 (fun _ => 0) 4)]) ⟨by go_grown, ?_, ?_, ?_, trivial⟩ ?_
  · repeat (first | (refine Row.new_at ?_; simp; done) | refine Row.alloc ?_ _)
  · repeat (first | (refine Row.new_at ?_; simp; done) | refine Row.alloc ?_ _)
  · repeat (first | (refine Row.new_at ?_; simp; done) | refine Row.alloc ?_ _)
  intro w0 hM
  obtain ⟨hl, r0, r1, r2, -⟩ := hM
  go_upto_region 1 with (fail)
  let L : List Sp := [sV 5 [] [] (fun u => u = .tuple #[.agg (W4 q), .bool (ok)]), sO 8 (w.heap.size + 1 + 1) 31 [6] (fun g => aggOf g 6)]
  refine wp_region_six0 (shs L) (look6 L) (fun c => c = w.heap.size + 1 + 1) (by kernel_rfl) (by kernel_rfl) (mk_St L [8] [8] (by kernel_rfl) (by kernel_rfl) ⟨ok_V ⟨_, rfl⟩, ok_O aggOf_congr r2.lt (rfl), trivial⟩ (by simp)) ?_
  intro QQ hQ
  -- 0: load<31> *t3
  refine stepK rfl (by kernel_rfl) (fun K hK => ?_); go_simp
  apply Exists.intro; apply And.intro; (focus exact kLoad rfl rfl aggT31 r1 rfl id); refine hK _ _ ?_; clear hK K
  -- 1: fieldAddr<192> t2.1
  refine stepK rfl (by kernel_rfl) (fun K hK => ?_); go_simp
  apply Exists.intro; apply And.intro; (focus (intro wk hk; go_simp; exact ⟨rfl, rfl⟩)); refine hK _ _ ?_; clear hK K
  -- 2: load<31> *t7
  refine stepK rfl (by kernel_rfl) (fun K hK => ?_); go_simp
  apply Exists.intro; apply And.intro; (focus exact kLoadMid rfl rfl aggT31 r0 (W8_lo s t) rfl id); refine hK _ _ ?_; clear hK K
  -- 3: fieldAddr<192> t2.0
  refine stepK rfl (by kernel_rfl) (fun K hK => ?_); go_simp
  apply Exists.intro; apply And.intro; (focus (intro wk hk; go_simp; exact ⟨rfl, rfl⟩)); refine hK _ _ ?_; clear hK K
  -- 4: load<31> *t9
  refine stepK rfl (by kernel_rfl) (fun K hK => ?_); go_simp
  apply Exists.intro; apply And.intro; (focus exact kLoadMid rfl rfl aggT31 r0 (W8_hi s t) rfl id); refine hK _ _ ?_; clear hK K
  -- 5: call F85(t6, t8, t10)
  refine stepS _ rfl (by kernel_rfl) (fun K hK => ?_); go_simp
  refine ⟨?_, ?_⟩
  · intro wk hk hg hu; go_simp; refine upon_enter ((k0.out _).mono ?_); rintro e w' ⟨rfl, hb⟩; exact ⟨_, rfl, left_V (p := fun u => u = .tuple #[.agg (W4 q), .bool (ok)]) rfl (hb) rfl⟩
  rintro ⟨v5, lo5, hi5⟩ - - (rfl : v5 = _)
  refine hK _ _ ?_; clear hK K
  -- 6: extract t11 #0
  refine stepK rfl (by kernel_rfl) (fun K hK => ?_); go_simp
  apply Exists.intro; apply And.intro; (focus (intro wk hk; go_simp; exact ⟨rfl, rfl⟩)); refine hK _ _ ?_; clear hK K
  -- 7: extract t11 #1
  refine stepK rfl (by kernel_rfl) (fun K hK => ?_); go_simp
  apply Exists.intro; apply And.intro; (focus (intro wk hk; go_simp; exact ⟨rfl, rfl⟩)); refine hK _ _ ?_; clear hK K
  -- 8: store<31> *t4 = t12
  refine stepS _ rfl (by kernel_rfl) (fun K hK => ?_); go_simp
  refine ⟨?_, ?_⟩
  · exact sStoreO rfl rfl rfl rfl rfl rfl r2 id (by kernel_rfl) rfl (by kernel_rfl) (by decide) aggOf_congr
  rintro ⟨v8, lo8, hi8⟩ - - (rfl : v8 = undef)
  refine hK _ _ ?_; clear hK K
  -- 9: assign t13
  refine stepKz rfl (fun K hK => ?_); go_simp
  apply Exists.intro; apply And.intro; (focus (intro wk hk; go_simp; exact ⟨rfl, rfl⟩)); refine hK _ _ ?_; clear hK K
  refine stepN ?_
  refine hQ _ _ ?_
  intro w1 hT hG hF
  have hT' := hT
  have xr2 : Row w1 (w.heap.size + 1 + 1) 31 ((W4 q)) := hF 8 _ rfl rfl (by decide)
  have hl9 : Below w.heap.size w w1 := hl.trans (hT'.below_of hl.size (by intro c hc; omega))
  replace r0 := K6.Row.tr r0 hT' (by show ¬ (w.heap.size = w.heap.size + 1 + 1); omega)
  replace r1 := K6.Row.tr r1 hT' (by show ¬ (w.heap.size + 1 = w.heap.size + 1 + 1); omega)
  clear hT hT' hG hF hQ QQ L hl r2
  have hl := hl9; clear hl9
  have r2 := xr2; clear xr2
  go_wp2_with fail
  refine bodyPost_ret (results_ct rfl aggT31 rfl r2 rfl) rfl ?_
  exact ⟨rfl, hl⟩
set_option maxRecDepth 100000 in
set_option maxHeartbeats 8000000 in
theorem sellU {s t a : Nat} (hs : s < M) (ht : t < M) (ha : a < M) (w : World) : Calls Try.prog 204 #[.agg (W8 s t), .agg (W4 a)] w (Ret w (.tuple #[.agg (W4 (quoN (a * s) t)), .bool (quoB (a * s) t)])) := by
  obtain ⟨q, hq⟩ : ∃ q, q = quoN (a * s) t := ⟨_, rfl⟩
  obtain ⟨ok, hok⟩ : ∃ ok, ok = quoB (a * s) t := ⟨_, rfl⟩
  rw [← hq, ← hok]
  have k0 := Lib.hid (show ∀ wx, Calls Try.prog 85 #[.agg (W4 a), .agg (W4 s), .agg (W4 t)] wx (Ret wx (.tuple #[.agg (W4 q), .bool (ok)])) from fun wx => by have h := downU ha hs ht wx; rw [← hq, ← hok] at h; exact h)
  clear hq hok
  go_enter Try.func204, Try.ntmps204
  apply wp_seq_eq
  focus
    intro J hJ
    go_wp2_with fail
    exact hJ
  refine wp_abs (Mem w [(w.heap.size, 192, W8 s t), (w.heap.size + 1, 31, W4 a), (w.heap.size + 1 + 1, 31, arr .u64 (fun _ => 0) 4)]) ⟨by go_grown, ?_, ?_, ?_, trivial⟩ ?_
  · repeat (first | (refine Row.new_at ?_; simp; done) | refine Row.alloc ?_ _)
  · repeat (first | (refine Row.new_at ?_; simp; done) | refine Row.alloc ?_ _)
  · repeat (first | (refine Row.new_at ?_; simp; done) | refine Row.alloc ?_ _)
  intro w0 hM
  obtain ⟨hl, r0, r1, r2, -⟩ := hM
  go_upto_region 1 with (fail)
  let L : List Sp := [sV 5 [] [] (fun u => u = .tuple #[.agg (W4 q), .bool (ok)]), sO 8 (w.heap.size + 1 + 1) 31 [6] (fun g => aggOf g 6)]
  refine wp_region_six0 (shs L) (look6 L) (fun c => c = w.heap.size + 1 + 1) (by kernel_rfl) (by kernel_rfl) (mk_St L [8] [8] (by kernel_rfl) (by kernel_rfl) ⟨ok_V ⟨_, rfl⟩, ok_O aggOf_congr r2.lt (rfl), trivial⟩ (by simp)) ?_
  intro QQ hQ
  -- 0: load<31> *t3
  refine stepK rfl (by kernel_rfl) (fun K hK => ?_); go_simp
  apply Exists.intro; apply And.intro; (focus exact kLoad rfl rfl aggT31 r1 rfl id); refine hK _ _ ?_; clear hK K
  -- 1: fieldAddr<192> t2.0
  refine stepK rfl (by kernel_rfl) (fun K hK => ?_); go_simp
  apply Exists.intro; apply And.intro; (focus (intro wk hk; go_simp; exact ⟨rfl, rfl⟩)); refine hK _ _ ?_; clear hK K
  -- 2: load<31> *t7
  refine stepK rfl (by kernel_rfl) (fun K hK => ?_); go_simp
  apply Exists.intro; apply And.intro; (focus exact kLoadMid rfl rfl aggT31 r0 (W8_hi s t) rfl id); refine hK _ _ ?_; clear hK K
  -- 3: fieldAddr<192> t2.1
  refine stepK rfl (by kernel_rfl) (fun K hK => ?_); go_simp
  apply Exists.intro; apply And.intro; (focus (intro wk hk; go_simp; exact ⟨rfl, rfl⟩)); refine hK _ _ ?_; clear hK K
  -- 4: load<31> *t9
  refine stepK rfl (by kernel_rfl) (fun K hK => ?_); go_simp
  apply Exists.intro; apply And.intro; (focus exact kLoadMid rfl rfl aggT31 r0 (W8_lo s t) rfl id); refine hK _ _ ?_; clear hK K
  -- 5: call F85(t6, t8, t10)
  refine stepS _ rfl (by kernel_rfl) (fun K hK => ?_); go_simp
  refine ⟨?_, ?_⟩
  · intro wk hk hg hu; go_simp; refine upon_enter ((k0.out _).mono ?_); rintro e w' ⟨rfl, hb⟩; exact ⟨_, rfl, left_V (p := fun u => u = .tuple #[.agg (W4 q), .bool (ok)]) rfl (hb) rfl⟩
  rintro ⟨v5, lo5, hi5⟩ - - (rfl : v5 = _)
  refine hK _ _ ?_; clear hK K
  -- 6: extract t11 #0
  refine stepK rfl (by kernel_rfl) (fun K hK => ?_); go_simp
  apply Exists.intro; apply And.intro; (focus (intro wk hk; go_simp; exact ⟨rfl, rfl⟩)); refine hK _ _ ?_; clear hK K
  -- 7: extract t11 #1
  refine stepK rfl (by kernel_rfl) (fun K hK => ?_); go_simp
  apply Exists.intro; apply And.intro; (focus (intro wk hk; go_simp; exact ⟨rfl, rfl⟩)); refine hK _ _ ?_; clear hK K
  -- 8: store<31> *t4 = t12
  refine stepS _ rfl (by kernel_rfl) (fun K hK => ?_); go_simp
  refine ⟨?_, ?_⟩
  · exact sStoreO rfl rfl rfl rfl rfl rfl r2 id (by kernel_rfl) rfl (by kernel_rfl) (by decide) aggOf_congr
  rintro ⟨v8, lo8, hi8⟩ - - (rfl : v8 = undef)
  refine hK _ _ ?_; clear hK K
  -- 9: assign t13
  refine stepKz rfl (fun K hK => ?_); go_simp
  apply Exists.intro; apply And.intro; (focus (intro wk hk; go_simp; exact ⟨rfl, rfl⟩)); refine hK _ _ ?_; clear hK K
  refine stepN ?_
  refine hQ _ _ ?_
  intro w1 hT hG hF
  have hT' := hT
  have xr2 : Row w1 (w.heap.size + 1 + 1) 31 ((W4 q)) := hF 8 _ rfl rfl (by decide)
  have hl9 : Below w.heap.size w w1 := hl.trans (hT'.below_of hl.size (by intro c hc; omega))
  replace r0 := K6.Row.tr r0 hT' (by show ¬ (w.heap.size = w.heap.size + 1 + 1); omega)
  replace r1 := K6.Row.tr r1 hT' (by show ¬ (w.heap.size + 1 = w.heap.size + 1 + 1); omega)
  clear hT hT' hG hF hQ QQ L hl r2
  have hl := hl9; clear hl9
  have r2 := xr2; clear xr2
  go_wp2_with fail
  refine bodyPost_ret (results_ct rfl aggT31 rfl r2 rfl) rfl ?_
  exact ⟨rfl, hl⟩
set_option maxRecDepth 100000 in
set_option maxHeartbeats 8000000 in
theorem goodSU {s t : Nat} (hs : s < M) (ht : t < M) (w : World) : Calls Try.prog 205 #[.agg (W8 s t)] w (Ret w (.bool (decide (s < M2) && decide (t < M2)))) := by
  obtain ⟨b2, hb2⟩ : ∃ b, b = decide (t < M2) := ⟨_, rfl⟩
  cases hs2 : decide (s < M2)
  · have hh := Lib.hid (show (false && decide (t < M2)) = false from rfl)
    clear hb2
    have k0 := Lib.hid (show ∀ wx, Calls Try.prog 105 #[.agg (W4 s)] wx (Ret wx (.bool false)) from fun wx => by have h := amountU hs wx; rw [hs2] at h; exact h)
    clear hs2
    go_enter Try.func205, Try.ntmps205
    apply wp_seq_eq
    focus
      intro J hJ
      go_wp2_with fail
      exact hJ
    refine wp_abs (Mem w [(w.heap.size, 192, W8 s t)]) ⟨by go_grown, ?_, trivial⟩ ?_
    · repeat (first | (refine Row.new_at ?_; simp; done) | refine Row.alloc ?_ _)
    intro w0 hM
    obtain ⟨hl, r0, -⟩ := hM
    go_upto_region 1 with (fail)
    let L : List Sp := [sV 2 [] [] (fun u => u = .bool false)]
    refine wp_region_six0 (shs L) (look6 L) (None_) (by kernel_rfl) (by kernel_rfl) (mk_St L [] [] (by kernel_rfl) (by kernel_rfl) ⟨ok_V ⟨_, rfl⟩, trivial⟩ (by simp)) ?_
    intro QQ hQ
    -- 0: fieldAddr<192> t1.0
    refine stepK rfl (by kernel_rfl) (fun K hK => ?_); go_simp
    apply Exists.intro; apply And.intro; (focus (intro wk hk; go_simp; exact ⟨rfl, rfl⟩)); refine hK _ _ ?_; clear hK K
    -- 1: load<31> *t3
    refine stepK rfl (by kernel_rfl) (fun K hK => ?_); go_simp
    apply Exists.intro; apply And.intro; (focus exact kLoadMid rfl rfl aggT31 r0 (W8_hi s t) rfl id); refine hK _ _ ?_; clear hK K
    -- 2: call F105(t4)
    refine stepS _ rfl (by kernel_rfl) (fun K hK => ?_); go_simp
    refine ⟨?_, ?_⟩
    · intro wk hk hg hu; go_simp; refine upon_enter ((k0.out _).mono ?_); rintro e w' ⟨rfl, hb⟩; exact ⟨_, rfl, left_V (p := fun u => u = .bool false) rfl (hb) rfl⟩
    rintro ⟨v2, lo2, hi2⟩ - - (rfl : v2 = _)
    refine hK _ _ ?_; clear hK K
    -- 3: t5
    refine stepK rfl (by kernel_rfl) (fun K hK => ?_); go_simp
    apply Exists.intro; apply And.intro; (focus (intro wk hk; go_simp; exact ⟨rfl, rfl⟩)); refine hK _ _ ?_; clear hK K
    -- 4: fieldAddr<192> t1.1
    refine stepK rfl (by kernel_rfl) (fun K hK => ?_); go_simp
    first | (refine hK _ _ ?_; clear hK K) | (apply Exists.intro; apply And.intro; (focus (intro wk hk; go_simp; exact ⟨rfl, rfl⟩)); refine hK _ _ ?_; clear hK K)
    -- 5: load<31> *t7
    refine stepK rfl (by kernel_rfl) (fun K hK => ?_); go_simp
    first | (refine hK _ _ ?_; clear hK K) | (apply Exists.intro; apply And.intro; (focus (intro wk hk; go_simp; exact ⟨rfl, rfl⟩)); refine hK _ _ ?_; clear hK K)
    -- 6: call F105(t8)
    refine stepK rfl (by kernel_rfl) (fun K hK => ?_); go_simp
    first | (refine hK _ _ ?_; clear hK K) | (apply Exists.intro; apply And.intro; (focus (intro wk hk; go_simp; exact ⟨rfl, rfl⟩)); refine hK _ _ ?_; clear hK K)
    -- 7: pick t6 ? t9 : false
    refine stepK rfl (by kernel_rfl) (fun K hK => ?_); go_simp
    apply Exists.intro; apply And.intro; (focus (intro wk hk; go_simp; exact ⟨rfl, rfl⟩)); refine hK _ _ ?_; clear hK K
    -- 8: assign t10
    refine stepK rfl (by kernel_rfl) (fun K hK => ?_); go_simp
    apply Exists.intro; apply And.intro; (focus (intro wk hk; go_simp; exact ⟨rfl, rfl⟩)); refine hK _ _ ?_; clear hK K
    refine stepN ?_
    refine hQ _ _ ?_
    intro w1 hT hG hF
    have hbw1 := hT.below
    replace r0 := r0.below hbw1 r0.lt
    replace hl := hl.trans (hbw1.mono hl.size)
    clear hT hG hF hbw1 hQ QQ L 
    go_wp2_with fail
    go_ret
    exact ⟨by rw [hh.out]; rfl, hl⟩
  · have hh := Lib.hid (show (true && decide (t < M2)) = b2 by rw [hb2, Bool.true_and])
    have k0 := Lib.hid (show ∀ wx, Calls Try.prog 105 #[.agg (W4 s)] wx (Ret wx (.bool true)) from fun wx => by have h := amountU hs wx; rw [hs2] at h; exact h)
    have k1 := Lib.hid (show ∀ wx, Calls Try.prog 105 #[.agg (W4 t)] wx (Ret wx (.bool (b2))) from fun wx => by have h := amountU ht wx; rw [← hb2] at h; exact h)
    clear hs2 hb2
    go_enter Try.func205, Try.ntmps205
    apply wp_seq_eq
    focus
      intro J hJ
      go_wp2_with fail
      exact hJ
    refine wp_abs (Mem w [(w.heap.size, 192, W8 s t)]) ⟨by go_grown, ?_, trivial⟩ ?_
    · repeat (first | (refine Row.new_at ?_; simp; done) | refine Row.alloc ?_ _)
    intro w0 hM
    obtain ⟨hl, r0, -⟩ := hM
    go_upto_region 1 with (fail)
    let L : List Sp := [sV 2 [] [] (fun u => u = .bool true), sV 6 [] [] (fun u => u = .bool (b2))]
    refine wp_region_six0 (shs L) (look6 L) (None_) (by kernel_rfl) (by kernel_rfl) (mk_St L [] [] (by kernel_rfl) (by kernel_rfl) ⟨ok_V ⟨_, rfl⟩, ok_V ⟨_, rfl⟩, trivial⟩ (by simp)) ?_
    intro QQ hQ
    -- 0: fieldAddr<192> t1.0
    refine stepK rfl (by kernel_rfl) (fun K hK => ?_); go_simp
    apply Exists.intro; apply And.intro; (focus (intro wk hk; go_simp; exact ⟨rfl, rfl⟩)); refine hK _ _ ?_; clear hK K
    -- 1: load<31> *t3
    refine stepK rfl (by kernel_rfl) (fun K hK => ?_); go_simp
    apply Exists.intro; apply And.intro; (focus exact kLoadMid rfl rfl aggT31 r0 (W8_hi s t) rfl id); refine hK _ _ ?_; clear hK K
    -- 2: call F105(t4)
    refine stepS _ rfl (by kernel_rfl) (fun K hK => ?_); go_simp
    refine ⟨?_, ?_⟩
    · intro wk hk hg hu; go_simp; refine upon_enter ((k0.out _).mono ?_); rintro e w' ⟨rfl, hb⟩; exact ⟨_, rfl, left_V (p := fun u => u = .bool true) rfl (hb) rfl⟩
    rintro ⟨v2, lo2, hi2⟩ - - (rfl : v2 = _)
    refine hK _ _ ?_; clear hK K
    -- 3: t5
    refine stepK rfl (by kernel_rfl) (fun K hK => ?_); go_simp
    apply Exists.intro; apply And.intro; (focus (intro wk hk; go_simp; exact ⟨rfl, rfl⟩)); refine hK _ _ ?_; clear hK K
    -- 4: fieldAddr<192> t1.1
    refine stepK rfl (by kernel_rfl) (fun K hK => ?_); go_simp
    first | (refine hK _ _ ?_; clear hK K) | (apply Exists.intro; apply And.intro; (focus (intro wk hk; go_simp; exact ⟨rfl, rfl⟩)); refine hK _ _ ?_; clear hK K)
    -- 5: load<31> *t7
    refine stepK rfl (by kernel_rfl) (fun K hK => ?_); go_simp
    first | (refine hK _ _ ?_; clear hK K) | (apply Exists.intro; apply And.intro; (focus exact kLoadMid rfl rfl aggT31 r0 (W8_lo s t) rfl id); refine hK _ _ ?_; clear hK K)
    -- 6: call F105(t8)
    refine stepS _ rfl (by kernel_rfl) (fun K hK => ?_); go_simp
    refine ⟨?_, ?_⟩
    · intro wk hk hg hu; go_simp; refine upon_enter ((k1.out _).mono ?_); rintro e w' ⟨rfl, hb⟩; exact ⟨_, rfl, left_V (p := fun u => u = .bool (b2)) rfl (hb) rfl⟩
    rintro ⟨v6, lo6, hi6⟩ - - (rfl : v6 = _)
    refine hK _ _ ?_; clear hK K
    -- 7: pick t6 ? t9 : false
    refine stepK rfl (by kernel_rfl) (fun K hK => ?_); go_simp
    apply Exists.intro; apply And.intro; (focus (intro wk hk; go_simp; exact ⟨rfl, rfl⟩)); refine hK _ _ ?_; clear hK K
    -- 8: assign t10
    refine stepK rfl (by kernel_rfl) (fun K hK => ?_); go_simp
    apply Exists.intro; apply And.intro; (focus (intro wk hk; go_simp; exact ⟨rfl, rfl⟩)); refine hK _ _ ?_; clear hK K
    refine stepN ?_
    refine hQ _ _ ?_
    intro w1 hT hG hF
    have hbw1 := hT.below
    replace r0 := r0.below hbw1 r0.lt
    replace hl := hl.trans (hbw1.mono hl.size)
    clear hT hG hF hbw1 hQ QQ L 
    go_wp2_with fail
    go_ret
    exact ⟨by rw [hh.out]; rfl, hl⟩

def amt2 (s t : Nat) : Bool := decide (s < M2) && decide (t < M2)
def shN (s t a : Nat) : Nat := if amt2 s t = true then quoN (a * (t + 1000)) (s + 1000) else 0
def shB (s t a : Nat) : Bool := if amt2 s t = true then quoB (a * (t + 1000)) (s + 1000) else false
def tkN (s t a : Nat) : Nat := if amt2 s t = true then quoN (a * (s + 1000)) (t + 1000) else 0
def tkB (s t a : Nat) : Bool := if amt2 s t = true then quoB (a * (s + 1000)) (t + 1000) else false
theorem amt_add {s : Nat} (h : s < M2) : addN s 1000 = s + 1000 := by
  unfold addN; exact if_pos (by unfold M2 at h; unfold M; omega)
theorem amt2_l {s t : Nat} (h : amt2 s t = true) : s < M2 := by
  unfold amt2 at h; rw [Bool.and_eq_true] at h; exact of_decide_eq_true h.1
theorem amt2_r {s t : Nat} (h : amt2 s t = true) : t < M2 := by
  unfold amt2 at h; rw [Bool.and_eq_true] at h; exact of_decide_eq_true h.2
theorem k_lt {s : Nat} (h : s < M2) : s + 1000 < M := by unfold M2 at h; unfold M; omega
set_option maxRecDepth 100000 in
set_option maxHeartbeats 8000000 in
theorem askBuy {s t a : Nat} (hs : s < M) (ht : t < M) (ha : a < M) (w : World) : Calls Try.prog 201 #[.agg (W8 s t), .agg (W4 a), .func (.func 202) #[] #[]] w (Ret w (.tuple #[.agg (W4 (shN s t a)), .bool (shB s t a)])) := by
  by_cases hg : amt2 s t = true
  · obtain ⟨p, hp⟩ : ∃ p, p = s + 1000 := ⟨_, rfl⟩
    obtain ⟨r, hr⟩ : ∃ r, r = t + 1000 := ⟨_, rfl⟩
    have pl : p < M := hp ▸ k_lt (amt2_l hg)
    have rl : r < M := hr ▸ k_lt (amt2_r hg)
    rw [show shN s t a = quoN (a * r) p by unfold shN; rw [if_pos hg, hp, hr], show shB s t a = quoB (a * r) p by unfold shB; rw [if_pos hg, hp, hr]]
    obtain ⟨q, hq⟩ : ∃ q, q = quoN (a * r) p := ⟨_, rfl⟩
    obtain ⟨ok, hok⟩ : ∃ ok, ok = quoB (a * r) p := ⟨_, rfl⟩
    rw [← hq, ← hok]
    have k0 := Lib.hid (show ∀ wx, Calls Try.prog 205 #[.agg (W8 s t)] wx (Ret wx (.bool true)) from fun wx => by have h := goodSU hs ht wx; rw [show (decide (s < M2) && decide (t < M2)) = true from hg] at h; exact h)
    have k1 := Lib.hid (show ∀ wx, Calls Try.prog 234 #[.agg (W8 s t)] wx (Ret wx (.agg (W8 p r))) from fun wx => by have h := moreU hs ht wx; rw [amt_add (amt2_l hg), amt_add (amt2_r hg), ← hp, ← hr] at h; exact h)
    have k2 := Lib.hid (show ∀ wx, Calls Try.prog 202 #[.agg (W8 p r), .agg (W4 a)] wx (Ret wx (.tuple #[.agg (W4 q), .bool (ok)])) from fun wx => by have h := buyU pl rl ha wx; rw [← hq, ← hok] at h; exact h)
    clear hg hp hr hq hok
    go_enter Try.func201, Try.ntmps201
    apply wp_seq_eq
    focus
      intro J hJ
      go_wp2_with fail
      exact hJ
    refine wp_abs (Mem w [(w.heap.size, 192, W8 s t), (w.heap.size + 1, 31, W4 a), (w.heap.size + 1 + 1, 31, arr .u64 (fun _ => 0) 4)]) ⟨by go_grown, ?_, ?_, ?_, trivial⟩ ?_
    · repeat (first | (refine Row.new_at ?_; simp; done) | refine Row.alloc ?_ _)
    · repeat (first | (refine Row.new_at ?_; simp; done) | refine Row.alloc ?_ _)
    · repeat (first | (refine Row.new_at ?_; simp; done) | refine Row.alloc ?_ _)
    intro w0 hM
    obtain ⟨hl, r0, r1, r2, -⟩ := hM
    go_upto_region 1 with (fail)
    let L : List Sp := [sV 1 [] [] (fun u => u = .bool true)]
    refine wp_region_six0 (shs L) (look6 L) (None_) (by kernel_rfl) (by kernel_rfl) (mk_St L [] [] (by kernel_rfl) (by kernel_rfl) ⟨ok_V ⟨_, rfl⟩, trivial⟩ (by simp)) ?_
    intro QQ hQ
    -- 0: load<192> *t3
    refine stepK rfl (by kernel_rfl) (fun K hK => ?_); go_simp
    apply Exists.intro; apply And.intro; (focus exact kLoad rfl rfl aggT192 r0 rfl id); refine hK _ _ ?_; clear hK K
    -- 1: call F205(t8)
    refine stepS _ rfl (by kernel_rfl) (fun K hK => ?_); go_simp
    refine ⟨?_, ?_⟩
    · intro wk hk hg hu; go_simp; refine upon_enter ((k0.out _).mono ?_); rintro e w' ⟨rfl, hb⟩; exact ⟨_, rfl, left_V (p := fun u => u = .bool true) rfl (hb) rfl⟩
    rintro ⟨v1, lo1, hi1⟩ - - (rfl : v1 = _)
    refine hK _ _ ?_; clear hK K
    -- 2: not<4> t9
    refine stepK rfl (by kernel_rfl) (fun K hK => ?_); go_simp
    apply Exists.intro; apply And.intro; (focus (intro wk hk; go_simp; exact ⟨rfl, rfl⟩)); refine hK _ _ ?_; clear hK K
    refine stepN ?_
    refine hQ _ _ ?_
    intro w1 hT hG hF
    have hbw1 := hT.below
    replace r0 := r0.below hbw1 r0.lt
    replace r1 := r1.below hbw1 r1.lt
    replace r2 := r2.below hbw1 r2.lt
    replace hl := hl.trans (hbw1.mono hl.size)
    clear hT hG hF hbw1 hQ QQ L 
    go_upto_region 3 with (fail)
    let L : List Sp := [sV 2 [] [] (fun u => u = .agg (W8 p r)), sV 4 [] [] (fun u => u = .tuple #[.agg (W4 q), .bool (ok)]), sO 7 (w.heap.size + 1 + 1) 31 [5] (fun g => aggOf g 5)]
    refine wp_region_six (shs L) (look6 L) (fun c => c = w.heap.size + 1 + 1) (by kernel_rfl) (by kernel_rfl) (mk_St L [7] [7] (by kernel_rfl) (by kernel_rfl) ⟨ok_V ⟨_, rfl⟩, ok_V ⟨_, rfl⟩, ok_O aggOf_congr r2.lt (rfl), trivial⟩ (by simp)) ?_
    intro QQ hQ
    -- 0: t2
    refine stepK rfl (by kernel_rfl) (fun K hK => ?_); go_simp
    apply Exists.intro; apply And.intro; (focus (intro wk hk; go_simp; exact ⟨rfl, rfl⟩)); refine hK _ _ ?_; clear hK K
    -- 1: load<192> *t3
    refine stepK rfl (by kernel_rfl) (fun K hK => ?_); go_simp
    apply Exists.intro; apply And.intro; (focus exact kLoad rfl rfl aggT192 r0 rfl id); refine hK _ _ ?_; clear hK K
    -- 2: call F234(t13)
    refine stepS _ rfl (by kernel_rfl) (fun K hK => ?_); go_simp
    refine ⟨?_, ?_⟩
    · intro wk hk hg hu; go_simp; refine upon_enter ((k1.out _).mono ?_); rintro e w' ⟨rfl, hb⟩; exact ⟨_, rfl, left_V (p := fun u => u = .agg (W8 p r)) rfl (hb) rfl⟩
    rintro ⟨v2, lo2, hi2⟩ - - (rfl : v2 = _)
    refine hK _ _ ?_; clear hK K
    -- 3: load<31> *t4
    refine stepK rfl (by kernel_rfl) (fun K hK => ?_); go_simp
    apply Exists.intro; apply And.intro; (focus exact kLoad rfl rfl aggT31 r1 rfl id); refine hK _ _ ?_; clear hK K
    -- 4: call t12(t14, t15)
    refine stepS _ rfl (by kernel_rfl) (fun K hK => ?_); go_simp
    refine ⟨?_, ?_⟩
    · intro wk hk hg hu; go_simp; refine upon_enter ((k2.out _).mono ?_); rintro e w' ⟨rfl, hb⟩; exact ⟨_, rfl, left_V (p := fun u => u = .tuple #[.agg (W4 q), .bool (ok)]) rfl (hb) rfl⟩
    rintro ⟨v4, lo4, hi4⟩ - - (rfl : v4 = _)
    refine hK _ _ ?_; clear hK K
    -- 5: extract t16 #0
    refine stepK rfl (by kernel_rfl) (fun K hK => ?_); go_simp
    apply Exists.intro; apply And.intro; (focus (intro wk hk; go_simp; exact ⟨rfl, rfl⟩)); refine hK _ _ ?_; clear hK K
    -- 6: extract t16 #1
    refine stepK rfl (by kernel_rfl) (fun K hK => ?_); go_simp
    apply Exists.intro; apply And.intro; (focus (intro wk hk; go_simp; exact ⟨rfl, rfl⟩)); refine hK _ _ ?_; clear hK K
    -- 7: store<31> *t6 = t17
    refine stepS _ rfl (by kernel_rfl) (fun K hK => ?_); go_simp
    refine ⟨?_, ?_⟩
    · exact sStoreO rfl rfl rfl rfl rfl rfl r2 id (by kernel_rfl) rfl (by kernel_rfl) (by decide) aggOf_congr
    rintro ⟨v7, lo7, hi7⟩ - - (rfl : v7 = undef)
    refine hK _ _ ?_; clear hK K
    -- 8: assign t18
    refine stepKz rfl (fun K hK => ?_); go_simp
    apply Exists.intro; apply And.intro; (focus (intro wk hk; go_simp; exact ⟨rfl, rfl⟩)); refine hK _ _ ?_; clear hK K
    refine stepN ?_
    refine hQ _ _ ?_
    intro w2 hT hG hF
    have hT' := hT.undrew
    have xr2 : Row w2 (w.heap.size + 1 + 1) 31 ((W4 q)) := hF 7 _ rfl rfl (by decide)
    have hl9 : Below w.heap.size w w2 := hl.trans (hT'.below_of hl.size (by intro c hc; omega))
    replace r0 := K6.Row.tr r0 hT' (by show ¬ (w.heap.size = w.heap.size + 1 + 1); omega)
    replace r1 := K6.Row.tr r1 hT' (by show ¬ (w.heap.size + 1 = w.heap.size + 1 + 1); omega)
    clear hT hT' hG hF hQ QQ L hl r2
    have hl := hl9; clear hl9
    have r2 := xr2; clear xr2
    go_wp2_with fail
    refine bodyPost_ret (results_ct rfl aggT31 rfl r2 rfl) rfl ?_
    exact ⟨rfl, hl⟩
  · rw [show shN s t a = 0 from if_neg hg, show shB s t a = false from if_neg hg]
    replace hg : amt2 s t = false := by simpa using hg
    have k0 := Lib.hid (show ∀ wx, Calls Try.prog 205 #[.agg (W8 s t)] wx (Ret wx (.bool false)) from fun wx => by have h := goodSU hs ht wx; rw [show (decide (s < M2) && decide (t < M2)) = false from hg] at h; exact h)
    clear hg
    go_enter Try.func201, Try.ntmps201
    apply wp_seq_eq
    focus
      intro J hJ
      go_wp2_with fail
      exact hJ
    refine wp_abs (Mem w [(w.heap.size, 192, W8 s t), (w.heap.size + 1, 31, W4 a), (w.heap.size + 1 + 1, 31, arr .u64 (fun _ => 0) 4)]) ⟨by go_grown, ?_, ?_, ?_, trivial⟩ ?_
    · repeat (first | (refine Row.new_at ?_; simp; done) | refine Row.alloc ?_ _)
    · repeat (first | (refine Row.new_at ?_; simp; done) | refine Row.alloc ?_ _)
    · repeat (first | (refine Row.new_at ?_; simp; done) | refine Row.alloc ?_ _)
    intro w0 hM
    obtain ⟨hl, r0, r1, r2, -⟩ := hM
    go_upto_region 1 with (fail)
    let L : List Sp := [sV 1 [] [] (fun u => u = .bool false)]
    refine wp_region_six0 (shs L) (look6 L) (None_) (by kernel_rfl) (by kernel_rfl) (mk_St L [] [] (by kernel_rfl) (by kernel_rfl) ⟨ok_V ⟨_, rfl⟩, trivial⟩ (by simp)) ?_
    intro QQ hQ
    -- 0: load<192> *t3
    refine stepK rfl (by kernel_rfl) (fun K hK => ?_); go_simp
    apply Exists.intro; apply And.intro; (focus exact kLoad rfl rfl aggT192 r0 rfl id); refine hK _ _ ?_; clear hK K
    -- 1: call F205(t8)
    refine stepS _ rfl (by kernel_rfl) (fun K hK => ?_); go_simp
    refine ⟨?_, ?_⟩
    · intro wk hk hg hu; go_simp; refine upon_enter ((k0.out _).mono ?_); rintro e w' ⟨rfl, hb⟩; exact ⟨_, rfl, left_V (p := fun u => u = .bool false) rfl (hb) rfl⟩
    rintro ⟨v1, lo1, hi1⟩ - - (rfl : v1 = _)
    refine hK _ _ ?_; clear hK K
    -- 2: not<4> t9
    refine stepK rfl (by kernel_rfl) (fun K hK => ?_); go_simp
    apply Exists.intro; apply And.intro; (focus (intro wk hk; go_simp; exact ⟨rfl, rfl⟩)); refine hK _ _ ?_; clear hK K
    refine stepN ?_
    refine hQ _ _ ?_
    intro w1 hT hG hF
    have hbw1 := hT.below
    replace r0 := r0.below hbw1 r0.lt
    replace r1 := r1.below hbw1 r1.lt
    replace r2 := r2.below hbw1 r2.lt
    replace hl := hl.trans (hbw1.mono hl.size)
    clear hT hG hF hbw1 hQ QQ L 
    go_upto_region 2 with (fail)
    let L : List Sp := [sO 1 (w.heap.size + 1 + 1) 31 [0] (fun g => aggOf g 0)]
    refine wp_region_six0 (shs L) (look6 L) (fun c => c = w.heap.size + 1 + 1) (by kernel_rfl) (by kernel_rfl) (mk_St L [1] [1] (by kernel_rfl) (by kernel_rfl) ⟨ok_O aggOf_congr r2.lt (rfl), trivial⟩ (by simp)) ?_
    intro QQ hQ
    -- 0: build<31> 
    refine stepK rfl (by kernel_rfl) (fun K hK => ?_); go_simp
    apply Exists.intro; apply And.intro; (focus (intro wk hk; go_simp; exact ⟨rfl, rfl⟩)); refine hK _ _ ?_; clear hK K
    -- 1: store<31> *t6 = t11
    refine stepS _ rfl (by kernel_rfl) (fun K hK => ?_); go_simp
    refine ⟨?_, ?_⟩
    · exact sStoreO rfl rfl rfl rfl rfl rfl r2 id (by kernel_rfl) rfl (by kernel_rfl) (by decide) aggOf_congr
    rintro ⟨v1, lo1, hi1⟩ - - (rfl : v1 = undef)
    refine hK _ _ ?_; clear hK K
    -- 2: assign false
    refine stepKz rfl (fun K hK => ?_); go_simp
    apply Exists.intro; apply And.intro; (focus (intro wk hk; go_simp; exact ⟨rfl, rfl⟩)); refine hK _ _ ?_; clear hK K
    refine stepN ?_
    refine hQ _ _ ?_
    intro w2 hT hG hF
    have hT' := hT
    have xr2 : Row w2 (w.heap.size + 1 + 1) 31 (W4 0) := Row.congr (show Row w2 (w.heap.size + 1 + 1) 31 _ from hF 1 _ rfl rfl (by decide)) W4_zero
    have hl9 : Below w.heap.size w w2 := hl.trans (hT'.below_of hl.size (by intro c hc; omega))
    replace r0 := K6.Row.tr r0 hT' (by show ¬ (w.heap.size = w.heap.size + 1 + 1); omega)
    replace r1 := K6.Row.tr r1 hT' (by show ¬ (w.heap.size + 1 = w.heap.size + 1 + 1); omega)
    clear hT hT' hG hF hQ QQ L hl r2
    have hl := hl9; clear hl9
    have r2 := xr2; clear xr2
    go_wp2_with fail
    refine bodyPost_ret (results_ct rfl aggT31 rfl r2 rfl) rfl ?_
    exact ⟨rfl, hl⟩
set_option maxRecDepth 100000 in
set_option maxHeartbeats 8000000 in
theorem askSell {s t a : Nat} (hs : s < M) (ht : t < M) (ha : a < M) (w : World) : Calls Try.prog 201 #[.agg (W8 s t), .agg (W4 a), .func (.func 204) #[] #[]] w (Ret w (.tuple #[.agg (W4 (tkN s t a)), .bool (tkB s t a)])) := by
  by_cases hg : amt2 s t = true
  · obtain ⟨p, hp⟩ : ∃ p, p = s + 1000 := ⟨_, rfl⟩
    obtain ⟨r, hr⟩ : ∃ r, r = t + 1000 := ⟨_, rfl⟩
    have pl : p < M := hp ▸ k_lt (amt2_l hg)
    have rl : r < M := hr ▸ k_lt (amt2_r hg)
    rw [show tkN s t a = quoN (a * p) r by unfold tkN; rw [if_pos hg, hp, hr], show tkB s t a = quoB (a * p) r by unfold tkB; rw [if_pos hg, hp, hr]]
    obtain ⟨q, hq⟩ : ∃ q, q = quoN (a * p) r := ⟨_, rfl⟩
    obtain ⟨ok, hok⟩ : ∃ ok, ok = quoB (a * p) r := ⟨_, rfl⟩
    rw [← hq, ← hok]
    have k0 := Lib.hid (show ∀ wx, Calls Try.prog 205 #[.agg (W8 s t)] wx (Ret wx (.bool true)) from fun wx => by have h := goodSU hs ht wx; rw [show (decide (s < M2) && decide (t < M2)) = true from hg] at h; exact h)
    have k1 := Lib.hid (show ∀ wx, Calls Try.prog 234 #[.agg (W8 s t)] wx (Ret wx (.agg (W8 p r))) from fun wx => by have h := moreU hs ht wx; rw [amt_add (amt2_l hg), amt_add (amt2_r hg), ← hp, ← hr] at h; exact h)
    have k2 := Lib.hid (show ∀ wx, Calls Try.prog 204 #[.agg (W8 p r), .agg (W4 a)] wx (Ret wx (.tuple #[.agg (W4 q), .bool (ok)])) from fun wx => by have h := sellU pl rl ha wx; rw [← hq, ← hok] at h; exact h)
    clear hg hp hr hq hok
    go_enter Try.func201, Try.ntmps201
    apply wp_seq_eq
    focus
      intro J hJ
      go_wp2_with fail
      exact hJ
    refine wp_abs (Mem w [(w.heap.size, 192, W8 s t), (w.heap.size + 1, 31, W4 a), (w.heap.size + 1 + 1, 31, arr .u64 (fun _ => 0) 4)]) ⟨by go_grown, ?_, ?_, ?_, trivial⟩ ?_
    · repeat (first | (refine Row.new_at ?_; simp; done) | refine Row.alloc ?_ _)
    · repeat (first | (refine Row.new_at ?_; simp; done) | refine Row.alloc ?_ _)
    · repeat (first | (refine Row.new_at ?_; simp; done) | refine Row.alloc ?_ _)
    intro w0 hM
    obtain ⟨hl, r0, r1, r2, -⟩ := hM
    go_upto_region 1 with (fail)
    let L : List Sp := [sV 1 [] [] (fun u => u = .bool true)]
    refine wp_region_six0 (shs L) (look6 L) (None_) (by kernel_rfl) (by kernel_rfl) (mk_St L [] [] (by kernel_rfl) (by kernel_rfl) ⟨ok_V ⟨_, rfl⟩, trivial⟩ (by simp)) ?_
    intro QQ hQ
    -- 0: load<192> *t3
    refine stepK rfl (by kernel_rfl) (fun K hK => ?_); go_simp
    apply Exists.intro; apply And.intro; (focus exact kLoad rfl rfl aggT192 r0 rfl id); refine hK _ _ ?_; clear hK K
    -- 1: call F205(t8)
    refine stepS _ rfl (by kernel_rfl) (fun K hK => ?_); go_simp
    refine ⟨?_, ?_⟩
    · intro wk hk hg hu; go_simp; refine upon_enter ((k0.out _).mono ?_); rintro e w' ⟨rfl, hb⟩; exact ⟨_, rfl, left_V (p := fun u => u = .bool true) rfl (hb) rfl⟩
    rintro ⟨v1, lo1, hi1⟩ - - (rfl : v1 = _)
    refine hK _ _ ?_; clear hK K
    -- 2: not<4> t9
    refine stepK rfl (by kernel_rfl) (fun K hK => ?_); go_simp
    apply Exists.intro; apply And.intro; (focus (intro wk hk; go_simp; exact ⟨rfl, rfl⟩)); refine hK _ _ ?_; clear hK K
    refine stepN ?_
    refine hQ _ _ ?_
    intro w1 hT hG hF
    have hbw1 := hT.below
    replace r0 := r0.below hbw1 r0.lt
    replace r1 := r1.below hbw1 r1.lt
    replace r2 := r2.below hbw1 r2.lt
    replace hl := hl.trans (hbw1.mono hl.size)
    clear hT hG hF hbw1 hQ QQ L 
    go_upto_region 3 with (fail)
    let L : List Sp := [sV 2 [] [] (fun u => u = .agg (W8 p r)), sV 4 [] [] (fun u => u = .tuple #[.agg (W4 q), .bool (ok)]), sO 7 (w.heap.size + 1 + 1) 31 [5] (fun g => aggOf g 5)]
    refine wp_region_six (shs L) (look6 L) (fun c => c = w.heap.size + 1 + 1) (by kernel_rfl) (by kernel_rfl) (mk_St L [7] [7] (by kernel_rfl) (by kernel_rfl) ⟨ok_V ⟨_, rfl⟩, ok_V ⟨_, rfl⟩, ok_O aggOf_congr r2.lt (rfl), trivial⟩ (by simp)) ?_
    intro QQ hQ
    -- 0: t2
    refine stepK rfl (by kernel_rfl) (fun K hK => ?_); go_simp
    apply Exists.intro; apply And.intro; (focus (intro wk hk; go_simp; exact ⟨rfl, rfl⟩)); refine hK _ _ ?_; clear hK K
    -- 1: load<192> *t3
    refine stepK rfl (by kernel_rfl) (fun K hK => ?_); go_simp
    apply Exists.intro; apply And.intro; (focus exact kLoad rfl rfl aggT192 r0 rfl id); refine hK _ _ ?_; clear hK K
    -- 2: call F234(t13)
    refine stepS _ rfl (by kernel_rfl) (fun K hK => ?_); go_simp
    refine ⟨?_, ?_⟩
    · intro wk hk hg hu; go_simp; refine upon_enter ((k1.out _).mono ?_); rintro e w' ⟨rfl, hb⟩; exact ⟨_, rfl, left_V (p := fun u => u = .agg (W8 p r)) rfl (hb) rfl⟩
    rintro ⟨v2, lo2, hi2⟩ - - (rfl : v2 = _)
    refine hK _ _ ?_; clear hK K
    -- 3: load<31> *t4
    refine stepK rfl (by kernel_rfl) (fun K hK => ?_); go_simp
    apply Exists.intro; apply And.intro; (focus exact kLoad rfl rfl aggT31 r1 rfl id); refine hK _ _ ?_; clear hK K
    -- 4: call t12(t14, t15)
    refine stepS _ rfl (by kernel_rfl) (fun K hK => ?_); go_simp
    refine ⟨?_, ?_⟩
    · intro wk hk hg hu; go_simp; refine upon_enter ((k2.out _).mono ?_); rintro e w' ⟨rfl, hb⟩; exact ⟨_, rfl, left_V (p := fun u => u = .tuple #[.agg (W4 q), .bool (ok)]) rfl (hb) rfl⟩
    rintro ⟨v4, lo4, hi4⟩ - - (rfl : v4 = _)
    refine hK _ _ ?_; clear hK K
    -- 5: extract t16 #0
    refine stepK rfl (by kernel_rfl) (fun K hK => ?_); go_simp
    apply Exists.intro; apply And.intro; (focus (intro wk hk; go_simp; exact ⟨rfl, rfl⟩)); refine hK _ _ ?_; clear hK K
    -- 6: extract t16 #1
    refine stepK rfl (by kernel_rfl) (fun K hK => ?_); go_simp
    apply Exists.intro; apply And.intro; (focus (intro wk hk; go_simp; exact ⟨rfl, rfl⟩)); refine hK _ _ ?_; clear hK K
    -- 7: store<31> *t6 = t17
    refine stepS _ rfl (by kernel_rfl) (fun K hK => ?_); go_simp
    refine ⟨?_, ?_⟩
    · exact sStoreO rfl rfl rfl rfl rfl rfl r2 id (by kernel_rfl) rfl (by kernel_rfl) (by decide) aggOf_congr
    rintro ⟨v7, lo7, hi7⟩ - - (rfl : v7 = undef)
    refine hK _ _ ?_; clear hK K
    -- 8: assign t18
    refine stepKz rfl (fun K hK => ?_); go_simp
    apply Exists.intro; apply And.intro; (focus (intro wk hk; go_simp; exact ⟨rfl, rfl⟩)); refine hK _ _ ?_; clear hK K
    refine stepN ?_
    refine hQ _ _ ?_
    intro w2 hT hG hF
    have hT' := hT.undrew
    have xr2 : Row w2 (w.heap.size + 1 + 1) 31 ((W4 q)) := hF 7 _ rfl rfl (by decide)
    have hl9 : Below w.heap.size w w2 := hl.trans (hT'.below_of hl.size (by intro c hc; omega))
    replace r0 := K6.Row.tr r0 hT' (by show ¬ (w.heap.size = w.heap.size + 1 + 1); omega)
    replace r1 := K6.Row.tr r1 hT' (by show ¬ (w.heap.size + 1 = w.heap.size + 1 + 1); omega)
    clear hT hT' hG hF hQ QQ L hl r2
    have hl := hl9; clear hl9
    have r2 := xr2; clear xr2
    go_wp2_with fail
    refine bodyPost_ret (results_ct rfl aggT31 rfl r2 rfl) rfl ?_
    exact ⟨rfl, hl⟩
  · rw [show tkN s t a = 0 from if_neg hg, show tkB s t a = false from if_neg hg]
    replace hg : amt2 s t = false := by simpa using hg
    have k0 := Lib.hid (show ∀ wx, Calls Try.prog 205 #[.agg (W8 s t)] wx (Ret wx (.bool false)) from fun wx => by have h := goodSU hs ht wx; rw [show (decide (s < M2) && decide (t < M2)) = false from hg] at h; exact h)
    clear hg
    go_enter Try.func201, Try.ntmps201
    apply wp_seq_eq
    focus
      intro J hJ
      go_wp2_with fail
      exact hJ
    refine wp_abs (Mem w [(w.heap.size, 192, W8 s t), (w.heap.size + 1, 31, W4 a), (w.heap.size + 1 + 1, 31, arr .u64 (fun _ => 0) 4)]) ⟨by go_grown, ?_, ?_, ?_, trivial⟩ ?_
    · repeat (first | (refine Row.new_at ?_; simp; done) | refine Row.alloc ?_ _)
    · repeat (first | (refine Row.new_at ?_; simp; done) | refine Row.alloc ?_ _)
    · repeat (first | (refine Row.new_at ?_; simp; done) | refine Row.alloc ?_ _)
    intro w0 hM
    obtain ⟨hl, r0, r1, r2, -⟩ := hM
    go_upto_region 1 with (fail)
    let L : List Sp := [sV 1 [] [] (fun u => u = .bool false)]
    refine wp_region_six0 (shs L) (look6 L) (None_) (by kernel_rfl) (by kernel_rfl) (mk_St L [] [] (by kernel_rfl) (by kernel_rfl) ⟨ok_V ⟨_, rfl⟩, trivial⟩ (by simp)) ?_
    intro QQ hQ
    -- 0: load<192> *t3
    refine stepK rfl (by kernel_rfl) (fun K hK => ?_); go_simp
    apply Exists.intro; apply And.intro; (focus exact kLoad rfl rfl aggT192 r0 rfl id); refine hK _ _ ?_; clear hK K
    -- 1: call F205(t8)
    refine stepS _ rfl (by kernel_rfl) (fun K hK => ?_); go_simp
    refine ⟨?_, ?_⟩
    · intro wk hk hg hu; go_simp; refine upon_enter ((k0.out _).mono ?_); rintro e w' ⟨rfl, hb⟩; exact ⟨_, rfl, left_V (p := fun u => u = .bool false) rfl (hb) rfl⟩
    rintro ⟨v1, lo1, hi1⟩ - - (rfl : v1 = _)
    refine hK _ _ ?_; clear hK K
    -- 2: not<4> t9
    refine stepK rfl (by kernel_rfl) (fun K hK => ?_); go_simp
    apply Exists.intro; apply And.intro; (focus (intro wk hk; go_simp; exact ⟨rfl, rfl⟩)); refine hK _ _ ?_; clear hK K
    refine stepN ?_
    refine hQ _ _ ?_
    intro w1 hT hG hF
    have hbw1 := hT.below
    replace r0 := r0.below hbw1 r0.lt
    replace r1 := r1.below hbw1 r1.lt
    replace r2 := r2.below hbw1 r2.lt
    replace hl := hl.trans (hbw1.mono hl.size)
    clear hT hG hF hbw1 hQ QQ L 
    go_upto_region 2 with (fail)
    let L : List Sp := [sO 1 (w.heap.size + 1 + 1) 31 [0] (fun g => aggOf g 0)]
    refine wp_region_six0 (shs L) (look6 L) (fun c => c = w.heap.size + 1 + 1) (by kernel_rfl) (by kernel_rfl) (mk_St L [1] [1] (by kernel_rfl) (by kernel_rfl) ⟨ok_O aggOf_congr r2.lt (rfl), trivial⟩ (by simp)) ?_
    intro QQ hQ
    -- 0: build<31> 
    refine stepK rfl (by kernel_rfl) (fun K hK => ?_); go_simp
    apply Exists.intro; apply And.intro; (focus (intro wk hk; go_simp; exact ⟨rfl, rfl⟩)); refine hK _ _ ?_; clear hK K
    -- 1: store<31> *t6 = t11
    refine stepS _ rfl (by kernel_rfl) (fun K hK => ?_); go_simp
    refine ⟨?_, ?_⟩
    · exact sStoreO rfl rfl rfl rfl rfl rfl r2 id (by kernel_rfl) rfl (by kernel_rfl) (by decide) aggOf_congr
    rintro ⟨v1, lo1, hi1⟩ - - (rfl : v1 = undef)
    refine hK _ _ ?_; clear hK K
    -- 2: assign false
    refine stepKz rfl (fun K hK => ?_); go_simp
    apply Exists.intro; apply And.intro; (focus (intro wk hk; go_simp; exact ⟨rfl, rfl⟩)); refine hK _ _ ?_; clear hK K
    refine stepN ?_
    refine hQ _ _ ?_
    intro w2 hT hG hF
    have hT' := hT
    have xr2 : Row w2 (w.heap.size + 1 + 1) 31 (W4 0) := Row.congr (show Row w2 (w.heap.size + 1 + 1) 31 _ from hF 1 _ rfl rfl (by decide)) W4_zero
    have hl9 : Below w.heap.size w w2 := hl.trans (hT'.below_of hl.size (by intro c hc; omega))
    replace r0 := K6.Row.tr r0 hT' (by show ¬ (w.heap.size = w.heap.size + 1 + 1); omega)
    replace r1 := K6.Row.tr r1 hT' (by show ¬ (w.heap.size + 1 = w.heap.size + 1 + 1); omega)
    clear hT hT' hG hF hQ QQ L hl r2
    have hl := hl9; clear hl9
    have r2 := xr2; clear xr2
    go_wp2_with fail
    refine bodyPost_ret (results_ct rfl aggT31 rfl r2 rfl) rfl ?_
    exact ⟨rfl, hl⟩
set_option maxRecDepth 100000 in
set_option maxHeartbeats 8000000 in
theorem sharesU {s t a : Nat} (hs : s < M) (ht : t < M) (ha : a < M) (w : World) : Calls Try.prog 112 #[.agg (W4 s), .agg (W4 t), .agg (W4 a)] w (Ret w (.tuple #[.agg (W4 (shN s t a)), .bool (shB s t a)])) := by
  obtain ⟨q, hq⟩ : ∃ q, q = shN s t a := ⟨_, rfl⟩
  obtain ⟨ok, hok⟩ : ∃ ok, ok = shB s t a := ⟨_, rfl⟩
  rw [← hq, ← hok]
  have k0 := Lib.hid (show ∀ wx, Calls Try.prog 201 #[.agg (W8 s t), .agg (W4 a), .func (.func 202) #[] #[]] wx (Ret wx (.tuple #[.agg (W4 q), .bool (ok)])) from fun wx => by have h := askBuy hs ht ha wx; rw [← hq, ← hok] at h; exact h)
  clear hq hok
  go_enter Try.func112, Try.ntmps112
  apply wp_seq_eq
  focus
    intro J hJ
    go_wp2_with fail
    exact hJ
  refine wp_abs (Mem w [(w.heap.size, 31, W4 s), (w.heap.size + 1, 31, W4 t), (w.heap.size + 1 + 1, 31, W4 a), (w.heap.size + 1 + 1 + 1, 31, arr .u64 (fun _ => 0) 4)]) ⟨by go_grown, ?_, ?_, ?_, ?_, trivial⟩ ?_
  · repeat (first | (refine Row.new_at ?_; simp; done) | refine Row.alloc ?_ _)
  · repeat (first | (refine Row.new_at ?_; simp; done) | refine Row.alloc ?_ _)
  · repeat (first | (refine Row.new_at ?_; simp; done) | refine Row.alloc ?_ _)
  · repeat (first | (refine Row.new_at ?_; simp; done) | refine Row.alloc ?_ _)
  intro w0 hM
  obtain ⟨hl, r0, r1, r2, r3, -⟩ := hM
  go_upto_region 1 with (fail)
  let L : List Sp := [sV 4 [] [] (fun u => u = .tuple #[.agg (W4 q), .bool (ok)]), sO 7 (w.heap.size + 1 + 1 + 1) 31 [5] (fun g => aggOf g 5)]
  refine wp_region_six0 (shs L) (look6 L) (fun c => c = w.heap.size + 1 + 1 + 1) (by kernel_rfl) (by kernel_rfl) (mk_St L [7] [7] (by kernel_rfl) (by kernel_rfl) ⟨ok_V ⟨_, rfl⟩, ok_O aggOf_congr r3.lt (rfl), trivial⟩ (by simp)) ?_
  intro QQ hQ
  -- 0: load<31> *t3
  refine stepK rfl (by kernel_rfl) (fun K hK => ?_); go_simp
  apply Exists.intro; apply And.intro; (focus exact kLoad rfl rfl aggT31 r0 rfl id); refine hK _ _ ?_; clear hK K
  -- 1: load<31> *t4
  refine stepK rfl (by kernel_rfl) (fun K hK => ?_); go_simp
  apply Exists.intro; apply And.intro; (focus exact kLoad rfl rfl aggT31 r1 rfl id); refine hK _ _ ?_; clear hK K
  -- 2: build<192> 0:t8, 1:t9
  refine stepK rfl (by kernel_rfl) (fun K hK => ?_); go_simp
  apply Exists.intro; apply And.intro; (focus exact kBuild rfl rfl rfl (fun wx => build192 s t wx)); refine hK _ _ ?_; clear hK K
  -- 3: load<31> *t5
  refine stepK rfl (by kernel_rfl) (fun K hK => ?_); go_simp
  apply Exists.intro; apply And.intro; (focus exact kLoad rfl rfl aggT31 r2 rfl id); refine hK _ _ ?_; clear hK K
  -- 4: call F201(t10, t11, F202)
  refine stepS _ rfl (by kernel_rfl) (fun K hK => ?_); go_simp
  refine ⟨?_, ?_⟩
  · intro wk hk hg hu; go_simp; refine upon_enter ((k0.out _).mono ?_); rintro e w' ⟨rfl, hb⟩; exact ⟨_, rfl, left_V (p := fun u => u = .tuple #[.agg (W4 q), .bool (ok)]) rfl (hb) rfl⟩
  rintro ⟨v4, lo4, hi4⟩ - - (rfl : v4 = _)
  refine hK _ _ ?_; clear hK K
  -- 5: extract t12 #0
  refine stepK rfl (by kernel_rfl) (fun K hK => ?_); go_simp
  apply Exists.intro; apply And.intro; (focus (intro wk hk; go_simp; exact ⟨rfl, rfl⟩)); refine hK _ _ ?_; clear hK K
  -- 6: extract t12 #1
  refine stepK rfl (by kernel_rfl) (fun K hK => ?_); go_simp
  apply Exists.intro; apply And.intro; (focus (intro wk hk; go_simp; exact ⟨rfl, rfl⟩)); refine hK _ _ ?_; clear hK K
  -- 7: store<31> *t6 = t13
  refine stepS _ rfl (by kernel_rfl) (fun K hK => ?_); go_simp
  refine ⟨?_, ?_⟩
  · exact sStoreO rfl rfl rfl rfl rfl rfl r3 id (by kernel_rfl) rfl (by kernel_rfl) (by decide) aggOf_congr
  rintro ⟨v7, lo7, hi7⟩ - - (rfl : v7 = undef)
  refine hK _ _ ?_; clear hK K
  -- 8: assign t14
  refine stepKz rfl (fun K hK => ?_); go_simp
  apply Exists.intro; apply And.intro; (focus (intro wk hk; go_simp; exact ⟨rfl, rfl⟩)); refine hK _ _ ?_; clear hK K
  refine stepN ?_
  refine hQ _ _ ?_
  intro w1 hT hG hF
  have hT' := hT
  have xr3 : Row w1 (w.heap.size + 1 + 1 + 1) 31 ((W4 q)) := hF 7 _ rfl rfl (by decide)
  have hl9 : Below w.heap.size w w1 := hl.trans (hT'.below_of hl.size (by intro c hc; omega))
  replace r0 := K6.Row.tr r0 hT' (by show ¬ (w.heap.size = w.heap.size + 1 + 1 + 1); omega)
  replace r1 := K6.Row.tr r1 hT' (by show ¬ (w.heap.size + 1 = w.heap.size + 1 + 1 + 1); omega)
  replace r2 := K6.Row.tr r2 hT' (by show ¬ (w.heap.size + 1 + 1 = w.heap.size + 1 + 1 + 1); omega)
  clear hT hT' hG hF hQ QQ L hl r3
  have hl := hl9; clear hl9
  have r3 := xr3; clear xr3
  go_wp2_with fail
  refine bodyPost_ret (results_ct rfl aggT31 rfl r3 rfl) rfl ?_
  exact ⟨rfl, hl⟩
set_option maxRecDepth 100000 in
set_option maxHeartbeats 8000000 in
theorem tokensU {s t a : Nat} (hs : s < M) (ht : t < M) (ha : a < M) (w : World) : Calls Try.prog 114 #[.agg (W4 s), .agg (W4 t), .agg (W4 a)] w (Ret w (.tuple #[.agg (W4 (tkN s t a)), .bool (tkB s t a)])) := by
  obtain ⟨q, hq⟩ : ∃ q, q = tkN s t a := ⟨_, rfl⟩
  obtain ⟨ok, hok⟩ : ∃ ok, ok = tkB s t a := ⟨_, rfl⟩
  rw [← hq, ← hok]
  have k0 := Lib.hid (show ∀ wx, Calls Try.prog 201 #[.agg (W8 s t), .agg (W4 a), .func (.func 204) #[] #[]] wx (Ret wx (.tuple #[.agg (W4 q), .bool (ok)])) from fun wx => by have h := askSell hs ht ha wx; rw [← hq, ← hok] at h; exact h)
  clear hq hok
  go_enter Try.func114, Try.ntmps114
  apply wp_seq_eq
  focus
    intro J hJ
    go_wp2_with fail
    exact hJ
  refine wp_abs (Mem w [(w.heap.size, 31, W4 s), (w.heap.size + 1, 31, W4 t), (w.heap.size + 1 + 1, 31, W4 a), (w.heap.size + 1 + 1 + 1, 31, arr .u64 (fun _ => 0) 4)]) ⟨by go_grown, ?_, ?_, ?_, ?_, trivial⟩ ?_
  · repeat (first | (refine Row.new_at ?_; simp; done) | refine Row.alloc ?_ _)
  · repeat (first | (refine Row.new_at ?_; simp; done) | refine Row.alloc ?_ _)
  · repeat (first | (refine Row.new_at ?_; simp; done) | refine Row.alloc ?_ _)
  · repeat (first | (refine Row.new_at ?_; simp; done) | refine Row.alloc ?_ _)
  intro w0 hM
  obtain ⟨hl, r0, r1, r2, r3, -⟩ := hM
  go_upto_region 1 with (fail)
  let L : List Sp := [sV 4 [] [] (fun u => u = .tuple #[.agg (W4 q), .bool (ok)]), sO 7 (w.heap.size + 1 + 1 + 1) 31 [5] (fun g => aggOf g 5)]
  refine wp_region_six0 (shs L) (look6 L) (fun c => c = w.heap.size + 1 + 1 + 1) (by kernel_rfl) (by kernel_rfl) (mk_St L [7] [7] (by kernel_rfl) (by kernel_rfl) ⟨ok_V ⟨_, rfl⟩, ok_O aggOf_congr r3.lt (rfl), trivial⟩ (by simp)) ?_
  intro QQ hQ
  -- 0: load<31> *t3
  refine stepK rfl (by kernel_rfl) (fun K hK => ?_); go_simp
  apply Exists.intro; apply And.intro; (focus exact kLoad rfl rfl aggT31 r0 rfl id); refine hK _ _ ?_; clear hK K
  -- 1: load<31> *t4
  refine stepK rfl (by kernel_rfl) (fun K hK => ?_); go_simp
  apply Exists.intro; apply And.intro; (focus exact kLoad rfl rfl aggT31 r1 rfl id); refine hK _ _ ?_; clear hK K
  -- 2: build<192> 0:t8, 1:t9
  refine stepK rfl (by kernel_rfl) (fun K hK => ?_); go_simp
  apply Exists.intro; apply And.intro; (focus exact kBuild rfl rfl rfl (fun wx => build192 s t wx)); refine hK _ _ ?_; clear hK K
  -- 3: load<31> *t5
  refine stepK rfl (by kernel_rfl) (fun K hK => ?_); go_simp
  apply Exists.intro; apply And.intro; (focus exact kLoad rfl rfl aggT31 r2 rfl id); refine hK _ _ ?_; clear hK K
  -- 4: call F201(t10, t11, F204)
  refine stepS _ rfl (by kernel_rfl) (fun K hK => ?_); go_simp
  refine ⟨?_, ?_⟩
  · intro wk hk hg hu; go_simp; refine upon_enter ((k0.out _).mono ?_); rintro e w' ⟨rfl, hb⟩; exact ⟨_, rfl, left_V (p := fun u => u = .tuple #[.agg (W4 q), .bool (ok)]) rfl (hb) rfl⟩
  rintro ⟨v4, lo4, hi4⟩ - - (rfl : v4 = _)
  refine hK _ _ ?_; clear hK K
  -- 5: extract t12 #0
  refine stepK rfl (by kernel_rfl) (fun K hK => ?_); go_simp
  apply Exists.intro; apply And.intro; (focus (intro wk hk; go_simp; exact ⟨rfl, rfl⟩)); refine hK _ _ ?_; clear hK K
  -- 6: extract t12 #1
  refine stepK rfl (by kernel_rfl) (fun K hK => ?_); go_simp
  apply Exists.intro; apply And.intro; (focus (intro wk hk; go_simp; exact ⟨rfl, rfl⟩)); refine hK _ _ ?_; clear hK K
  -- 7: store<31> *t6 = t13
  refine stepS _ rfl (by kernel_rfl) (fun K hK => ?_); go_simp
  refine ⟨?_, ?_⟩
  · exact sStoreO rfl rfl rfl rfl rfl rfl r3 id (by kernel_rfl) rfl (by kernel_rfl) (by decide) aggOf_congr
  rintro ⟨v7, lo7, hi7⟩ - - (rfl : v7 = undef)
  refine hK _ _ ?_; clear hK K
  -- 8: assign t14
  refine stepKz rfl (fun K hK => ?_); go_simp
  apply Exists.intro; apply And.intro; (focus (intro wk hk; go_simp; exact ⟨rfl, rfl⟩)); refine hK _ _ ?_; clear hK K
  refine stepN ?_
  refine hQ _ _ ?_
  intro w1 hT hG hF
  have hT' := hT
  have xr3 : Row w1 (w.heap.size + 1 + 1 + 1) 31 ((W4 q)) := hF 7 _ rfl rfl (by decide)
  have hl9 : Below w.heap.size w w1 := hl.trans (hT'.below_of hl.size (by intro c hc; omega))
  replace r0 := K6.Row.tr r0 hT' (by show ¬ (w.heap.size = w.heap.size + 1 + 1 + 1); omega)
  replace r1 := K6.Row.tr r1 hT' (by show ¬ (w.heap.size + 1 = w.heap.size + 1 + 1 + 1); omega)
  replace r2 := K6.Row.tr r2 hT' (by show ¬ (w.heap.size + 1 + 1 = w.heap.size + 1 + 1 + 1); omega)
  clear hT hT' hG hF hQ QQ L hl r3
  have hl := hl9; clear hl9
  have r3 := xr3; clear xr3
  go_wp2_with fail
  refine bodyPost_ret (results_ct rfl aggT31 rfl r3 rfl) rfl ?_
  exact ⟨rfl, hl⟩
set_option maxRecDepth 100000 in
set_option maxHeartbeats 8000000 in
theorem goodRU {s t : Nat} (hs : s < M) (ht : t < M) (w : World) : Calls Try.prog 116 #[.agg (W4 s), .agg (W4 t)] w (Ret w (.bool (amt2 s t && decide (t ≤ s)))) := by
  cases hg : amt2 s t
  · have hh := Lib.hid (show (false && decide (t ≤ s)) = false from rfl)
    have k0 := Lib.hid (show ∀ wx, Calls Try.prog 205 #[.agg (W8 s t)] wx (Ret wx (.bool false)) from fun wx => by have h := goodSU hs ht wx; rw [show (decide (s < M2) && decide (t < M2)) = false from hg] at h; exact h)
    clear hg
    go_enter Try.func116, Try.ntmps116
    apply wp_seq_eq
    focus
      intro J hJ
      go_wp2_with fail
      exact hJ
    refine wp_abs (Mem w [(w.heap.size, 31, W4 s), (w.heap.size + 1, 31, W4 t)]) ⟨by go_grown, ?_, ?_, trivial⟩ ?_
    · repeat (first | (refine Row.new_at ?_; simp; done) | refine Row.alloc ?_ _)
    · repeat (first | (refine Row.new_at ?_; simp; done) | refine Row.alloc ?_ _)
    intro w0 hM
    obtain ⟨hl, r0, r1, -⟩ := hM
    go_upto_region 1 with (fail)
    let L : List Sp := [sV 3 [] [] (fun u => u = .bool false)]
    refine wp_region_six0 (shs L) (look6 L) (None_) (by kernel_rfl) (by kernel_rfl) (mk_St L [] [] (by kernel_rfl) (by kernel_rfl) ⟨ok_V ⟨_, rfl⟩, trivial⟩ (by simp)) ?_
    intro QQ hQ
    -- 0: load<31> *t2
    refine stepK rfl (by kernel_rfl) (fun K hK => ?_); go_simp
    apply Exists.intro; apply And.intro; (focus exact kLoad rfl rfl aggT31 r0 rfl id); refine hK _ _ ?_; clear hK K
    -- 1: load<31> *t3
    refine stepK rfl (by kernel_rfl) (fun K hK => ?_); go_simp
    apply Exists.intro; apply And.intro; (focus exact kLoad rfl rfl aggT31 r1 rfl id); refine hK _ _ ?_; clear hK K
    -- 2: build<192> 0:t5, 1:t6
    refine stepK rfl (by kernel_rfl) (fun K hK => ?_); go_simp
    apply Exists.intro; apply And.intro; (focus exact kBuild rfl rfl rfl (fun wx => build192 s t wx)); refine hK _ _ ?_; clear hK K
    -- 3: call F205(t7)
    refine stepS _ rfl (by kernel_rfl) (fun K hK => ?_); go_simp
    refine ⟨?_, ?_⟩
    · intro wk hk hg hu; go_simp; refine upon_enter ((k0.out _).mono ?_); rintro e w' ⟨rfl, hb⟩; exact ⟨_, rfl, left_V (p := fun u => u = .bool false) rfl (hb) rfl⟩
    rintro ⟨v3, lo3, hi3⟩ - - (rfl : v3 = _)
    refine hK _ _ ?_; clear hK K
    -- 4: t8
    refine stepK rfl (by kernel_rfl) (fun K hK => ?_); go_simp
    apply Exists.intro; apply And.intro; (focus (intro wk hk; go_simp; exact ⟨rfl, rfl⟩)); refine hK _ _ ?_; clear hK K
    -- 5: load<31> *t3
    refine stepK rfl (by kernel_rfl) (fun K hK => ?_); go_simp
    first | (refine hK _ _ ?_; clear hK K) | (apply Exists.intro; apply And.intro; (focus (intro wk hk; go_simp; exact ⟨rfl, rfl⟩)); refine hK _ _ ?_; clear hK K)
    -- 6: load<31> *t2
    refine stepK rfl (by kernel_rfl) (fun K hK => ?_); go_simp
    first | (refine hK _ _ ?_; clear hK K) | (apply Exists.intro; apply And.intro; (focus (intro wk hk; go_simp; exact ⟨rfl, rfl⟩)); refine hK _ _ ?_; clear hK K)
    -- 7: call F48(t10, t11)
    refine stepK rfl (by kernel_rfl) (fun K hK => ?_); go_simp
    first | (refine hK _ _ ?_; clear hK K) | (apply Exists.intro; apply And.intro; (focus (intro wk hk; go_simp; exact ⟨rfl, rfl⟩)); refine hK _ _ ?_; clear hK K)
    -- 8: leq<3> t12, 0
    refine stepK rfl (by kernel_rfl) (fun K hK => ?_); go_simp
    first | (refine hK _ _ ?_; clear hK K) | (apply Exists.intro; apply And.intro; (focus (intro wk hk; go_simp; exact ⟨rfl, rfl⟩)); refine hK _ _ ?_; clear hK K)
    -- 9: pick t9 ? t13 : false
    refine stepK rfl (by kernel_rfl) (fun K hK => ?_); go_simp
    apply Exists.intro; apply And.intro; (focus (intro wk hk; go_simp; exact ⟨rfl, rfl⟩)); refine hK _ _ ?_; clear hK K
    -- 10: assign t14
    refine stepK rfl (by kernel_rfl) (fun K hK => ?_); go_simp
    apply Exists.intro; apply And.intro; (focus (intro wk hk; go_simp; exact ⟨rfl, rfl⟩)); refine hK _ _ ?_; clear hK K
    refine stepN ?_
    refine hQ _ _ ?_
    intro w1 hT hG hF
    have hbw1 := hT.below
    replace r0 := r0.below hbw1 r0.lt
    replace r1 := r1.below hbw1 r1.lt
    replace hl := hl.trans (hbw1.mono hl.size)
    clear hT hG hF hbw1 hQ QQ L 
    go_wp2_with fail
    go_ret
    exact ⟨by rw [hh.out]; rfl, hl⟩
  · obtain ⟨c, hc⟩ : ∃ c, c = cmpN t s := ⟨_, rfl⟩
    have hh := Lib.hid (show (true && decide (t ≤ s)) = decide (c ≤ 0) by
      rw [Bool.true_and, hc]
      congr 1
      refine propext ⟨cmpN_le, fun h => ?_⟩
      refine Nat.le_of_not_lt fun h1 => ?_
      have := cmpN_gt h1
      omega)
    have k0 := Lib.hid (show ∀ wx, Calls Try.prog 205 #[.agg (W8 s t)] wx (Ret wx (.bool true)) from fun wx => by have h := goodSU hs ht wx; rw [show (decide (s < M2) && decide (t < M2)) = true from hg] at h; exact h)
    have k1 := Lib.hid (show ∀ wx, Calls Try.prog 48 #[.agg (W4 t), .agg (W4 s)] wx (Ret wx (.int .i64 c)) from fun wx => by have h := cmpU ht hs wx; rw [← hc] at h; exact h)
    clear hg hc
    go_enter Try.func116, Try.ntmps116
    apply wp_seq_eq
    focus
      intro J hJ
      go_wp2_with fail
      exact hJ
    refine wp_abs (Mem w [(w.heap.size, 31, W4 s), (w.heap.size + 1, 31, W4 t)]) ⟨by go_grown, ?_, ?_, trivial⟩ ?_
    · repeat (first | (refine Row.new_at ?_; simp; done) | refine Row.alloc ?_ _)
    · repeat (first | (refine Row.new_at ?_; simp; done) | refine Row.alloc ?_ _)
    intro w0 hM
    obtain ⟨hl, r0, r1, -⟩ := hM
    go_upto_region 1 with (fail)
    let L : List Sp := [sV 3 [] [] (fun u => u = .bool true), sV 7 [] [] (fun u => u = .int .i64 c)]
    refine wp_region_six0 (shs L) (look6 L) (None_) (by kernel_rfl) (by kernel_rfl) (mk_St L [] [] (by kernel_rfl) (by kernel_rfl) ⟨ok_V ⟨_, rfl⟩, ok_V ⟨_, rfl⟩, trivial⟩ (by simp)) ?_
    intro QQ hQ
    -- 0: load<31> *t2
    refine stepK rfl (by kernel_rfl) (fun K hK => ?_); go_simp
    apply Exists.intro; apply And.intro; (focus exact kLoad rfl rfl aggT31 r0 rfl id); refine hK _ _ ?_; clear hK K
    -- 1: load<31> *t3
    refine stepK rfl (by kernel_rfl) (fun K hK => ?_); go_simp
    apply Exists.intro; apply And.intro; (focus exact kLoad rfl rfl aggT31 r1 rfl id); refine hK _ _ ?_; clear hK K
    -- 2: build<192> 0:t5, 1:t6
    refine stepK rfl (by kernel_rfl) (fun K hK => ?_); go_simp
    apply Exists.intro; apply And.intro; (focus exact kBuild rfl rfl rfl (fun wx => build192 s t wx)); refine hK _ _ ?_; clear hK K
    -- 3: call F205(t7)
    refine stepS _ rfl (by kernel_rfl) (fun K hK => ?_); go_simp
    refine ⟨?_, ?_⟩
    · intro wk hk hg hu; go_simp; refine upon_enter ((k0.out _).mono ?_); rintro e w' ⟨rfl, hb⟩; exact ⟨_, rfl, left_V (p := fun u => u = .bool true) rfl (hb) rfl⟩
    rintro ⟨v3, lo3, hi3⟩ - - (rfl : v3 = _)
    refine hK _ _ ?_; clear hK K
    -- 4: t8
    refine stepK rfl (by kernel_rfl) (fun K hK => ?_); go_simp
    apply Exists.intro; apply And.intro; (focus (intro wk hk; go_simp; exact ⟨rfl, rfl⟩)); refine hK _ _ ?_; clear hK K
    -- 5: load<31> *t3
    refine stepK rfl (by kernel_rfl) (fun K hK => ?_); go_simp
    first | (refine hK _ _ ?_; clear hK K) | (apply Exists.intro; apply And.intro; (focus exact kLoad rfl rfl aggT31 r1 rfl id); refine hK _ _ ?_; clear hK K)
    -- 6: load<31> *t2
    refine stepK rfl (by kernel_rfl) (fun K hK => ?_); go_simp
    first | (refine hK _ _ ?_; clear hK K) | (apply Exists.intro; apply And.intro; (focus exact kLoad rfl rfl aggT31 r0 rfl id); refine hK _ _ ?_; clear hK K)
    -- 7: call F48(t10, t11)
    refine stepS _ rfl (by kernel_rfl) (fun K hK => ?_); go_simp
    refine ⟨?_, ?_⟩
    · intro wk hk hg hu; go_simp; refine upon_enter ((k1.out _).mono ?_); rintro e w' ⟨rfl, hb⟩; exact ⟨_, rfl, left_V (p := fun u => u = .int .i64 c) rfl (hb) rfl⟩
    rintro ⟨v7, lo7, hi7⟩ - - (rfl : v7 = _)
    refine hK _ _ ?_; clear hK K
    -- 8: leq<3> t12, 0
    refine stepK rfl (by kernel_rfl) (fun K hK => ?_); go_simp
    first | (refine hK _ _ ?_; clear hK K) | (apply Exists.intro; apply And.intro; (focus (intro wk hk; go_simp; exact ⟨rfl, rfl⟩)); refine hK _ _ ?_; clear hK K)
    -- 9: pick t9 ? t13 : false
    refine stepK rfl (by kernel_rfl) (fun K hK => ?_); go_simp
    apply Exists.intro; apply And.intro; (focus (intro wk hk; go_simp; exact ⟨rfl, rfl⟩)); refine hK _ _ ?_; clear hK K
    -- 10: assign t14
    refine stepK rfl (by kernel_rfl) (fun K hK => ?_); go_simp
    apply Exists.intro; apply And.intro; (focus (intro wk hk; go_simp; exact ⟨rfl, rfl⟩)); refine hK _ _ ?_; clear hK K
    refine stepN ?_
    refine hQ _ _ ?_
    intro w1 hT hG hF
    have hbw1 := hT.below
    replace r0 := r0.below hbw1 r0.lt
    replace r1 := r1.below hbw1 r1.lt
    replace hl := hl.trans (hbw1.mono hl.size)
    clear hT hG hF hbw1 hQ QQ L 
    go_wp2_with fail
    go_ret
    exact ⟨by rw [hh.out]; rfl, hl⟩
set_option maxRecDepth 100000 in
set_option maxHeartbeats 8000000 in
theorem lives18U (w : World) : Calls Try.prog 118 #[] w (Ret w (.bool true)) := by
  have k0 := Lib.hid (show ∀ wx, Calls Try.prog 112 #[.agg #[.int .u64 0, .int .u64 0, .int .u64 0, .int .u64 0], .agg #[.int .u64 0, .int .u64 0, .int .u64 0, .int .u64 0], .agg #[.int .u64 100, .int .u64 0, .int .u64 0, .int .u64 0]] wx (Ret wx (.tuple #[.agg (W4 100), .bool true])) from fun wx => by have h := sharesU (show 0 < M by unfold M; omega) (show 0 < M by unfold M; omega) (show 100 < M by unfold M; omega) wx; rw [show shN 0 0 100 = 100 by decide, show shB 0 0 100 = true by decide] at h; exact h)
  have k1 := Lib.hid (show ∀ wx, Calls Try.prog 112 #[.agg #[.int .u64 1000, .int .u64 0, .int .u64 0, .int .u64 0], .agg #[.int .u64 0, .int .u64 0, .int .u64 0, .int .u64 0], .agg #[.int .u64 100, .int .u64 0, .int .u64 0, .int .u64 0]] wx (Ret wx (.tuple #[.agg (W4 50), .bool true])) from fun wx => by have h := sharesU (show 1000 < M by unfold M; omega) (show 0 < M by unfold M; omega) (show 100 < M by unfold M; omega) wx; rw [show shN 1000 0 100 = 50 by decide, show shB 1000 0 100 = true by decide] at h; exact h)
  have k2 := Lib.hid (show ∀ wx, Calls Try.prog 114 #[.agg #[.int .u64 1000, .int .u64 0, .int .u64 0, .int .u64 0], .agg #[.int .u64 0, .int .u64 0, .int .u64 0, .int .u64 0], .agg #[.int .u64 50, .int .u64 0, .int .u64 0, .int .u64 0]] wx (Ret wx (.tuple #[.agg (W4 100), .bool true])) from fun wx => by have h := tokensU (show 1000 < M by unfold M; omega) (show 0 < M by unfold M; omega) (show 50 < M by unfold M; omega) wx; rw [show tkN 1000 0 50 = 100 by decide, show tkB 1000 0 50 = true by decide] at h; exact h)
  have k3 := Lib.hid (show ∀ wx, Calls Try.prog 206 #[] wx (Ret wx (.agg (W4 1000))) from fun wx => by have h := virtU  wx; exact h)
  have q0 : ∀ wx, (Op.equalIn 10000 31 (.agg (W4 100)) (.agg #[.int .u64 100, .int .u64 0, .int .u64 0, .int .u64 0])).run Try.prog wx = .ok true wx := fun wx => by have h := eqU (a := 100) (b := 100) (by unfold M; omega) (by unfold M; omega) wx; rw [decide_eq_true rfl] at h; exact h
  have q1 : ∀ wx, (Op.equalIn 10000 31 (.agg (W4 50)) (.agg #[.int .u64 50, .int .u64 0, .int .u64 0, .int .u64 0])).run Try.prog wx = .ok true wx := fun wx => by have h := eqU (a := 50) (b := 50) (by unfold M; omega) (by unfold M; omega) wx; rw [decide_eq_true rfl] at h; exact h
  have q2 : ∀ wx, (Op.equalIn 10000 31 (.agg (W4 1000)) (.agg #[.int .u64 1000, .int .u64 0, .int .u64 0, .int .u64 0])).run Try.prog wx = .ok true wx := fun wx => by have h := eqU (a := 1000) (b := 1000) (by unfold M; omega) (by unfold M; omega) wx; rw [decide_eq_true rfl] at h; exact h
  go_enter Try.func118, Try.ntmps118
  apply wp_seq_eq
  focus
    intro J hJ
    go_wp2_with fail
    exact hJ
  have hl := Below.refl w.heap.size w
  go_upto_region 1 with (fail)
  let L : List Sp := [sV 3 [] [] (fun u => u = .tuple #[.agg (W4 100), .bool true]), sA 7 31 [8] #[.int .u64 0, .int .u64 0, .int .u64 0, .int .u64 0], sT 8 7 31 [5] (fun g => aggOf g 5)]
  refine wp_region_six0 (shs L) (look6 L) (None_) (by kernel_rfl) (by kernel_rfl) (mk_St L [] [] (by kernel_rfl) (by kernel_rfl) ⟨ok_V ⟨_, rfl⟩, ok_A, ok_T aggOf_congr, trivial⟩ (by simp)) ?_
  intro QQ hQ
  -- 0: build<31> 
  refine stepK rfl (by kernel_rfl) (fun K hK => ?_); go_simp
  apply Exists.intro; apply And.intro; (focus (intro wk hk; go_simp; exact ⟨rfl, rfl⟩)); refine hK _ _ ?_; clear hK K
  -- 1: build<31> 
  refine stepK rfl (by kernel_rfl) (fun K hK => ?_); go_simp
  apply Exists.intro; apply And.intro; (focus (intro wk hk; go_simp; exact ⟨rfl, rfl⟩)); refine hK _ _ ?_; clear hK K
  -- 2: build<31> 0:100u
  refine stepK rfl (by kernel_rfl) (fun K hK => ?_); go_simp
  apply Exists.intro; apply And.intro; (focus (intro wk hk; go_simp; exact ⟨rfl, rfl⟩)); refine hK _ _ ?_; clear hK K
  -- 3: call F112(t8, t9, t10)
  refine stepS _ rfl (by kernel_rfl) (fun K hK => ?_); go_simp
  refine ⟨?_, ?_⟩
  · intro wk hk hg hu; go_simp; refine upon_enter ((k0.out _).mono ?_); rintro e w' ⟨rfl, hb⟩; exact ⟨_, rfl, left_V (p := fun u => u = .tuple #[.agg (W4 100), .bool true]) rfl (hb) rfl⟩
  rintro ⟨v3, lo3, hi3⟩ - - (rfl : v3 = _)
  refine hK _ _ ?_; clear hK K
  -- 4: t11
  refine stepK rfl (by kernel_rfl) (fun K hK => ?_); go_simp
  apply Exists.intro; apply And.intro; (focus (intro wk hk; go_simp; exact ⟨rfl, rfl⟩)); refine hK _ _ ?_; clear hK K
  -- 5: extract t7 #0
  refine stepK rfl (by kernel_rfl) (fun K hK => ?_); go_simp
  apply Exists.intro; apply And.intro; (focus (intro wk hk; go_simp; exact ⟨rfl, rfl⟩)); refine hK _ _ ?_; clear hK K
  -- 6: extract t7 #1
  refine stepK rfl (by kernel_rfl) (fun K hK => ?_); go_simp
  apply Exists.intro; apply And.intro; (focus (intro wk hk; go_simp; exact ⟨rfl, rfl⟩)); refine hK _ _ ?_; clear hK K
  -- 7: alloc<31>
  refine stepS _ rfl (by kernel_rfl) (fun K hK => ?_); go_simp
  refine ⟨?_, ?_⟩
  · intro wk hk hg hu; go_simp; exact left_A rfl rfl
  rintro ⟨v7, lo7, hi7⟩ hlo7 hhi7 ⟨e7, f7⟩
  replace e7 : v7 = .pointer (some ⟨lo7, 0, none⟩) := e7; replace f7 : hi7 = lo7 + 1 := f7; replace hlo7 : _ ≤ lo7 := hlo7; subst e7; subst f7
  refine hK _ _ ?_; clear hK K
  -- 8: store<31> *t1 = t12
  refine stepS _ rfl (by kernel_rfl) (fun K hK => ?_); go_simp
  refine ⟨?_, ?_⟩
  · exact sStoreT rfl rfl rfl rfl rfl rfl rfl (by kernel_rfl) rfl (by kernel_rfl) (by decide) aggOf_congr
  rintro ⟨v8, lo8, hi8⟩ - - (rfl : v8 = undef)
  refine hK _ _ ?_; clear hK K
  -- 9: assign t13
  refine stepK rfl (by kernel_rfl) (fun K hK => ?_); go_simp
  apply Exists.intro; apply And.intro; (focus (intro wk hk; go_simp; exact ⟨rfl, rfl⟩)); refine hK _ _ ?_; clear hK K
  refine stepN ?_
  refine hQ _ _ ?_
  intro w1 hT hG hF
  have hbw1 := hT.below
  have r0 : Row w1 lo7 31 ((W4 100)) := (hF 8 _ rfl rfl (by decide)).2
  replace hl := hl.trans (hbw1.mono hl.size)
  clear hT hG hF hbw1 hQ QQ L hlo7 hhi7
  go_upto_region 2 with (fail)
  let L : List Sp := [sV 3 [] [] (fun u => u = .tuple #[.agg (W4 50), .bool true]), sA 7 31 [8] #[.int .u64 0, .int .u64 0, .int .u64 0, .int .u64 0], sT 8 7 31 [5] (fun g => aggOf g 5)]
  refine wp_region_six0 (shs L) (look6 L) (None_) (by kernel_rfl) (by kernel_rfl) (mk_St L [] [] (by kernel_rfl) (by kernel_rfl) ⟨ok_V ⟨_, rfl⟩, ok_A, ok_T aggOf_congr, trivial⟩ (by simp)) ?_
  intro QQ hQ
  -- 0: build<31> 0:1000u
  refine stepK rfl (by kernel_rfl) (fun K hK => ?_); go_simp
  apply Exists.intro; apply And.intro; (focus (intro wk hk; go_simp; exact ⟨rfl, rfl⟩)); refine hK _ _ ?_; clear hK K
  -- 1: build<31> 
  refine stepK rfl (by kernel_rfl) (fun K hK => ?_); go_simp
  apply Exists.intro; apply And.intro; (focus (intro wk hk; go_simp; exact ⟨rfl, rfl⟩)); refine hK _ _ ?_; clear hK K
  -- 2: build<31> 0:100u
  refine stepK rfl (by kernel_rfl) (fun K hK => ?_); go_simp
  apply Exists.intro; apply And.intro; (focus (intro wk hk; go_simp; exact ⟨rfl, rfl⟩)); refine hK _ _ ?_; clear hK K
  -- 3: call F112(t15, t16, t17)
  refine stepS _ rfl (by kernel_rfl) (fun K hK => ?_); go_simp
  refine ⟨?_, ?_⟩
  · intro wk hk hg hu; go_simp; refine upon_enter ((k1.out _).mono ?_); rintro e w' ⟨rfl, hb⟩; exact ⟨_, rfl, left_V (p := fun u => u = .tuple #[.agg (W4 50), .bool true]) rfl (hb) rfl⟩
  rintro ⟨v3, lo3, hi3⟩ - - (rfl : v3 = _)
  refine hK _ _ ?_; clear hK K
  -- 4: t18
  refine stepK rfl (by kernel_rfl) (fun K hK => ?_); go_simp
  apply Exists.intro; apply And.intro; (focus (intro wk hk; go_simp; exact ⟨rfl, rfl⟩)); refine hK _ _ ?_; clear hK K
  -- 5: extract t14 #0
  refine stepK rfl (by kernel_rfl) (fun K hK => ?_); go_simp
  apply Exists.intro; apply And.intro; (focus (intro wk hk; go_simp; exact ⟨rfl, rfl⟩)); refine hK _ _ ?_; clear hK K
  -- 6: extract t14 #1
  refine stepK rfl (by kernel_rfl) (fun K hK => ?_); go_simp
  apply Exists.intro; apply And.intro; (focus (intro wk hk; go_simp; exact ⟨rfl, rfl⟩)); refine hK _ _ ?_; clear hK K
  -- 7: alloc<31>
  refine stepS _ rfl (by kernel_rfl) (fun K hK => ?_); go_simp
  refine ⟨?_, ?_⟩
  · intro wk hk hg hu; go_simp; exact left_A rfl rfl
  rintro ⟨v7, lo7, hi7⟩ hlo7 hhi7 ⟨e7, f7⟩
  replace e7 : v7 = .pointer (some ⟨lo7, 0, none⟩) := e7; replace f7 : hi7 = lo7 + 1 := f7; replace hlo7 : _ ≤ lo7 := hlo7; subst e7; subst f7
  refine hK _ _ ?_; clear hK K
  -- 8: store<31> *t3 = t19
  refine stepS _ rfl (by kernel_rfl) (fun K hK => ?_); go_simp
  refine ⟨?_, ?_⟩
  · exact sStoreT rfl rfl rfl rfl rfl rfl rfl (by kernel_rfl) rfl (by kernel_rfl) (by decide) aggOf_congr
  rintro ⟨v8, lo8, hi8⟩ - - (rfl : v8 = undef)
  refine hK _ _ ?_; clear hK K
  -- 9: assign t20
  refine stepK rfl (by kernel_rfl) (fun K hK => ?_); go_simp
  apply Exists.intro; apply And.intro; (focus (intro wk hk; go_simp; exact ⟨rfl, rfl⟩)); refine hK _ _ ?_; clear hK K
  refine stepN ?_
  refine hQ _ _ ?_
  intro w2 hT hG hF
  have hbw2 := hT.below
  have r1 : Row w2 lo7 31 ((W4 50)) := (hF 8 _ rfl rfl (by decide)).2
  replace r0 := r0.below hbw2 r0.lt
  replace hl := hl.trans (hbw2.mono hl.size)
  clear hT hG hF hbw2 hQ QQ L hlo7 hhi7
  go_upto_region 3 with (fail)
  let L : List Sp := [sV 3 [] [] (fun u => u = .tuple #[.agg (W4 100), .bool true]), sA 7 31 [8] #[.int .u64 0, .int .u64 0, .int .u64 0, .int .u64 0], sT 8 7 31 [5] (fun g => aggOf g 5)]
  refine wp_region_six0 (shs L) (look6 L) (None_) (by kernel_rfl) (by kernel_rfl) (mk_St L [] [] (by kernel_rfl) (by kernel_rfl) ⟨ok_V ⟨_, rfl⟩, ok_A, ok_T aggOf_congr, trivial⟩ (by simp)) ?_
  intro QQ hQ
  -- 0: build<31> 0:1000u
  refine stepK rfl (by kernel_rfl) (fun K hK => ?_); go_simp
  apply Exists.intro; apply And.intro; (focus (intro wk hk; go_simp; exact ⟨rfl, rfl⟩)); refine hK _ _ ?_; clear hK K
  -- 1: build<31> 
  refine stepK rfl (by kernel_rfl) (fun K hK => ?_); go_simp
  apply Exists.intro; apply And.intro; (focus (intro wk hk; go_simp; exact ⟨rfl, rfl⟩)); refine hK _ _ ?_; clear hK K
  -- 2: build<31> 0:50u
  refine stepK rfl (by kernel_rfl) (fun K hK => ?_); go_simp
  apply Exists.intro; apply And.intro; (focus (intro wk hk; go_simp; exact ⟨rfl, rfl⟩)); refine hK _ _ ?_; clear hK K
  -- 3: call F114(t22, t23, t24)
  refine stepS _ rfl (by kernel_rfl) (fun K hK => ?_); go_simp
  refine ⟨?_, ?_⟩
  · intro wk hk hg hu; go_simp; refine upon_enter ((k2.out _).mono ?_); rintro e w' ⟨rfl, hb⟩; exact ⟨_, rfl, left_V (p := fun u => u = .tuple #[.agg (W4 100), .bool true]) rfl (hb) rfl⟩
  rintro ⟨v3, lo3, hi3⟩ - - (rfl : v3 = _)
  refine hK _ _ ?_; clear hK K
  -- 4: t25
  refine stepK rfl (by kernel_rfl) (fun K hK => ?_); go_simp
  apply Exists.intro; apply And.intro; (focus (intro wk hk; go_simp; exact ⟨rfl, rfl⟩)); refine hK _ _ ?_; clear hK K
  -- 5: extract t21 #0
  refine stepK rfl (by kernel_rfl) (fun K hK => ?_); go_simp
  apply Exists.intro; apply And.intro; (focus (intro wk hk; go_simp; exact ⟨rfl, rfl⟩)); refine hK _ _ ?_; clear hK K
  -- 6: extract t21 #1
  refine stepK rfl (by kernel_rfl) (fun K hK => ?_); go_simp
  apply Exists.intro; apply And.intro; (focus (intro wk hk; go_simp; exact ⟨rfl, rfl⟩)); refine hK _ _ ?_; clear hK K
  -- 7: alloc<31>
  refine stepS _ rfl (by kernel_rfl) (fun K hK => ?_); go_simp
  refine ⟨?_, ?_⟩
  · intro wk hk hg hu; go_simp; exact left_A rfl rfl
  rintro ⟨v7, lo7, hi7⟩ hlo7 hhi7 ⟨e7, f7⟩
  replace e7 : v7 = .pointer (some ⟨lo7, 0, none⟩) := e7; replace f7 : hi7 = lo7 + 1 := f7; replace hlo7 : _ ≤ lo7 := hlo7; subst e7; subst f7
  refine hK _ _ ?_; clear hK K
  -- 8: store<31> *t5 = t26
  refine stepS _ rfl (by kernel_rfl) (fun K hK => ?_); go_simp
  refine ⟨?_, ?_⟩
  · exact sStoreT rfl rfl rfl rfl rfl rfl rfl (by kernel_rfl) rfl (by kernel_rfl) (by decide) aggOf_congr
  rintro ⟨v8, lo8, hi8⟩ - - (rfl : v8 = undef)
  refine hK _ _ ?_; clear hK K
  -- 9: assign t27
  refine stepK rfl (by kernel_rfl) (fun K hK => ?_); go_simp
  apply Exists.intro; apply And.intro; (focus (intro wk hk; go_simp; exact ⟨rfl, rfl⟩)); refine hK _ _ ?_; clear hK K
  refine stepN ?_
  refine hQ _ _ ?_
  intro w3 hT hG hF
  have hbw3 := hT.below
  have r2 : Row w3 lo7 31 ((W4 100)) := (hF 8 _ rfl rfl (by decide)).2
  replace r0 := r0.below hbw3 r0.lt
  replace r1 := r1.below hbw3 r1.lt
  replace hl := hl.trans (hbw3.mono hl.size)
  clear hT hG hF hbw3 hQ QQ L hlo7 hhi7
  go_upto_region 4 with (fail)
  let L : List Sp := [sV 23 [] [] (fun u => u = .agg (W4 1000))]
  refine wp_region_six0 (shs L) (look6 L) (None_) (by kernel_rfl) (by kernel_rfl) (mk_St L [] [] (by kernel_rfl) (by kernel_rfl) ⟨ok_V ⟨_, rfl⟩, trivial⟩ (by simp)) ?_
  intro QQ hQ
  -- 0: t2
  refine stepK rfl (by kernel_rfl) (fun K hK => ?_); go_simp
  apply Exists.intro; apply And.intro; (focus (intro wk hk; go_simp; exact ⟨rfl, rfl⟩)); refine hK _ _ ?_; clear hK K
  -- 1: t28
  refine stepK rfl (by kernel_rfl) (fun K hK => ?_); go_simp
  apply Exists.intro; apply And.intro; (focus (intro wk hk; go_simp; exact ⟨rfl, rfl⟩)); refine hK _ _ ?_; clear hK K
  -- 2: t4
  refine stepK rfl (by kernel_rfl) (fun K hK => ?_); go_simp
  first | (refine hK _ _ ?_; clear hK K) | (apply Exists.intro; apply And.intro; (focus (intro wk hk; go_simp; exact ⟨rfl, rfl⟩)); refine hK _ _ ?_; clear hK K)
  -- 3: pick t29 ? t30 : false
  refine stepK rfl (by kernel_rfl) (fun K hK => ?_); go_simp
  apply Exists.intro; apply And.intro; (focus (intro wk hk; go_simp; exact ⟨rfl, rfl⟩)); refine hK _ _ ?_; clear hK K
  -- 4: t31
  refine stepK rfl (by kernel_rfl) (fun K hK => ?_); go_simp
  apply Exists.intro; apply And.intro; (focus (intro wk hk; go_simp; exact ⟨rfl, rfl⟩)); refine hK _ _ ?_; clear hK K
  -- 5: t6
  refine stepK rfl (by kernel_rfl) (fun K hK => ?_); go_simp
  first | (refine hK _ _ ?_; clear hK K) | (apply Exists.intro; apply And.intro; (focus (intro wk hk; go_simp; exact ⟨rfl, rfl⟩)); refine hK _ _ ?_; clear hK K)
  -- 6: pick t32 ? t33 : false
  refine stepK rfl (by kernel_rfl) (fun K hK => ?_); go_simp
  apply Exists.intro; apply And.intro; (focus (intro wk hk; go_simp; exact ⟨rfl, rfl⟩)); refine hK _ _ ?_; clear hK K
  -- 7: t34
  refine stepK rfl (by kernel_rfl) (fun K hK => ?_); go_simp
  apply Exists.intro; apply And.intro; (focus (intro wk hk; go_simp; exact ⟨rfl, rfl⟩)); refine hK _ _ ?_; clear hK K
  -- 8: load<31> *t1
  refine stepK rfl (by kernel_rfl) (fun K hK => ?_); go_simp
  first | (refine hK _ _ ?_; clear hK K) | (apply Exists.intro; apply And.intro; (focus exact kLoad rfl rfl aggT31 r0 rfl id); refine hK _ _ ?_; clear hK K)
  -- 9: build<31> 0:100u
  refine stepK rfl (by kernel_rfl) (fun K hK => ?_); go_simp
  first | (refine hK _ _ ?_; clear hK K) | (apply Exists.intro; apply And.intro; (focus (intro wk hk; go_simp; exact ⟨rfl, rfl⟩)); refine hK _ _ ?_; clear hK K)
  -- 10: eql<31> t36, t37
  refine stepK rfl (by kernel_rfl) (fun K hK => ?_); go_simp
  first | (refine hK _ _ ?_; clear hK K) | (apply Exists.intro; apply And.intro; (focus (intro wk hk; go_simp; exact ⟨rfl, rfl⟩)); refine hK _ _ ?_; clear hK K)
  -- 11: pick t35 ? t38 : false
  refine stepK rfl (by kernel_rfl) (fun K hK => ?_); go_simp
  apply Exists.intro; apply And.intro; (focus (intro wk hk; go_simp; exact ⟨rfl, rfl⟩)); refine hK _ _ ?_; clear hK K
  -- 12: t39
  refine stepK rfl (by kernel_rfl) (fun K hK => ?_); go_simp
  apply Exists.intro; apply And.intro; (focus (intro wk hk; go_simp; exact ⟨rfl, rfl⟩)); refine hK _ _ ?_; clear hK K
  -- 13: load<31> *t3
  refine stepK rfl (by kernel_rfl) (fun K hK => ?_); go_simp
  first | (refine hK _ _ ?_; clear hK K) | (apply Exists.intro; apply And.intro; (focus exact kLoad rfl rfl aggT31 r1 rfl id); refine hK _ _ ?_; clear hK K)
  -- 14: build<31> 0:50u
  refine stepK rfl (by kernel_rfl) (fun K hK => ?_); go_simp
  first | (refine hK _ _ ?_; clear hK K) | (apply Exists.intro; apply And.intro; (focus (intro wk hk; go_simp; exact ⟨rfl, rfl⟩)); refine hK _ _ ?_; clear hK K)
  -- 15: eql<31> t41, t42
  refine stepK rfl (by kernel_rfl) (fun K hK => ?_); go_simp
  first | (refine hK _ _ ?_; clear hK K) | (apply Exists.intro; apply And.intro; (focus (intro wk hk; go_simp; exact ⟨rfl, rfl⟩)); refine hK _ _ ?_; clear hK K)
  -- 16: pick t40 ? t43 : false
  refine stepK rfl (by kernel_rfl) (fun K hK => ?_); go_simp
  apply Exists.intro; apply And.intro; (focus (intro wk hk; go_simp; exact ⟨rfl, rfl⟩)); refine hK _ _ ?_; clear hK K
  -- 17: t44
  refine stepK rfl (by kernel_rfl) (fun K hK => ?_); go_simp
  apply Exists.intro; apply And.intro; (focus (intro wk hk; go_simp; exact ⟨rfl, rfl⟩)); refine hK _ _ ?_; clear hK K
  -- 18: load<31> *t5
  refine stepK rfl (by kernel_rfl) (fun K hK => ?_); go_simp
  first | (refine hK _ _ ?_; clear hK K) | (apply Exists.intro; apply And.intro; (focus exact kLoad rfl rfl aggT31 r2 rfl id); refine hK _ _ ?_; clear hK K)
  -- 19: build<31> 0:100u
  refine stepK rfl (by kernel_rfl) (fun K hK => ?_); go_simp
  first | (refine hK _ _ ?_; clear hK K) | (apply Exists.intro; apply And.intro; (focus (intro wk hk; go_simp; exact ⟨rfl, rfl⟩)); refine hK _ _ ?_; clear hK K)
  -- 20: eql<31> t46, t47
  refine stepK rfl (by kernel_rfl) (fun K hK => ?_); go_simp
  first | (refine hK _ _ ?_; clear hK K) | (apply Exists.intro; apply And.intro; (focus (intro wk hk; go_simp; exact ⟨rfl, rfl⟩)); refine hK _ _ ?_; clear hK K)
  -- 21: pick t45 ? t48 : false
  refine stepK rfl (by kernel_rfl) (fun K hK => ?_); go_simp
  apply Exists.intro; apply And.intro; (focus (intro wk hk; go_simp; exact ⟨rfl, rfl⟩)); refine hK _ _ ?_; clear hK K
  -- 22: t49
  refine stepK rfl (by kernel_rfl) (fun K hK => ?_); go_simp
  apply Exists.intro; apply And.intro; (focus (intro wk hk; go_simp; exact ⟨rfl, rfl⟩)); refine hK _ _ ?_; clear hK K
  -- 23: call F206()
  refine stepS _ rfl (by kernel_rfl) (fun K hK => ?_); go_simp
  refine ⟨?_, ?_⟩
  · intro wk hk hg hu; go_simp; refine upon_enter ((k3.out _).mono ?_); rintro e w' ⟨rfl, hb⟩; exact ⟨_, rfl, left_V (p := fun u => u = .agg (W4 1000)) rfl (hb) rfl⟩
  rintro ⟨v23, lo23, hi23⟩ - - (rfl : v23 = _)
  refine hK _ _ ?_; clear hK K
  -- 24: build<31> 0:1000u
  refine stepK rfl (by kernel_rfl) (fun K hK => ?_); go_simp
  first | (refine hK _ _ ?_; clear hK K) | (apply Exists.intro; apply And.intro; (focus (intro wk hk; go_simp; exact ⟨rfl, rfl⟩)); refine hK _ _ ?_; clear hK K)
  -- 25: eql<31> t51, t52
  refine stepK rfl (by kernel_rfl) (fun K hK => ?_); go_simp
  first | (refine hK _ _ ?_; clear hK K) | (apply Exists.intro; apply And.intro; (focus (intro wk hk; go_simp; exact ⟨rfl, rfl⟩)); refine hK _ _ ?_; clear hK K)
  -- 26: pick t50 ? t53 : false
  refine stepK rfl (by kernel_rfl) (fun K hK => ?_); go_simp
  apply Exists.intro; apply And.intro; (focus (intro wk hk; go_simp; exact ⟨rfl, rfl⟩)); refine hK _ _ ?_; clear hK K
  -- 27: assign t54
  refine stepK rfl (by kernel_rfl) (fun K hK => ?_); go_simp
  apply Exists.intro; apply And.intro; (focus (intro wk hk; go_simp; exact ⟨rfl, rfl⟩)); refine hK _ _ ?_; clear hK K
  refine stepN ?_
  refine hQ _ _ ?_
  intro w4 hT hG hF
  have hbw4 := hT.below
  replace r0 := r0.below hbw4 r0.lt
  replace r1 := r1.below hbw4 r1.lt
  replace r2 := r2.below hbw4 r2.lt
  replace hl := hl.trans (hbw4.mono hl.size)
  clear hT hG hF hbw4 hQ QQ L 
  go_wp2_with fail
  go_ret
  exact ⟨rfl, hl⟩
end Go.Proofs.Ytpdenhmkpiafiaa
