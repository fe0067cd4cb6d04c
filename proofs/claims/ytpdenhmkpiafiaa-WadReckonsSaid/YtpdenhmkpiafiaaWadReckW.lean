/-
  tallagelaw03.WadReckons, THE WALK.
-/
import Derived.Test.YtpdenhmkpiafiaaRef03
namespace Go.Proofs.Ytpdenhmkpiafiaa
open Go Go.RowKit K6

theorem sq_mul : mulN E18 E18 = E36 := by decide
theorem sq_mulB : mulB E18 E18 = true := by decide
set_option maxRecDepth 100000 in
set_option maxHeartbeats 16000000 in
theorem refSqU (w : World) : Calls Try.prog 128 #[] w (Ret w (.agg (W4 E36))) := by
  have k0 := Lib.hid (show ∀ wx, Calls Try.prog 152 #[] wx (Ret wx (.agg (W4 E18))) from fun wx => by have h := refOneU  wx; exact h)
  have k1 := Lib.hid (show ∀ wx, Calls Try.prog 54 #[.agg (W4 E18), .agg (W4 E18)] wx (Ret wx (.tuple #[.agg (W4 E36), .bool true])) from fun wx => by have h := refmulU E18_lt E18_lt wx; rw [sq_mul, sq_mulB] at h; exact h)
  go_enter Try.func128, Try.ntmps128
  apply wp_seq_eq
  focus
    intro J hJ
    go_wp2_with fail
    exact hJ
  refine wp_abs (Mem w [(w.heap.size, 31, arr .u64 (fun _ => 0) 4)]) ⟨by go_grown, ?_, trivial⟩ ?_
  · repeat (first | (refine Row.new_at ?_; simp; done) | refine Row.alloc ?_ _)
  intro w0 hM
  obtain ⟨hl, r0, -⟩ := hM
  go_upto_region 1 with (fail)
  let L : List Sp := [sV 0 [] [] (fun u => u = .agg (W4 E18)), sV 1 [] [] (fun u => u = .agg (W4 E18)), sV 2 [] [] (fun u => u = .tuple #[.agg (W4 E36), .bool true]), sA 6 31 [7] #[.int .u64 0, .int .u64 0, .int .u64 0, .int .u64 0], sT 7 6 31 [4] (fun g => aggOf g 4)]
  refine wp_region_six0 (shs L) (look6 L) (None_) (by kernel_rfl) (by kernel_rfl) (mk_St L [] [] (by kernel_rfl) (by kernel_rfl) ⟨ok_V ⟨_, rfl⟩, ok_V ⟨_, rfl⟩, ok_V ⟨_, rfl⟩, ok_A, ok_T aggOf_congr, trivial⟩ (by simp)) ?_
  intro QQ hQ
  -- 0: call F152()
  refine stepS _ rfl (by kernel_rfl) (fun K hK => ?_); go_simp
  refine ⟨?_, ?_⟩
  · intro wk hk hg hu; go_simp; refine upon_enter ((k0.out _).mono ?_); rintro e w' ⟨rfl, hb⟩; exact ⟨_, rfl, left_V (p := fun u => u = .agg (W4 E18)) rfl (hb) rfl⟩
  rintro ⟨v0, lo0, hi0⟩ - - (rfl : v0 = _)
  refine hK _ _ ?_; clear hK K
  -- 1: call F152()
  refine stepS _ rfl (by kernel_rfl) (fun K hK => ?_); go_simp
  refine ⟨?_, ?_⟩
  · intro wk hk hg hu; go_simp; refine upon_enter ((k0.out _).mono ?_); rintro e w' ⟨rfl, hb⟩; exact ⟨_, rfl, left_V (p := fun u => u = .agg (W4 E18)) rfl (hb) rfl⟩
  rintro ⟨v1, lo1, hi1⟩ - - (rfl : v1 = _)
  refine hK _ _ ?_; clear hK K
  -- 2: call F54(t4, t5)
  refine stepS _ rfl (by kernel_rfl) (fun K hK => ?_); go_simp
  refine ⟨?_, ?_⟩
  · intro wk hk hg hu; go_simp; refine upon_enter ((k1.out _).mono ?_); rintro e w' ⟨rfl, hb⟩; exact ⟨_, rfl, left_V (p := fun u => u = .tuple #[.agg (W4 E36), .bool true]) rfl (hb) rfl⟩
  rintro ⟨v2, lo2, hi2⟩ - - (rfl : v2 = _)
  refine hK _ _ ?_; clear hK K
  -- 3: t6
  refine stepK rfl (by kernel_rfl) (fun K hK => ?_); go_simp
  apply Exists.intro; apply And.intro; (focus (intro wk hk; go_simp; exact ⟨rfl, rfl⟩)); refine hK _ _ ?_; clear hK K
  -- 4: extract t3 #0
  refine stepK rfl (by kernel_rfl) (fun K hK => ?_); go_simp
  apply Exists.intro; apply And.intro; (focus (intro wk hk; go_simp; exact ⟨rfl, rfl⟩)); refine hK _ _ ?_; clear hK K
  -- 5: extract t3 #1
  refine stepK rfl (by kernel_rfl) (fun K hK => ?_); go_simp
  apply Exists.intro; apply And.intro; (focus (intro wk hk; go_simp; exact ⟨rfl, rfl⟩)); refine hK _ _ ?_; clear hK K
  -- 6: alloc<31>
  refine stepS _ rfl (by kernel_rfl) (fun K hK => ?_); go_simp
  refine ⟨?_, ?_⟩
  · intro wk hk hg hu; go_simp; exact left_A rfl rfl
  rintro ⟨v6, lo1_6, hi6⟩ hlo6 hhi6 ⟨e6, f6⟩
  replace e6 : v6 = .pointer (some ⟨lo1_6, 0, none⟩) := e6; replace f6 : hi6 = lo1_6 + 1 := f6; replace hlo6 : _ ≤ lo1_6 := hlo6; subst e6; subst f6
  refine hK _ _ ?_; clear hK K
  -- 7: store<31> *t1 = t7
  refine stepS _ rfl (by kernel_rfl) (fun K hK => ?_); go_simp
  refine ⟨?_, ?_⟩
  · exact sStoreT rfl rfl rfl rfl rfl rfl rfl (by kernel_rfl) rfl (by kernel_rfl) (by decide) aggOf_congr
  rintro ⟨v7, lo7, hi7⟩ - - (rfl : v7 = undef)
  refine hK _ _ ?_; clear hK K
  -- 8: assign t8
  refine stepK rfl (by kernel_rfl) (fun K hK => ?_); go_simp
  apply Exists.intro; apply And.intro; (focus (intro wk hk; go_simp; exact ⟨rfl, rfl⟩)); refine hK _ _ ?_; clear hK K
  refine stepN ?_
  refine hQ _ _ ?_
  intro w1 hT hG hF
  have nr1r0 : w.heap.size < lo1_6 := Nat.lt_of_lt_of_le r0.lt hlo6
  have hbw1 := hT.below
  have r1 : Row w1 lo1_6 31 ((W4 E36)) := (hF 7 _ rfl rfl (by decide)).2
  replace r0 := r0.below hbw1 r0.lt
  replace hl := hl.trans (hbw1.mono hl.size)
  clear hT hG hF hbw1 hQ QQ L hlo6 hhi6
  go_upto_region 2 with (fail)
  let L : List Sp := [sO 1 (w.heap.size) 31 [0] (fun g => aggOf g 0)]
  refine wp_region_six0 (shs L) (look6 L) (fun c => c = w.heap.size) (by kernel_rfl) (by kernel_rfl) (mk_St L [1] [1] (by kernel_rfl) (by kernel_rfl) ⟨ok_O aggOf_congr r0.lt (rfl), trivial⟩ (by simp)) ?_
  intro QQ hQ
  -- 0: load<31> *t1
  refine stepK rfl (by kernel_rfl) (fun K hK => ?_); go_simp
  apply Exists.intro; apply And.intro; (focus exact kLoad rfl rfl aggT31 r1 rfl (by first | exact id | (intro hx; have hx' : _ = _ ∨ _ = _ := hx; omega) | (intro hx; have hx' : _ = _ := hx; omega) | omega)); refine hK _ _ ?_; clear hK K
  -- 1: store<31> *t0 = t9
  refine stepS _ rfl (by kernel_rfl) (fun K hK => ?_); go_simp
  refine ⟨?_, ?_⟩
  · exact sStoreO rfl rfl rfl rfl rfl rfl r0 id (by kernel_rfl) rfl (by kernel_rfl) (by decide) aggOf_congr
  rintro ⟨v1, lo1, hi1⟩ - - (rfl : v1 = undef)
  refine hK _ _ ?_; clear hK K
  refine stepN ?_
  refine hQ _ _ ?_
  intro w2 hT hG hF
  have hT' := hT
  have xr0 : Row w2 (w.heap.size) 31 ((W4 E36)) := hF 1 _ rfl rfl (by decide)
  have hl9 : Below w.heap.size w w2 := hl.trans (hT'.below_of hl.size (by intro c hc; omega))
  replace r1 := K6.Row.tr r1 hT' (by show ¬ (lo1_6 = w.heap.size); omega)
  clear hT hT' hG hF hQ QQ L hl r0
  have hl := hl9; clear hl9
  have r0 := xr0; clear xr0
  go_wp2_with fail
  refine bodyPost_ret (results_c rfl aggT31 rfl r0 rfl) rfl ?_
  exact ⟨rfl, hl⟩
theorem upN_lt (n d : Nat) : upN n d < M := by
  unfold upN
  split
  · exact quoN_lt _ _
  · unfold addN; split
    · assumption
    · exact M_pos
set_option maxRecDepth 100000 in
set_option maxHeartbeats 16000000 in
theorem wadreckons_walk (a b c : Nat) (ha : a < M) (hb : b < M) (hc : c < M) (w : World) : Calls Try.prog 24 #[.agg (W4 a), .agg (W4 b), .agg (W4 c)] w (Ret w (.bool true)) := by
  obtain ⟨p, hp⟩ : ∃ z, z = quoN (a * b) E18 := ⟨_, rfl⟩
  obtain ⟨po, hpo⟩ : ∃ z, z = quoB (a * b) E18 := ⟨_, rfl⟩
  have pl : p < M := hp ▸ quoN_lt _ _
  obtain ⟨s, hs⟩ : ∃ z, z = upN (a * b) E18 := ⟨_, rfl⟩
  obtain ⟨so, hso⟩ : ∃ z, z = upB (a * b) E18 := ⟨_, rfl⟩
  have sl : s < M := hs ▸ upN_lt _ _
  obtain ⟨x, hx⟩ : ∃ z, z = quoN (a * E18) b := ⟨_, rfl⟩
  obtain ⟨xo, hxo⟩ : ∃ z, z = quoB (a * E18) b := ⟨_, rfl⟩
  have xl : x < M := hx ▸ quoN_lt _ _
  obtain ⟨v, hv⟩ : ∃ z, z = quoN (a * b) c := ⟨_, rfl⟩
  obtain ⟨vo, hvo⟩ : ∃ z, z = scB a b c := ⟨_, rfl⟩
  have vl : v < M := hv ▸ quoN_lt _ _
  obtain ⟨g, hg⟩ : ∃ z, z = upN (a * b) c := ⟨_, rfl⟩
  obtain ⟨go, hgo⟩ : ∃ z, z = scUB a b c := ⟨_, rfl⟩
  have gl : g < M := hg ▸ upN_lt _ _
  obtain ⟨e1, he1⟩ : ∃ z, z = decide (a ≤ E18) := ⟨_, rfl⟩
  obtain ⟨e2, he2⟩ : ∃ z, z = decide (a < M2) := ⟨_, rfl⟩
  have k0 := Lib.hid (show ∀ wx, Calls Try.prog 108 #[.agg (W4 a), .agg (W4 b)] wx (Ret wx (.tuple #[.agg (W4 p), .bool (po)])) from fun wx => by have h := partU ha hb wx; rw [← hp, ← hpo] at h; exact h)
  have k1 := Lib.hid (show ∀ wx, Calls Try.prog 119 #[.agg (W4 a), .agg (W4 b)] wx (Ret wx (.tuple #[.agg (W4 p), .bool (po)])) from fun wx => by have h := refPartU ha hb wx; rw [← hp, ← hpo] at h; exact h)
  have k2 := Lib.hid (show ∀ wx, Calls Try.prog 109 #[.agg (W4 a), .agg (W4 b)] wx (Ret wx (.tuple #[.agg (W4 s), .bool (so)])) from fun wx => by have h := partUpU ha hb wx; rw [← hs, ← hso] at h; exact h)
  have k3 := Lib.hid (show ∀ wx, Calls Try.prog 120 #[.agg (W4 a), .agg (W4 b)] wx (Ret wx (.tuple #[.agg (W4 s), .bool (so)])) from fun wx => by have h := refPartUpU ha hb wx; rw [← hs, ← hso] at h; exact h)
  have k4 := Lib.hid (show ∀ wx, Calls Try.prog 121 #[.agg (W4 a), .agg (W4 b)] wx (Ret wx (.tuple #[.agg (W4 x), .bool (xo)])) from fun wx => by have h := ratioU ha hb wx; rw [← hx, ← hxo] at h; exact h)
  have k5 := Lib.hid (show ∀ wx, Calls Try.prog 122 #[.agg (W4 a), .agg (W4 b)] wx (Ret wx (.tuple #[.agg (W4 x), .bool (xo)])) from fun wx => by have h := refRatioU ha hb wx; rw [← hx, ← hxo] at h; exact h)
  have k6 := Lib.hid (show ∀ wx, Calls Try.prog 110 #[.agg (W4 a), .agg (W4 b), .agg (W4 c)] wx (Ret wx (.tuple #[.agg (W4 v), .bool (vo)])) from fun wx => by have h := scaleU ha hb hc wx; rw [← hv, ← hvo] at h; exact h)
  have k7 := Lib.hid (show ∀ wx, Calls Try.prog 123 #[.agg (W4 a), .agg (W4 b), .agg (W4 c)] wx (Ret wx (.tuple #[.agg (W4 v), .bool (vo)])) from fun wx => by have h := refScaleU ha hb hc wx; rw [← hv, ← hvo] at h; exact h)
  have k8 := Lib.hid (show ∀ wx, Calls Try.prog 111 #[.agg (W4 a), .agg (W4 b), .agg (W4 c)] wx (Ret wx (.tuple #[.agg (W4 g), .bool (go)])) from fun wx => by have h := scaleUpU ha hb hc wx; rw [← hg, ← hgo] at h; exact h)
  have k9 := Lib.hid (show ∀ wx, Calls Try.prog 124 #[.agg (W4 a), .agg (W4 b), .agg (W4 c)] wx (Ret wx (.tuple #[.agg (W4 g), .bool (go)])) from fun wx => by have h := refScaleUpU ha hb hc wx; rw [← hg, ← hgo] at h; exact h)
  have k10 := Lib.hid (show ∀ wx, Calls Try.prog 104 #[.agg (W4 a)] wx (Ret wx (.bool (e1))) from fun wx => by have h := goodU ha wx; rw [← he1] at h; exact h)
  have k11 := Lib.hid (show ∀ wx, Calls Try.prog 125 #[.agg (W4 a)] wx (Ret wx (.bool (e1))) from fun wx => by have h := refGood3U ha wx; rw [← he1] at h; exact h)
  have k12 := Lib.hid (show ∀ wx, Calls Try.prog 105 #[.agg (W4 a)] wx (Ret wx (.bool (e2))) from fun wx => by have h := amountU ha wx; rw [← he2] at h; exact h)
  have k13 := Lib.hid (show ∀ wx, Calls Try.prog 126 #[.agg (W4 a)] wx (Ret wx (.bool (e2))) from fun wx => by have h := refAmountU ha wx; rw [← he2] at h; exact h)
  have k14 := Lib.hid (show ∀ wx, Calls Try.prog 127 #[] wx (Ret wx (.agg (W4 E36))) from fun wx => by have h := sqU  wx; exact h)
  have k15 := Lib.hid (show ∀ wx, Calls Try.prog 128 #[] wx (Ret wx (.agg (W4 E36))) from fun wx => by have h := refSqU  wx; exact h)
  have k16 := Lib.hid (show ∀ wx, Calls Try.prog 129 #[] wx (Ret wx (.agg (W4 M3))) from fun wx => by have h := mostU  wx; exact h)
  have k17 := Lib.hid (show ∀ wx, Calls Try.prog 130 #[] wx (Ret wx (.agg (W4 M3))) from fun wx => by have h := refMostU  wx; exact h)
  have k18 := Lib.hid (show ∀ wx, Calls Try.prog 106 #[] wx (Ret wx (.bool true)) from fun wx => by have h := lives3U  wx; exact h)
  have q0 : ∀ wx, (Op.equalIn 10000 31 (.agg (W4 p)) (.agg (W4 p))).run Try.prog wx = .ok true wx := fun wx => by rw [eqU pl pl, decide_eq_true rfl]
  have q1 : ∀ wx, (Op.equalIn 10000 31 (.agg (W4 s)) (.agg (W4 s))).run Try.prog wx = .ok true wx := fun wx => by rw [eqU sl sl, decide_eq_true rfl]
  have q2 : ∀ wx, (Op.equalIn 10000 31 (.agg (W4 x)) (.agg (W4 x))).run Try.prog wx = .ok true wx := fun wx => by rw [eqU xl xl, decide_eq_true rfl]
  have q3 : ∀ wx, (Op.equalIn 10000 31 (.agg (W4 v)) (.agg (W4 v))).run Try.prog wx = .ok true wx := fun wx => by rw [eqU vl vl, decide_eq_true rfl]
  have q4 : ∀ wx, (Op.equalIn 10000 31 (.agg (W4 g)) (.agg (W4 g))).run Try.prog wx = .ok true wx := fun wx => by rw [eqU gl gl, decide_eq_true rfl]
  have q5 : ∀ wx, (Op.equalIn 10000 31 (.agg (W4 E36)) (.agg (W4 E36))).run Try.prog wx = .ok true wx := fun wx => by rw [eqU E36_lt E36_lt, decide_eq_true rfl]
  have q6 : ∀ wx, (Op.equalIn 10000 31 (.agg (W4 M3)) (.agg (W4 M3))).run Try.prog wx = .ok true wx := fun wx => by rw [eqU M3_lt M3_lt, decide_eq_true rfl]
  clear hp hpo hs hso hx hxo hv hvo hg hgo he1 he2
  go_enter Try.func24, Try.ntmps24
  apply wp_seq_eq
  focus
    intro J hJ
    go_wp2_with fail
    exact hJ
  refine wp_abs (Mem w [(w.heap.size, 31, W4 a), (w.heap.size + 1, 31, W4 b), (w.heap.size + 1 + 1, 31, W4 c)]) ⟨by go_grown, ?_, ?_, ?_, trivial⟩ ?_
  · repeat (first | (refine Row.new_at ?_; simp; done) | refine Row.alloc ?_ _)
  · repeat (first | (refine Row.new_at ?_; simp; done) | refine Row.alloc ?_ _)
  · repeat (first | (refine Row.new_at ?_; simp; done) | refine Row.alloc ?_ _)
  intro w0 hM
  obtain ⟨hl, r0, r1, r2, -⟩ := hM
  go_upto_region 1 with (fail)
  let L : List Sp := [sV 2 [] [] (fun u => u = .tuple #[.agg (W4 p), .bool (po)]), sA 6 31 [7] #[.int .u64 0, .int .u64 0, .int .u64 0, .int .u64 0], sT 7 6 31 [4] (fun g => aggOf g 4)]
  refine wp_region_six0 (shs L) (look6 L) (None_) (by kernel_rfl) (by kernel_rfl) (mk_St L [] [] (by kernel_rfl) (by kernel_rfl) ⟨ok_V ⟨_, rfl⟩, ok_A, ok_T aggOf_congr, trivial⟩ (by simp)) ?_
  intro QQ hQ
  -- 0: load<31> *t3
  refine stepK rfl (by kernel_rfl) (fun K hK => ?_); go_simp
  apply Exists.intro; apply And.intro; (focus exact kLoad rfl rfl aggT31 r0 rfl id); refine hK _ _ ?_; clear hK K
  -- 1: load<31> *t4
  refine stepK rfl (by kernel_rfl) (fun K hK => ?_); go_simp
  apply Exists.intro; apply And.intro; (focus exact kLoad rfl rfl aggT31 r1 rfl id); refine hK _ _ ?_; clear hK K
  -- 2: call F108(t28, t29)
  refine stepS _ rfl (by kernel_rfl) (fun K hK => ?_); go_simp
  refine ⟨?_, ?_⟩
  · intro wk hk hg hu; go_simp; refine upon_enter ((k0.out _).mono ?_); rintro e w' ⟨rfl, hb⟩; exact ⟨_, rfl, left_V (p := fun u => u = .tuple #[.agg (W4 p), .bool (po)]) rfl (hb) rfl⟩
  rintro ⟨v2, lo2, hi2⟩ - - (rfl : v2 = _)
  refine hK _ _ ?_; clear hK K
  -- 3: t30
  refine stepK rfl (by kernel_rfl) (fun K hK => ?_); go_simp
  apply Exists.intro; apply And.intro; (focus (intro wk hk; go_simp; exact ⟨rfl, rfl⟩)); refine hK _ _ ?_; clear hK K
  -- 4: extract t27 #0
  refine stepK rfl (by kernel_rfl) (fun K hK => ?_); go_simp
  apply Exists.intro; apply And.intro; (focus (intro wk hk; go_simp; exact ⟨rfl, rfl⟩)); refine hK _ _ ?_; clear hK K
  -- 5: extract t27 #1
  refine stepK rfl (by kernel_rfl) (fun K hK => ?_); go_simp
  apply Exists.intro; apply And.intro; (focus (intro wk hk; go_simp; exact ⟨rfl, rfl⟩)); refine hK _ _ ?_; clear hK K
  -- 6: alloc<31>
  refine stepS _ rfl (by kernel_rfl) (fun K hK => ?_); go_simp
  refine ⟨?_, ?_⟩
  · intro wk hk hg hu; go_simp; exact left_A rfl rfl
  rintro ⟨v6, lo1_6, hi6⟩ hlo6 hhi6 ⟨e6, f6⟩
  replace e6 : v6 = .pointer (some ⟨lo1_6, 0, none⟩) := e6; replace f6 : hi6 = lo1_6 + 1 := f6; replace hlo6 : _ ≤ lo1_6 := hlo6; subst e6; subst f6
  refine hK _ _ ?_; clear hK K
  -- 7: store<31> *t7 = t31
  refine stepS _ rfl (by kernel_rfl) (fun K hK => ?_); go_simp
  refine ⟨?_, ?_⟩
  · exact sStoreT rfl rfl rfl rfl rfl rfl rfl (by kernel_rfl) rfl (by kernel_rfl) (by decide) aggOf_congr
  rintro ⟨v7, lo7, hi7⟩ - - (rfl : v7 = undef)
  refine hK _ _ ?_; clear hK K
  -- 8: assign t32
  refine stepK rfl (by kernel_rfl) (fun K hK => ?_); go_simp
  apply Exists.intro; apply And.intro; (focus (intro wk hk; go_simp; exact ⟨rfl, rfl⟩)); refine hK _ _ ?_; clear hK K
  refine stepN ?_
  refine hQ _ _ ?_
  intro w1 hT hG hF
  have nr3r0 : w.heap.size < lo1_6 := Nat.lt_of_lt_of_le r0.lt hlo6
  have nr3r1 : w.heap.size + 1 < lo1_6 := Nat.lt_of_lt_of_le r1.lt hlo6
  have nr3r2 : w.heap.size + 1 + 1 < lo1_6 := Nat.lt_of_lt_of_le r2.lt hlo6
  have hbw1 := hT.below
  have r3 : Row w1 lo1_6 31 ((W4 p)) := (hF 7 _ rfl rfl (by decide)).2
  replace r0 := r0.below hbw1 r0.lt
  replace r1 := r1.below hbw1 r1.lt
  replace r2 := r2.below hbw1 r2.lt
  replace hl := hl.trans (hbw1.mono hl.size)
  clear hT hG hF hbw1 hQ QQ L hlo6 hhi6
  go_upto_region 2 with (fail)
  let L : List Sp := [sV 2 [] [] (fun u => u = .tuple #[.agg (W4 p), .bool (po)]), sA 6 31 [7] #[.int .u64 0, .int .u64 0, .int .u64 0, .int .u64 0], sT 7 6 31 [4] (fun g => aggOf g 4)]
  refine wp_region_six0 (shs L) (look6 L) (None_) (by kernel_rfl) (by kernel_rfl) (mk_St L [] [] (by kernel_rfl) (by kernel_rfl) ⟨ok_V ⟨_, rfl⟩, ok_A, ok_T aggOf_congr, trivial⟩ (by simp)) ?_
  intro QQ hQ
  -- 0: load<31> *t3
  refine stepK rfl (by kernel_rfl) (fun K hK => ?_); go_simp
  apply Exists.intro; apply And.intro; (focus exact kLoad rfl rfl aggT31 r0 rfl id); refine hK _ _ ?_; clear hK K
  -- 1: load<31> *t4
  refine stepK rfl (by kernel_rfl) (fun K hK => ?_); go_simp
  apply Exists.intro; apply And.intro; (focus exact kLoad rfl rfl aggT31 r1 rfl id); refine hK _ _ ?_; clear hK K
  -- 2: call F119(t34, t35)
  refine stepS _ rfl (by kernel_rfl) (fun K hK => ?_); go_simp
  refine ⟨?_, ?_⟩
  · intro wk hk hg hu; go_simp; refine upon_enter ((k1.out _).mono ?_); rintro e w' ⟨rfl, hb⟩; exact ⟨_, rfl, left_V (p := fun u => u = .tuple #[.agg (W4 p), .bool (po)]) rfl (hb) rfl⟩
  rintro ⟨v2, lo2, hi2⟩ - - (rfl : v2 = _)
  refine hK _ _ ?_; clear hK K
  -- 3: t36
  refine stepK rfl (by kernel_rfl) (fun K hK => ?_); go_simp
  apply Exists.intro; apply And.intro; (focus (intro wk hk; go_simp; exact ⟨rfl, rfl⟩)); refine hK _ _ ?_; clear hK K
  -- 4: extract t33 #0
  refine stepK rfl (by kernel_rfl) (fun K hK => ?_); go_simp
  apply Exists.intro; apply And.intro; (focus (intro wk hk; go_simp; exact ⟨rfl, rfl⟩)); refine hK _ _ ?_; clear hK K
  -- 5: extract t33 #1
  refine stepK rfl (by kernel_rfl) (fun K hK => ?_); go_simp
  apply Exists.intro; apply And.intro; (focus (intro wk hk; go_simp; exact ⟨rfl, rfl⟩)); refine hK _ _ ?_; clear hK K
  -- 6: alloc<31>
  refine stepS _ rfl (by kernel_rfl) (fun K hK => ?_); go_simp
  refine ⟨?_, ?_⟩
  · intro wk hk hg hu; go_simp; exact left_A rfl rfl
  rintro ⟨v6, lo2_6, hi6⟩ hlo6 hhi6 ⟨e6, f6⟩
  replace e6 : v6 = .pointer (some ⟨lo2_6, 0, none⟩) := e6; replace f6 : hi6 = lo2_6 + 1 := f6; replace hlo6 : _ ≤ lo2_6 := hlo6; subst e6; subst f6
  refine hK _ _ ?_; clear hK K
  -- 7: store<31> *t9 = t37
  refine stepS _ rfl (by kernel_rfl) (fun K hK => ?_); go_simp
  refine ⟨?_, ?_⟩
  · exact sStoreT rfl rfl rfl rfl rfl rfl rfl (by kernel_rfl) rfl (by kernel_rfl) (by decide) aggOf_congr
  rintro ⟨v7, lo7, hi7⟩ - - (rfl : v7 = undef)
  refine hK _ _ ?_; clear hK K
  -- 8: assign t38
  refine stepK rfl (by kernel_rfl) (fun K hK => ?_); go_simp
  apply Exists.intro; apply And.intro; (focus (intro wk hk; go_simp; exact ⟨rfl, rfl⟩)); refine hK _ _ ?_; clear hK K
  refine stepN ?_
  refine hQ _ _ ?_
  intro w2 hT hG hF
  have nr4r0 : w.heap.size < lo2_6 := Nat.lt_of_lt_of_le r0.lt hlo6
  have nr4r1 : w.heap.size + 1 < lo2_6 := Nat.lt_of_lt_of_le r1.lt hlo6
  have nr4r2 : w.heap.size + 1 + 1 < lo2_6 := Nat.lt_of_lt_of_le r2.lt hlo6
  have nr4r3 : lo1_6 < lo2_6 := Nat.lt_of_lt_of_le r3.lt hlo6
  have hbw2 := hT.below
  have r4 : Row w2 lo2_6 31 ((W4 p)) := (hF 7 _ rfl rfl (by decide)).2
  replace r0 := r0.below hbw2 r0.lt
  replace r1 := r1.below hbw2 r1.lt
  replace r2 := r2.below hbw2 r2.lt
  replace r3 := r3.below hbw2 r3.lt
  replace hl := hl.trans (hbw2.mono hl.size)
  clear hT hG hF hbw2 hQ QQ L hlo6 hhi6
  go_upto_region 3 with (fail)
  let L : List Sp := [sV 2 [] [] (fun u => u = .tuple #[.agg (W4 s), .bool (so)]), sA 6 31 [7] #[.int .u64 0, .int .u64 0, .int .u64 0, .int .u64 0], sT 7 6 31 [4] (fun g => aggOf g 4)]
  refine wp_region_six0 (shs L) (look6 L) (None_) (by kernel_rfl) (by kernel_rfl) (mk_St L [] [] (by kernel_rfl) (by kernel_rfl) ⟨ok_V ⟨_, rfl⟩, ok_A, ok_T aggOf_congr, trivial⟩ (by simp)) ?_
  intro QQ hQ
  -- 0: load<31> *t3
  refine stepK rfl (by kernel_rfl) (fun K hK => ?_); go_simp
  apply Exists.intro; apply And.intro; (focus exact kLoad rfl rfl aggT31 r0 rfl id); refine hK _ _ ?_; clear hK K
  -- 1: load<31> *t4
  refine stepK rfl (by kernel_rfl) (fun K hK => ?_); go_simp
  apply Exists.intro; apply And.intro; (focus exact kLoad rfl rfl aggT31 r1 rfl id); refine hK _ _ ?_; clear hK K
  -- 2: call F109(t40, t41)
  refine stepS _ rfl (by kernel_rfl) (fun K hK => ?_); go_simp
  refine ⟨?_, ?_⟩
  · intro wk hk hg hu; go_simp; refine upon_enter ((k2.out _).mono ?_); rintro e w' ⟨rfl, hb⟩; exact ⟨_, rfl, left_V (p := fun u => u = .tuple #[.agg (W4 s), .bool (so)]) rfl (hb) rfl⟩
  rintro ⟨v2, lo2, hi2⟩ - - (rfl : v2 = _)
  refine hK _ _ ?_; clear hK K
  -- 3: t42
  refine stepK rfl (by kernel_rfl) (fun K hK => ?_); go_simp
  apply Exists.intro; apply And.intro; (focus (intro wk hk; go_simp; exact ⟨rfl, rfl⟩)); refine hK _ _ ?_; clear hK K
  -- 4: extract t39 #0
  refine stepK rfl (by kernel_rfl) (fun K hK => ?_); go_simp
  apply Exists.intro; apply And.intro; (focus (intro wk hk; go_simp; exact ⟨rfl, rfl⟩)); refine hK _ _ ?_; clear hK K
  -- 5: extract t39 #1
  refine stepK rfl (by kernel_rfl) (fun K hK => ?_); go_simp
  apply Exists.intro; apply And.intro; (focus (intro wk hk; go_simp; exact ⟨rfl, rfl⟩)); refine hK _ _ ?_; clear hK K
  -- 6: alloc<31>
  refine stepS _ rfl (by kernel_rfl) (fun K hK => ?_); go_simp
  refine ⟨?_, ?_⟩
  · intro wk hk hg hu; go_simp; exact left_A rfl rfl
  rintro ⟨v6, lo3_6, hi6⟩ hlo6 hhi6 ⟨e6, f6⟩
  replace e6 : v6 = .pointer (some ⟨lo3_6, 0, none⟩) := e6; replace f6 : hi6 = lo3_6 + 1 := f6; replace hlo6 : _ ≤ lo3_6 := hlo6; subst e6; subst f6
  refine hK _ _ ?_; clear hK K
  -- 7: store<31> *t11 = t43
  refine stepS _ rfl (by kernel_rfl) (fun K hK => ?_); go_simp
  refine ⟨?_, ?_⟩
  · exact sStoreT rfl rfl rfl rfl rfl rfl rfl (by kernel_rfl) rfl (by kernel_rfl) (by decide) aggOf_congr
  rintro ⟨v7, lo7, hi7⟩ - - (rfl : v7 = undef)
  refine hK _ _ ?_; clear hK K
  -- 8: assign t44
  refine stepK rfl (by kernel_rfl) (fun K hK => ?_); go_simp
  apply Exists.intro; apply And.intro; (focus (intro wk hk; go_simp; exact ⟨rfl, rfl⟩)); refine hK _ _ ?_; clear hK K
  refine stepN ?_
  refine hQ _ _ ?_
  intro w3 hT hG hF
  have nr5r0 : w.heap.size < lo3_6 := Nat.lt_of_lt_of_le r0.lt hlo6
  have nr5r1 : w.heap.size + 1 < lo3_6 := Nat.lt_of_lt_of_le r1.lt hlo6
  have nr5r2 : w.heap.size + 1 + 1 < lo3_6 := Nat.lt_of_lt_of_le r2.lt hlo6
  have nr5r3 : lo1_6 < lo3_6 := Nat.lt_of_lt_of_le r3.lt hlo6
  have nr5r4 : lo2_6 < lo3_6 := Nat.lt_of_lt_of_le r4.lt hlo6
  have hbw3 := hT.below
  have r5 : Row w3 lo3_6 31 ((W4 s)) := (hF 7 _ rfl rfl (by decide)).2
  replace r0 := r0.below hbw3 r0.lt
  replace r1 := r1.below hbw3 r1.lt
  replace r2 := r2.below hbw3 r2.lt
  replace r3 := r3.below hbw3 r3.lt
  replace r4 := r4.below hbw3 r4.lt
  replace hl := hl.trans (hbw3.mono hl.size)
  clear hT hG hF hbw3 hQ QQ L hlo6 hhi6
  go_upto_region 4 with (fail)
  let L : List Sp := [sV 2 [] [] (fun u => u = .tuple #[.agg (W4 s), .bool (so)]), sA 6 31 [7] #[.int .u64 0, .int .u64 0, .int .u64 0, .int .u64 0], sT 7 6 31 [4] (fun g => aggOf g 4)]
  refine wp_region_six0 (shs L) (look6 L) (None_) (by kernel_rfl) (by kernel_rfl) (mk_St L [] [] (by kernel_rfl) (by kernel_rfl) ⟨ok_V ⟨_, rfl⟩, ok_A, ok_T aggOf_congr, trivial⟩ (by simp)) ?_
  intro QQ hQ
  -- 0: load<31> *t3
  refine stepK rfl (by kernel_rfl) (fun K hK => ?_); go_simp
  apply Exists.intro; apply And.intro; (focus exact kLoad rfl rfl aggT31 r0 rfl id); refine hK _ _ ?_; clear hK K
  -- 1: load<31> *t4
  refine stepK rfl (by kernel_rfl) (fun K hK => ?_); go_simp
  apply Exists.intro; apply And.intro; (focus exact kLoad rfl rfl aggT31 r1 rfl id); refine hK _ _ ?_; clear hK K
  -- 2: call F120(t46, t47)
  refine stepS _ rfl (by kernel_rfl) (fun K hK => ?_); go_simp
  refine ⟨?_, ?_⟩
  · intro wk hk hg hu; go_simp; refine upon_enter ((k3.out _).mono ?_); rintro e w' ⟨rfl, hb⟩; exact ⟨_, rfl, left_V (p := fun u => u = .tuple #[.agg (W4 s), .bool (so)]) rfl (hb) rfl⟩
  rintro ⟨v2, lo2, hi2⟩ - - (rfl : v2 = _)
  refine hK _ _ ?_; clear hK K
  -- 3: t48
  refine stepK rfl (by kernel_rfl) (fun K hK => ?_); go_simp
  apply Exists.intro; apply And.intro; (focus (intro wk hk; go_simp; exact ⟨rfl, rfl⟩)); refine hK _ _ ?_; clear hK K
  -- 4: extract t45 #0
  refine stepK rfl (by kernel_rfl) (fun K hK => ?_); go_simp
  apply Exists.intro; apply And.intro; (focus (intro wk hk; go_simp; exact ⟨rfl, rfl⟩)); refine hK _ _ ?_; clear hK K
  -- 5: extract t45 #1
  refine stepK rfl (by kernel_rfl) (fun K hK => ?_); go_simp
  apply Exists.intro; apply And.intro; (focus (intro wk hk; go_simp; exact ⟨rfl, rfl⟩)); refine hK _ _ ?_; clear hK K
  -- 6: alloc<31>
  refine stepS _ rfl (by kernel_rfl) (fun K hK => ?_); go_simp
  refine ⟨?_, ?_⟩
  · intro wk hk hg hu; go_simp; exact left_A rfl rfl
  rintro ⟨v6, lo4_6, hi6⟩ hlo6 hhi6 ⟨e6, f6⟩
  replace e6 : v6 = .pointer (some ⟨lo4_6, 0, none⟩) := e6; replace f6 : hi6 = lo4_6 + 1 := f6; replace hlo6 : _ ≤ lo4_6 := hlo6; subst e6; subst f6
  refine hK _ _ ?_; clear hK K
  -- 7: store<31> *t13 = t49
  refine stepS _ rfl (by kernel_rfl) (fun K hK => ?_); go_simp
  refine ⟨?_, ?_⟩
  · exact sStoreT rfl rfl rfl rfl rfl rfl rfl (by kernel_rfl) rfl (by kernel_rfl) (by decide) aggOf_congr
  rintro ⟨v7, lo7, hi7⟩ - - (rfl : v7 = undef)
  refine hK _ _ ?_; clear hK K
  -- 8: assign t50
  refine stepK rfl (by kernel_rfl) (fun K hK => ?_); go_simp
  apply Exists.intro; apply And.intro; (focus (intro wk hk; go_simp; exact ⟨rfl, rfl⟩)); refine hK _ _ ?_; clear hK K
  refine stepN ?_
  refine hQ _ _ ?_
  intro w4 hT hG hF
  have nr6r0 : w.heap.size < lo4_6 := Nat.lt_of_lt_of_le r0.lt hlo6
  have nr6r1 : w.heap.size + 1 < lo4_6 := Nat.lt_of_lt_of_le r1.lt hlo6
  have nr6r2 : w.heap.size + 1 + 1 < lo4_6 := Nat.lt_of_lt_of_le r2.lt hlo6
  have nr6r3 : lo1_6 < lo4_6 := Nat.lt_of_lt_of_le r3.lt hlo6
  have nr6r4 : lo2_6 < lo4_6 := Nat.lt_of_lt_of_le r4.lt hlo6
  have nr6r5 : lo3_6 < lo4_6 := Nat.lt_of_lt_of_le r5.lt hlo6
  have hbw4 := hT.below
  have r6 : Row w4 lo4_6 31 ((W4 s)) := (hF 7 _ rfl rfl (by decide)).2
  replace r0 := r0.below hbw4 r0.lt
  replace r1 := r1.below hbw4 r1.lt
  replace r2 := r2.below hbw4 r2.lt
  replace r3 := r3.below hbw4 r3.lt
  replace r4 := r4.below hbw4 r4.lt
  replace r5 := r5.below hbw4 r5.lt
  replace hl := hl.trans (hbw4.mono hl.size)
  clear hT hG hF hbw4 hQ QQ L hlo6 hhi6
  go_upto_region 5 with (fail)
  let L : List Sp := [sV 2 [] [] (fun u => u = .tuple #[.agg (W4 x), .bool (xo)]), sA 6 31 [7] #[.int .u64 0, .int .u64 0, .int .u64 0, .int .u64 0], sT 7 6 31 [4] (fun g => aggOf g 4)]
  refine wp_region_six0 (shs L) (look6 L) (None_) (by kernel_rfl) (by kernel_rfl) (mk_St L [] [] (by kernel_rfl) (by kernel_rfl) ⟨ok_V ⟨_, rfl⟩, ok_A, ok_T aggOf_congr, trivial⟩ (by simp)) ?_
  intro QQ hQ
  -- 0: load<31> *t3
  refine stepK rfl (by kernel_rfl) (fun K hK => ?_); go_simp
  apply Exists.intro; apply And.intro; (focus exact kLoad rfl rfl aggT31 r0 rfl id); refine hK _ _ ?_; clear hK K
  -- 1: load<31> *t4
  refine stepK rfl (by kernel_rfl) (fun K hK => ?_); go_simp
  apply Exists.intro; apply And.intro; (focus exact kLoad rfl rfl aggT31 r1 rfl id); refine hK _ _ ?_; clear hK K
  -- 2: call F121(t52, t53)
  refine stepS _ rfl (by kernel_rfl) (fun K hK => ?_); go_simp
  refine ⟨?_, ?_⟩
  · intro wk hk hg hu; go_simp; refine upon_enter ((k4.out _).mono ?_); rintro e w' ⟨rfl, hb⟩; exact ⟨_, rfl, left_V (p := fun u => u = .tuple #[.agg (W4 x), .bool (xo)]) rfl (hb) rfl⟩
  rintro ⟨v2, lo2, hi2⟩ - - (rfl : v2 = _)
  refine hK _ _ ?_; clear hK K
  -- 3: t54
  refine stepK rfl (by kernel_rfl) (fun K hK => ?_); go_simp
  apply Exists.intro; apply And.intro; (focus (intro wk hk; go_simp; exact ⟨rfl, rfl⟩)); refine hK _ _ ?_; clear hK K
  -- 4: extract t51 #0
  refine stepK rfl (by kernel_rfl) (fun K hK => ?_); go_simp
  apply Exists.intro; apply And.intro; (focus (intro wk hk; go_simp; exact ⟨rfl, rfl⟩)); refine hK _ _ ?_; clear hK K
  -- 5: extract t51 #1
  refine stepK rfl (by kernel_rfl) (fun K hK => ?_); go_simp
  apply Exists.intro; apply And.intro; (focus (intro wk hk; go_simp; exact ⟨rfl, rfl⟩)); refine hK _ _ ?_; clear hK K
  -- 6: alloc<31>
  refine stepS _ rfl (by kernel_rfl) (fun K hK => ?_); go_simp
  refine ⟨?_, ?_⟩
  · intro wk hk hg hu; go_simp; exact left_A rfl rfl
  rintro ⟨v6, lo5_6, hi6⟩ hlo6 hhi6 ⟨e6, f6⟩
  replace e6 : v6 = .pointer (some ⟨lo5_6, 0, none⟩) := e6; replace f6 : hi6 = lo5_6 + 1 := f6; replace hlo6 : _ ≤ lo5_6 := hlo6; subst e6; subst f6
  refine hK _ _ ?_; clear hK K
  -- 7: store<31> *t15 = t55
  refine stepS _ rfl (by kernel_rfl) (fun K hK => ?_); go_simp
  refine ⟨?_, ?_⟩
  · exact sStoreT rfl rfl rfl rfl rfl rfl rfl (by kernel_rfl) rfl (by kernel_rfl) (by decide) aggOf_congr
  rintro ⟨v7, lo7, hi7⟩ - - (rfl : v7 = undef)
  refine hK _ _ ?_; clear hK K
  -- 8: assign t56
  refine stepK rfl (by kernel_rfl) (fun K hK => ?_); go_simp
  apply Exists.intro; apply And.intro; (focus (intro wk hk; go_simp; exact ⟨rfl, rfl⟩)); refine hK _ _ ?_; clear hK K
  refine stepN ?_
  refine hQ _ _ ?_
  intro w5 hT hG hF
  have nr7r0 : w.heap.size < lo5_6 := Nat.lt_of_lt_of_le r0.lt hlo6
  have nr7r1 : w.heap.size + 1 < lo5_6 := Nat.lt_of_lt_of_le r1.lt hlo6
  have nr7r2 : w.heap.size + 1 + 1 < lo5_6 := Nat.lt_of_lt_of_le r2.lt hlo6
  have nr7r3 : lo1_6 < lo5_6 := Nat.lt_of_lt_of_le r3.lt hlo6
  have nr7r4 : lo2_6 < lo5_6 := Nat.lt_of_lt_of_le r4.lt hlo6
  have nr7r5 : lo3_6 < lo5_6 := Nat.lt_of_lt_of_le r5.lt hlo6
  have nr7r6 : lo4_6 < lo5_6 := Nat.lt_of_lt_of_le r6.lt hlo6
  have hbw5 := hT.below
  have r7 : Row w5 lo5_6 31 ((W4 x)) := (hF 7 _ rfl rfl (by decide)).2
  replace r0 := r0.below hbw5 r0.lt
  replace r1 := r1.below hbw5 r1.lt
  replace r2 := r2.below hbw5 r2.lt
  replace r3 := r3.below hbw5 r3.lt
  replace r4 := r4.below hbw5 r4.lt
  replace r5 := r5.below hbw5 r5.lt
  replace r6 := r6.below hbw5 r6.lt
  replace hl := hl.trans (hbw5.mono hl.size)
  clear hT hG hF hbw5 hQ QQ L hlo6 hhi6
  go_upto_region 6 with (fail)
  let L : List Sp := [sV 2 [] [] (fun u => u = .tuple #[.agg (W4 x), .bool (xo)]), sA 6 31 [7] #[.int .u64 0, .int .u64 0, .int .u64 0, .int .u64 0], sT 7 6 31 [4] (fun g => aggOf g 4)]
  refine wp_region_six0 (shs L) (look6 L) (None_) (by kernel_rfl) (by kernel_rfl) (mk_St L [] [] (by kernel_rfl) (by kernel_rfl) ⟨ok_V ⟨_, rfl⟩, ok_A, ok_T aggOf_congr, trivial⟩ (by simp)) ?_
  intro QQ hQ
  -- 0: load<31> *t3
  refine stepK rfl (by kernel_rfl) (fun K hK => ?_); go_simp
  apply Exists.intro; apply And.intro; (focus exact kLoad rfl rfl aggT31 r0 rfl id); refine hK _ _ ?_; clear hK K
  -- 1: load<31> *t4
  refine stepK rfl (by kernel_rfl) (fun K hK => ?_); go_simp
  apply Exists.intro; apply And.intro; (focus exact kLoad rfl rfl aggT31 r1 rfl id); refine hK _ _ ?_; clear hK K
  -- 2: call F122(t58, t59)
  refine stepS _ rfl (by kernel_rfl) (fun K hK => ?_); go_simp
  refine ⟨?_, ?_⟩
  · intro wk hk hg hu; go_simp; refine upon_enter ((k5.out _).mono ?_); rintro e w' ⟨rfl, hb⟩; exact ⟨_, rfl, left_V (p := fun u => u = .tuple #[.agg (W4 x), .bool (xo)]) rfl (hb) rfl⟩
  rintro ⟨v2, lo2, hi2⟩ - - (rfl : v2 = _)
  refine hK _ _ ?_; clear hK K
  -- 3: t60
  refine stepK rfl (by kernel_rfl) (fun K hK => ?_); go_simp
  apply Exists.intro; apply And.intro; (focus (intro wk hk; go_simp; exact ⟨rfl, rfl⟩)); refine hK _ _ ?_; clear hK K
  -- 4: extract t57 #0
  refine stepK rfl (by kernel_rfl) (fun K hK => ?_); go_simp
  apply Exists.intro; apply And.intro; (focus (intro wk hk; go_simp; exact ⟨rfl, rfl⟩)); refine hK _ _ ?_; clear hK K
  -- 5: extract t57 #1
  refine stepK rfl (by kernel_rfl) (fun K hK => ?_); go_simp
  apply Exists.intro; apply And.intro; (focus (intro wk hk; go_simp; exact ⟨rfl, rfl⟩)); refine hK _ _ ?_; clear hK K
  -- 6: alloc<31>
  refine stepS _ rfl (by kernel_rfl) (fun K hK => ?_); go_simp
  refine ⟨?_, ?_⟩
  · intro wk hk hg hu; go_simp; exact left_A rfl rfl
  rintro ⟨v6, lo6_6, hi6⟩ hlo6 hhi6 ⟨e6, f6⟩
  replace e6 : v6 = .pointer (some ⟨lo6_6, 0, none⟩) := e6; replace f6 : hi6 = lo6_6 + 1 := f6; replace hlo6 : _ ≤ lo6_6 := hlo6; subst e6; subst f6
  refine hK _ _ ?_; clear hK K
  -- 7: store<31> *t17 = t61
  refine stepS _ rfl (by kernel_rfl) (fun K hK => ?_); go_simp
  refine ⟨?_, ?_⟩
  · exact sStoreT rfl rfl rfl rfl rfl rfl rfl (by kernel_rfl) rfl (by kernel_rfl) (by decide) aggOf_congr
  rintro ⟨v7, lo7, hi7⟩ - - (rfl : v7 = undef)
  refine hK _ _ ?_; clear hK K
  -- 8: assign t62
  refine stepK rfl (by kernel_rfl) (fun K hK => ?_); go_simp
  apply Exists.intro; apply And.intro; (focus (intro wk hk; go_simp; exact ⟨rfl, rfl⟩)); refine hK _ _ ?_; clear hK K
  refine stepN ?_
  refine hQ _ _ ?_
  intro w6 hT hG hF
  have nr8r0 : w.heap.size < lo6_6 := Nat.lt_of_lt_of_le r0.lt hlo6
  have nr8r1 : w.heap.size + 1 < lo6_6 := Nat.lt_of_lt_of_le r1.lt hlo6
  have nr8r2 : w.heap.size + 1 + 1 < lo6_6 := Nat.lt_of_lt_of_le r2.lt hlo6
  have nr8r3 : lo1_6 < lo6_6 := Nat.lt_of_lt_of_le r3.lt hlo6
  have nr8r4 : lo2_6 < lo6_6 := Nat.lt_of_lt_of_le r4.lt hlo6
  have nr8r5 : lo3_6 < lo6_6 := Nat.lt_of_lt_of_le r5.lt hlo6
  have nr8r6 : lo4_6 < lo6_6 := Nat.lt_of_lt_of_le r6.lt hlo6
  have nr8r7 : lo5_6 < lo6_6 := Nat.lt_of_lt_of_le r7.lt hlo6
  have hbw6 := hT.below
  have r8 : Row w6 lo6_6 31 ((W4 x)) := (hF 7 _ rfl rfl (by decide)).2
  replace r0 := r0.below hbw6 r0.lt
  replace r1 := r1.below hbw6 r1.lt
  replace r2 := r2.below hbw6 r2.lt
  replace r3 := r3.below hbw6 r3.lt
  replace r4 := r4.below hbw6 r4.lt
  replace r5 := r5.below hbw6 r5.lt
  replace r6 := r6.below hbw6 r6.lt
  replace r7 := r7.below hbw6 r7.lt
  replace hl := hl.trans (hbw6.mono hl.size)
  clear hT hG hF hbw6 hQ QQ L hlo6 hhi6
  go_upto_region 7 with (fail)
  let L : List Sp := []
  refine wp_region_six0 (shs L) (look6 L) (None_) (by kernel_rfl) (by kernel_rfl) (mk_St L [] [] (by kernel_rfl) (by kernel_rfl) trivial (by simp)) ?_
  intro QQ hQ
  -- 0: load<31> *t7
  refine stepK rfl (by kernel_rfl) (fun K hK => ?_); go_simp
  apply Exists.intro; apply And.intro; (focus exact kLoad rfl rfl aggT31 r3 rfl id); refine hK _ _ ?_; clear hK K
  -- 1: load<31> *t9
  refine stepK rfl (by kernel_rfl) (fun K hK => ?_); go_simp
  apply Exists.intro; apply And.intro; (focus exact kLoad rfl rfl aggT31 r4 rfl id); refine hK _ _ ?_; clear hK K
  -- 2: neq<31> t63, t64
  refine stepK rfl (by kernel_rfl) (fun K hK => ?_); go_simp
  apply Exists.intro; apply And.intro; (focus (intro wk hk; go_simp; exact ⟨rfl, rfl⟩)); refine hK _ _ ?_; clear hK K
  -- 3: t65
  refine stepK rfl (by kernel_rfl) (fun K hK => ?_); go_simp
  apply Exists.intro; apply And.intro; (focus (intro wk hk; go_simp; exact ⟨rfl, rfl⟩)); refine hK _ _ ?_; clear hK K
  -- 4: t8
  refine stepK rfl (by kernel_rfl) (fun K hK => ?_); go_simp
  first | (refine hK _ _ ?_; clear hK K) | (apply Exists.intro; apply And.intro; (focus (intro wk hk; go_simp; exact ⟨rfl, rfl⟩)); refine hK _ _ ?_; clear hK K)
  -- 5: t10
  refine stepK rfl (by kernel_rfl) (fun K hK => ?_); go_simp
  first | (refine hK _ _ ?_; clear hK K) | (apply Exists.intro; apply And.intro; (focus (intro wk hk; go_simp; exact ⟨rfl, rfl⟩)); refine hK _ _ ?_; clear hK K)
  -- 6: neq<4> t67, t68
  refine stepK rfl (by kernel_rfl) (fun K hK => ?_); go_simp
  first | (refine hK _ _ ?_; clear hK K) | (apply Exists.intro; apply And.intro; (focus (intro wk hk; go_simp; exact ⟨rfl, rfl⟩)); refine hK _ _ ?_; clear hK K)
  -- 7: pick t66 ? true : t69
  refine stepK rfl (by kernel_rfl) (fun K hK => ?_); go_simp
  apply Exists.intro; apply And.intro; (focus (intro wk hk; go_simp; exact ⟨rfl, rfl⟩)); refine hK _ _ ?_; clear hK K
  -- 8: t70
  refine stepK rfl (by kernel_rfl) (fun K hK => ?_); go_simp
  apply Exists.intro; apply And.intro; (focus (intro wk hk; go_simp; exact ⟨rfl, rfl⟩)); refine hK _ _ ?_; clear hK K
  -- 9: load<31> *t11
  refine stepK rfl (by kernel_rfl) (fun K hK => ?_); go_simp
  first | (refine hK _ _ ?_; clear hK K) | (apply Exists.intro; apply And.intro; (focus exact kLoad rfl rfl aggT31 r5 rfl id); refine hK _ _ ?_; clear hK K)
  -- 10: load<31> *t13
  refine stepK rfl (by kernel_rfl) (fun K hK => ?_); go_simp
  first | (refine hK _ _ ?_; clear hK K) | (apply Exists.intro; apply And.intro; (focus exact kLoad rfl rfl aggT31 r6 rfl id); refine hK _ _ ?_; clear hK K)
  -- 11: neq<31> t72, t73
  refine stepK rfl (by kernel_rfl) (fun K hK => ?_); go_simp
  first | (refine hK _ _ ?_; clear hK K) | (apply Exists.intro; apply And.intro; (focus (intro wk hk; go_simp; exact ⟨rfl, rfl⟩)); refine hK _ _ ?_; clear hK K)
  -- 12: pick t71 ? true : t74
  refine stepK rfl (by kernel_rfl) (fun K hK => ?_); go_simp
  apply Exists.intro; apply And.intro; (focus (intro wk hk; go_simp; exact ⟨rfl, rfl⟩)); refine hK _ _ ?_; clear hK K
  -- 13: t75
  refine stepK rfl (by kernel_rfl) (fun K hK => ?_); go_simp
  apply Exists.intro; apply And.intro; (focus (intro wk hk; go_simp; exact ⟨rfl, rfl⟩)); refine hK _ _ ?_; clear hK K
  -- 14: t12
  refine stepK rfl (by kernel_rfl) (fun K hK => ?_); go_simp
  first | (refine hK _ _ ?_; clear hK K) | (apply Exists.intro; apply And.intro; (focus (intro wk hk; go_simp; exact ⟨rfl, rfl⟩)); refine hK _ _ ?_; clear hK K)
  -- 15: t14
  refine stepK rfl (by kernel_rfl) (fun K hK => ?_); go_simp
  first | (refine hK _ _ ?_; clear hK K) | (apply Exists.intro; apply And.intro; (focus (intro wk hk; go_simp; exact ⟨rfl, rfl⟩)); refine hK _ _ ?_; clear hK K)
  -- 16: neq<4> t77, t78
  refine stepK rfl (by kernel_rfl) (fun K hK => ?_); go_simp
  first | (refine hK _ _ ?_; clear hK K) | (apply Exists.intro; apply And.intro; (focus (intro wk hk; go_simp; exact ⟨rfl, rfl⟩)); refine hK _ _ ?_; clear hK K)
  -- 17: pick t76 ? true : t79
  refine stepK rfl (by kernel_rfl) (fun K hK => ?_); go_simp
  apply Exists.intro; apply And.intro; (focus (intro wk hk; go_simp; exact ⟨rfl, rfl⟩)); refine hK _ _ ?_; clear hK K
  -- 18: t80
  refine stepK rfl (by kernel_rfl) (fun K hK => ?_); go_simp
  apply Exists.intro; apply And.intro; (focus (intro wk hk; go_simp; exact ⟨rfl, rfl⟩)); refine hK _ _ ?_; clear hK K
  -- 19: load<31> *t15
  refine stepK rfl (by kernel_rfl) (fun K hK => ?_); go_simp
  first | (refine hK _ _ ?_; clear hK K) | (apply Exists.intro; apply And.intro; (focus exact kLoad rfl rfl aggT31 r7 rfl id); refine hK _ _ ?_; clear hK K)
  -- 20: load<31> *t17
  refine stepK rfl (by kernel_rfl) (fun K hK => ?_); go_simp
  first | (refine hK _ _ ?_; clear hK K) | (apply Exists.intro; apply And.intro; (focus exact kLoad rfl rfl aggT31 r8 rfl id); refine hK _ _ ?_; clear hK K)
  -- 21: neq<31> t82, t83
  refine stepK rfl (by kernel_rfl) (fun K hK => ?_); go_simp
  first | (refine hK _ _ ?_; clear hK K) | (apply Exists.intro; apply And.intro; (focus (intro wk hk; go_simp; exact ⟨rfl, rfl⟩)); refine hK _ _ ?_; clear hK K)
  -- 22: pick t81 ? true : t84
  refine stepK rfl (by kernel_rfl) (fun K hK => ?_); go_simp
  apply Exists.intro; apply And.intro; (focus (intro wk hk; go_simp; exact ⟨rfl, rfl⟩)); refine hK _ _ ?_; clear hK K
  -- 23: t85
  refine stepK rfl (by kernel_rfl) (fun K hK => ?_); go_simp
  apply Exists.intro; apply And.intro; (focus (intro wk hk; go_simp; exact ⟨rfl, rfl⟩)); refine hK _ _ ?_; clear hK K
  -- 24: t16
  refine stepK rfl (by kernel_rfl) (fun K hK => ?_); go_simp
  first | (refine hK _ _ ?_; clear hK K) | (apply Exists.intro; apply And.intro; (focus (intro wk hk; go_simp; exact ⟨rfl, rfl⟩)); refine hK _ _ ?_; clear hK K)
  -- 25: t18
  refine stepK rfl (by kernel_rfl) (fun K hK => ?_); go_simp
  first | (refine hK _ _ ?_; clear hK K) | (apply Exists.intro; apply And.intro; (focus (intro wk hk; go_simp; exact ⟨rfl, rfl⟩)); refine hK _ _ ?_; clear hK K)
  -- 26: neq<4> t87, t88
  refine stepK rfl (by kernel_rfl) (fun K hK => ?_); go_simp
  first | (refine hK _ _ ?_; clear hK K) | (apply Exists.intro; apply And.intro; (focus (intro wk hk; go_simp; exact ⟨rfl, rfl⟩)); refine hK _ _ ?_; clear hK K)
  -- 27: pick t86 ? true : t89
  refine stepK rfl (by kernel_rfl) (fun K hK => ?_); go_simp
  apply Exists.intro; apply And.intro; (focus (intro wk hk; go_simp; exact ⟨rfl, rfl⟩)); refine hK _ _ ?_; clear hK K
  refine stepN ?_
  refine hQ _ _ ?_
  intro w7 hT hG hF
  have hbw7 := hT.below
  replace r0 := r0.below hbw7 r0.lt
  replace r1 := r1.below hbw7 r1.lt
  replace r2 := r2.below hbw7 r2.lt
  replace r3 := r3.below hbw7 r3.lt
  replace r4 := r4.below hbw7 r4.lt
  replace r5 := r5.below hbw7 r5.lt
  replace r6 := r6.below hbw7 r6.lt
  replace r7 := r7.below hbw7 r7.lt
  replace r8 := r8.below hbw7 r8.lt
  replace hl := hl.trans (hbw7.mono hl.size)
  clear hT hG hF hbw7 hQ QQ L 
  go_upto_region 9 with (fail)
  let L : List Sp := [sV 3 [] [] (fun u => u = .tuple #[.agg (W4 v), .bool (vo)]), sA 7 31 [8] #[.int .u64 0, .int .u64 0, .int .u64 0, .int .u64 0], sT 8 7 31 [5] (fun g => aggOf g 5)]
  refine wp_region_six0 (shs L) (look6 L) (None_) (by kernel_rfl) (by kernel_rfl) (mk_St L [] [] (by kernel_rfl) (by kernel_rfl) ⟨ok_V ⟨_, rfl⟩, ok_A, ok_T aggOf_congr, trivial⟩ (by simp)) ?_
  intro QQ hQ
  -- 0: load<31> *t3
  refine stepK rfl (by kernel_rfl) (fun K hK => ?_); go_simp
  apply Exists.intro; apply And.intro; (focus exact kLoad rfl rfl aggT31 r0 rfl id); refine hK _ _ ?_; clear hK K
  -- 1: load<31> *t4
  refine stepK rfl (by kernel_rfl) (fun K hK => ?_); go_simp
  apply Exists.intro; apply And.intro; (focus exact kLoad rfl rfl aggT31 r1 rfl id); refine hK _ _ ?_; clear hK K
  -- 2: load<31> *t5
  refine stepK rfl (by kernel_rfl) (fun K hK => ?_); go_simp
  apply Exists.intro; apply And.intro; (focus exact kLoad rfl rfl aggT31 r2 rfl id); refine hK _ _ ?_; clear hK K
  -- 3: call F110(t92, t93, t94)
  refine stepS _ rfl (by kernel_rfl) (fun K hK => ?_); go_simp
  refine ⟨?_, ?_⟩
  · intro wk hk hg hu; go_simp; refine upon_enter ((k6.out _).mono ?_); rintro e w' ⟨rfl, hb⟩; exact ⟨_, rfl, left_V (p := fun u => u = .tuple #[.agg (W4 v), .bool (vo)]) rfl (hb) rfl⟩
  rintro ⟨v3, lo3, hi3⟩ - - (rfl : v3 = _)
  refine hK _ _ ?_; clear hK K
  -- 4: t95
  refine stepK rfl (by kernel_rfl) (fun K hK => ?_); go_simp
  apply Exists.intro; apply And.intro; (focus (intro wk hk; go_simp; exact ⟨rfl, rfl⟩)); refine hK _ _ ?_; clear hK K
  -- 5: extract t91 #0
  refine stepK rfl (by kernel_rfl) (fun K hK => ?_); go_simp
  apply Exists.intro; apply And.intro; (focus (intro wk hk; go_simp; exact ⟨rfl, rfl⟩)); refine hK _ _ ?_; clear hK K
  -- 6: extract t91 #1
  refine stepK rfl (by kernel_rfl) (fun K hK => ?_); go_simp
  apply Exists.intro; apply And.intro; (focus (intro wk hk; go_simp; exact ⟨rfl, rfl⟩)); refine hK _ _ ?_; clear hK K
  -- 7: alloc<31>
  refine stepS _ rfl (by kernel_rfl) (fun K hK => ?_); go_simp
  refine ⟨?_, ?_⟩
  · intro wk hk hg hu; go_simp; exact left_A rfl rfl
  rintro ⟨v7, lo9_7, hi7⟩ hlo7 hhi7 ⟨e7, f7⟩
  replace e7 : v7 = .pointer (some ⟨lo9_7, 0, none⟩) := e7; replace f7 : hi7 = lo9_7 + 1 := f7; replace hlo7 : _ ≤ lo9_7 := hlo7; subst e7; subst f7
  refine hK _ _ ?_; clear hK K
  -- 8: store<31> *t19 = t96
  refine stepS _ rfl (by kernel_rfl) (fun K hK => ?_); go_simp
  refine ⟨?_, ?_⟩
  · exact sStoreT rfl rfl rfl rfl rfl rfl rfl (by kernel_rfl) rfl (by kernel_rfl) (by decide) aggOf_congr
  rintro ⟨v8, lo8, hi8⟩ - - (rfl : v8 = undef)
  refine hK _ _ ?_; clear hK K
  -- 9: assign t97
  refine stepK rfl (by kernel_rfl) (fun K hK => ?_); go_simp
  apply Exists.intro; apply And.intro; (focus (intro wk hk; go_simp; exact ⟨rfl, rfl⟩)); refine hK _ _ ?_; clear hK K
  refine stepN ?_
  refine hQ _ _ ?_
  intro w8 hT hG hF
  have nr9r0 : w.heap.size < lo9_7 := Nat.lt_of_lt_of_le r0.lt hlo7
  have nr9r1 : w.heap.size + 1 < lo9_7 := Nat.lt_of_lt_of_le r1.lt hlo7
  have nr9r2 : w.heap.size + 1 + 1 < lo9_7 := Nat.lt_of_lt_of_le r2.lt hlo7
  have nr9r3 : lo1_6 < lo9_7 := Nat.lt_of_lt_of_le r3.lt hlo7
  have nr9r4 : lo2_6 < lo9_7 := Nat.lt_of_lt_of_le r4.lt hlo7
  have nr9r5 : lo3_6 < lo9_7 := Nat.lt_of_lt_of_le r5.lt hlo7
  have nr9r6 : lo4_6 < lo9_7 := Nat.lt_of_lt_of_le r6.lt hlo7
  have nr9r7 : lo5_6 < lo9_7 := Nat.lt_of_lt_of_le r7.lt hlo7
  have nr9r8 : lo6_6 < lo9_7 := Nat.lt_of_lt_of_le r8.lt hlo7
  have hbw8 := hT.below
  have r9 : Row w8 lo9_7 31 ((W4 v)) := (hF 8 _ rfl rfl (by decide)).2
  replace r0 := r0.below hbw8 r0.lt
  replace r1 := r1.below hbw8 r1.lt
  replace r2 := r2.below hbw8 r2.lt
  replace r3 := r3.below hbw8 r3.lt
  replace r4 := r4.below hbw8 r4.lt
  replace r5 := r5.below hbw8 r5.lt
  replace r6 := r6.below hbw8 r6.lt
  replace r7 := r7.below hbw8 r7.lt
  replace r8 := r8.below hbw8 r8.lt
  replace hl := hl.trans (hbw8.mono hl.size)
  clear hT hG hF hbw8 hQ QQ L hlo7 hhi7
  go_upto_region 10 with (fail)
  let L : List Sp := [sV 3 [] [] (fun u => u = .tuple #[.agg (W4 v), .bool (vo)]), sA 7 31 [8] #[.int .u64 0, .int .u64 0, .int .u64 0, .int .u64 0], sT 8 7 31 [5] (fun g => aggOf g 5)]
  refine wp_region_six0 (shs L) (look6 L) (None_) (by kernel_rfl) (by kernel_rfl) (mk_St L [] [] (by kernel_rfl) (by kernel_rfl) ⟨ok_V ⟨_, rfl⟩, ok_A, ok_T aggOf_congr, trivial⟩ (by simp)) ?_
  intro QQ hQ
  -- 0: load<31> *t3
  refine stepK rfl (by kernel_rfl) (fun K hK => ?_); go_simp
  apply Exists.intro; apply And.intro; (focus exact kLoad rfl rfl aggT31 r0 rfl id); refine hK _ _ ?_; clear hK K
  -- 1: load<31> *t4
  refine stepK rfl (by kernel_rfl) (fun K hK => ?_); go_simp
  apply Exists.intro; apply And.intro; (focus exact kLoad rfl rfl aggT31 r1 rfl id); refine hK _ _ ?_; clear hK K
  -- 2: load<31> *t5
  refine stepK rfl (by kernel_rfl) (fun K hK => ?_); go_simp
  apply Exists.intro; apply And.intro; (focus exact kLoad rfl rfl aggT31 r2 rfl id); refine hK _ _ ?_; clear hK K
  -- 3: call F123(t99, t100, t101)
  refine stepS _ rfl (by kernel_rfl) (fun K hK => ?_); go_simp
  refine ⟨?_, ?_⟩
  · intro wk hk hg hu; go_simp; refine upon_enter ((k7.out _).mono ?_); rintro e w' ⟨rfl, hb⟩; exact ⟨_, rfl, left_V (p := fun u => u = .tuple #[.agg (W4 v), .bool (vo)]) rfl (hb) rfl⟩
  rintro ⟨v3, lo3, hi3⟩ - - (rfl : v3 = _)
  refine hK _ _ ?_; clear hK K
  -- 4: t102
  refine stepK rfl (by kernel_rfl) (fun K hK => ?_); go_simp
  apply Exists.intro; apply And.intro; (focus (intro wk hk; go_simp; exact ⟨rfl, rfl⟩)); refine hK _ _ ?_; clear hK K
  -- 5: extract t98 #0
  refine stepK rfl (by kernel_rfl) (fun K hK => ?_); go_simp
  apply Exists.intro; apply And.intro; (focus (intro wk hk; go_simp; exact ⟨rfl, rfl⟩)); refine hK _ _ ?_; clear hK K
  -- 6: extract t98 #1
  refine stepK rfl (by kernel_rfl) (fun K hK => ?_); go_simp
  apply Exists.intro; apply And.intro; (focus (intro wk hk; go_simp; exact ⟨rfl, rfl⟩)); refine hK _ _ ?_; clear hK K
  -- 7: alloc<31>
  refine stepS _ rfl (by kernel_rfl) (fun K hK => ?_); go_simp
  refine ⟨?_, ?_⟩
  · intro wk hk hg hu; go_simp; exact left_A rfl rfl
  rintro ⟨v7, lo10_7, hi7⟩ hlo7 hhi7 ⟨e7, f7⟩
  replace e7 : v7 = .pointer (some ⟨lo10_7, 0, none⟩) := e7; replace f7 : hi7 = lo10_7 + 1 := f7; replace hlo7 : _ ≤ lo10_7 := hlo7; subst e7; subst f7
  refine hK _ _ ?_; clear hK K
  -- 8: store<31> *t21 = t103
  refine stepS _ rfl (by kernel_rfl) (fun K hK => ?_); go_simp
  refine ⟨?_, ?_⟩
  · exact sStoreT rfl rfl rfl rfl rfl rfl rfl (by kernel_rfl) rfl (by kernel_rfl) (by decide) aggOf_congr
  rintro ⟨v8, lo8, hi8⟩ - - (rfl : v8 = undef)
  refine hK _ _ ?_; clear hK K
  -- 9: assign t104
  refine stepK rfl (by kernel_rfl) (fun K hK => ?_); go_simp
  apply Exists.intro; apply And.intro; (focus (intro wk hk; go_simp; exact ⟨rfl, rfl⟩)); refine hK _ _ ?_; clear hK K
  refine stepN ?_
  refine hQ _ _ ?_
  intro w9 hT hG hF
  have nr10r0 : w.heap.size < lo10_7 := Nat.lt_of_lt_of_le r0.lt hlo7
  have nr10r1 : w.heap.size + 1 < lo10_7 := Nat.lt_of_lt_of_le r1.lt hlo7
  have nr10r2 : w.heap.size + 1 + 1 < lo10_7 := Nat.lt_of_lt_of_le r2.lt hlo7
  have nr10r3 : lo1_6 < lo10_7 := Nat.lt_of_lt_of_le r3.lt hlo7
  have nr10r4 : lo2_6 < lo10_7 := Nat.lt_of_lt_of_le r4.lt hlo7
  have nr10r5 : lo3_6 < lo10_7 := Nat.lt_of_lt_of_le r5.lt hlo7
  have nr10r6 : lo4_6 < lo10_7 := Nat.lt_of_lt_of_le r6.lt hlo7
  have nr10r7 : lo5_6 < lo10_7 := Nat.lt_of_lt_of_le r7.lt hlo7
  have nr10r8 : lo6_6 < lo10_7 := Nat.lt_of_lt_of_le r8.lt hlo7
  have nr10r9 : lo9_7 < lo10_7 := Nat.lt_of_lt_of_le r9.lt hlo7
  have hbw9 := hT.below
  have r10 : Row w9 lo10_7 31 ((W4 v)) := (hF 8 _ rfl rfl (by decide)).2
  replace r0 := r0.below hbw9 r0.lt
  replace r1 := r1.below hbw9 r1.lt
  replace r2 := r2.below hbw9 r2.lt
  replace r3 := r3.below hbw9 r3.lt
  replace r4 := r4.below hbw9 r4.lt
  replace r5 := r5.below hbw9 r5.lt
  replace r6 := r6.below hbw9 r6.lt
  replace r7 := r7.below hbw9 r7.lt
  replace r8 := r8.below hbw9 r8.lt
  replace r9 := r9.below hbw9 r9.lt
  replace hl := hl.trans (hbw9.mono hl.size)
  clear hT hG hF hbw9 hQ QQ L hlo7 hhi7
  go_upto_region 11 with (fail)
  let L : List Sp := [sV 3 [] [] (fun u => u = .tuple #[.agg (W4 g), .bool (go)]), sA 7 31 [8] #[.int .u64 0, .int .u64 0, .int .u64 0, .int .u64 0], sT 8 7 31 [5] (fun g => aggOf g 5)]
  refine wp_region_six0 (shs L) (look6 L) (None_) (by kernel_rfl) (by kernel_rfl) (mk_St L [] [] (by kernel_rfl) (by kernel_rfl) ⟨ok_V ⟨_, rfl⟩, ok_A, ok_T aggOf_congr, trivial⟩ (by simp)) ?_
  intro QQ hQ
  -- 0: load<31> *t3
  refine stepK rfl (by kernel_rfl) (fun K hK => ?_); go_simp
  apply Exists.intro; apply And.intro; (focus exact kLoad rfl rfl aggT31 r0 rfl id); refine hK _ _ ?_; clear hK K
  -- 1: load<31> *t4
  refine stepK rfl (by kernel_rfl) (fun K hK => ?_); go_simp
  apply Exists.intro; apply And.intro; (focus exact kLoad rfl rfl aggT31 r1 rfl id); refine hK _ _ ?_; clear hK K
  -- 2: load<31> *t5
  refine stepK rfl (by kernel_rfl) (fun K hK => ?_); go_simp
  apply Exists.intro; apply And.intro; (focus exact kLoad rfl rfl aggT31 r2 rfl id); refine hK _ _ ?_; clear hK K
  -- 3: call F111(t106, t107, t108)
  refine stepS _ rfl (by kernel_rfl) (fun K hK => ?_); go_simp
  refine ⟨?_, ?_⟩
  · intro wk hk hg hu; go_simp; refine upon_enter ((k8.out _).mono ?_); rintro e w' ⟨rfl, hb⟩; exact ⟨_, rfl, left_V (p := fun u => u = .tuple #[.agg (W4 g), .bool (go)]) rfl (hb) rfl⟩
  rintro ⟨v3, lo3, hi3⟩ - - (rfl : v3 = _)
  refine hK _ _ ?_; clear hK K
  -- 4: t109
  refine stepK rfl (by kernel_rfl) (fun K hK => ?_); go_simp
  apply Exists.intro; apply And.intro; (focus (intro wk hk; go_simp; exact ⟨rfl, rfl⟩)); refine hK _ _ ?_; clear hK K
  -- 5: extract t105 #0
  refine stepK rfl (by kernel_rfl) (fun K hK => ?_); go_simp
  apply Exists.intro; apply And.intro; (focus (intro wk hk; go_simp; exact ⟨rfl, rfl⟩)); refine hK _ _ ?_; clear hK K
  -- 6: extract t105 #1
  refine stepK rfl (by kernel_rfl) (fun K hK => ?_); go_simp
  apply Exists.intro; apply And.intro; (focus (intro wk hk; go_simp; exact ⟨rfl, rfl⟩)); refine hK _ _ ?_; clear hK K
  -- 7: alloc<31>
  refine stepS _ rfl (by kernel_rfl) (fun K hK => ?_); go_simp
  refine ⟨?_, ?_⟩
  · intro wk hk hg hu; go_simp; exact left_A rfl rfl
  rintro ⟨v7, lo11_7, hi7⟩ hlo7 hhi7 ⟨e7, f7⟩
  replace e7 : v7 = .pointer (some ⟨lo11_7, 0, none⟩) := e7; replace f7 : hi7 = lo11_7 + 1 := f7; replace hlo7 : _ ≤ lo11_7 := hlo7; subst e7; subst f7
  refine hK _ _ ?_; clear hK K
  -- 8: store<31> *t23 = t110
  refine stepS _ rfl (by kernel_rfl) (fun K hK => ?_); go_simp
  refine ⟨?_, ?_⟩
  · exact sStoreT rfl rfl rfl rfl rfl rfl rfl (by kernel_rfl) rfl (by kernel_rfl) (by decide) aggOf_congr
  rintro ⟨v8, lo8, hi8⟩ - - (rfl : v8 = undef)
  refine hK _ _ ?_; clear hK K
  -- 9: assign t111
  refine stepK rfl (by kernel_rfl) (fun K hK => ?_); go_simp
  apply Exists.intro; apply And.intro; (focus (intro wk hk; go_simp; exact ⟨rfl, rfl⟩)); refine hK _ _ ?_; clear hK K
  refine stepN ?_
  refine hQ _ _ ?_
  intro w10 hT hG hF
  have nr11r0 : w.heap.size < lo11_7 := Nat.lt_of_lt_of_le r0.lt hlo7
  have nr11r1 : w.heap.size + 1 < lo11_7 := Nat.lt_of_lt_of_le r1.lt hlo7
  have nr11r2 : w.heap.size + 1 + 1 < lo11_7 := Nat.lt_of_lt_of_le r2.lt hlo7
  have nr11r3 : lo1_6 < lo11_7 := Nat.lt_of_lt_of_le r3.lt hlo7
  have nr11r4 : lo2_6 < lo11_7 := Nat.lt_of_lt_of_le r4.lt hlo7
  have nr11r5 : lo3_6 < lo11_7 := Nat.lt_of_lt_of_le r5.lt hlo7
  have nr11r6 : lo4_6 < lo11_7 := Nat.lt_of_lt_of_le r6.lt hlo7
  have nr11r7 : lo5_6 < lo11_7 := Nat.lt_of_lt_of_le r7.lt hlo7
  have nr11r8 : lo6_6 < lo11_7 := Nat.lt_of_lt_of_le r8.lt hlo7
  have nr11r9 : lo9_7 < lo11_7 := Nat.lt_of_lt_of_le r9.lt hlo7
  have nr11r10 : lo10_7 < lo11_7 := Nat.lt_of_lt_of_le r10.lt hlo7
  have hbw10 := hT.below
  have r11 : Row w10 lo11_7 31 ((W4 g)) := (hF 8 _ rfl rfl (by decide)).2
  replace r0 := r0.below hbw10 r0.lt
  replace r1 := r1.below hbw10 r1.lt
  replace r2 := r2.below hbw10 r2.lt
  replace r3 := r3.below hbw10 r3.lt
  replace r4 := r4.below hbw10 r4.lt
  replace r5 := r5.below hbw10 r5.lt
  replace r6 := r6.below hbw10 r6.lt
  replace r7 := r7.below hbw10 r7.lt
  replace r8 := r8.below hbw10 r8.lt
  replace r9 := r9.below hbw10 r9.lt
  replace r10 := r10.below hbw10 r10.lt
  replace hl := hl.trans (hbw10.mono hl.size)
  clear hT hG hF hbw10 hQ QQ L hlo7 hhi7
  go_upto_region 12 with (fail)
  let L : List Sp := [sV 3 [] [] (fun u => u = .tuple #[.agg (W4 g), .bool (go)]), sA 7 31 [8] #[.int .u64 0, .int .u64 0, .int .u64 0, .int .u64 0], sT 8 7 31 [5] (fun g => aggOf g 5)]
  refine wp_region_six0 (shs L) (look6 L) (None_) (by kernel_rfl) (by kernel_rfl) (mk_St L [] [] (by kernel_rfl) (by kernel_rfl) ⟨ok_V ⟨_, rfl⟩, ok_A, ok_T aggOf_congr, trivial⟩ (by simp)) ?_
  intro QQ hQ
  -- 0: load<31> *t3
  refine stepK rfl (by kernel_rfl) (fun K hK => ?_); go_simp
  apply Exists.intro; apply And.intro; (focus exact kLoad rfl rfl aggT31 r0 rfl id); refine hK _ _ ?_; clear hK K
  -- 1: load<31> *t4
  refine stepK rfl (by kernel_rfl) (fun K hK => ?_); go_simp
  apply Exists.intro; apply And.intro; (focus exact kLoad rfl rfl aggT31 r1 rfl id); refine hK _ _ ?_; clear hK K
  -- 2: load<31> *t5
  refine stepK rfl (by kernel_rfl) (fun K hK => ?_); go_simp
  apply Exists.intro; apply And.intro; (focus exact kLoad rfl rfl aggT31 r2 rfl id); refine hK _ _ ?_; clear hK K
  -- 3: call F124(t113, t114, t115)
  refine stepS _ rfl (by kernel_rfl) (fun K hK => ?_); go_simp
  refine ⟨?_, ?_⟩
  · intro wk hk hg hu; go_simp; refine upon_enter ((k9.out _).mono ?_); rintro e w' ⟨rfl, hb⟩; exact ⟨_, rfl, left_V (p := fun u => u = .tuple #[.agg (W4 g), .bool (go)]) rfl (hb) rfl⟩
  rintro ⟨v3, lo3, hi3⟩ - - (rfl : v3 = _)
  refine hK _ _ ?_; clear hK K
  -- 4: t116
  refine stepK rfl (by kernel_rfl) (fun K hK => ?_); go_simp
  apply Exists.intro; apply And.intro; (focus (intro wk hk; go_simp; exact ⟨rfl, rfl⟩)); refine hK _ _ ?_; clear hK K
  -- 5: extract t112 #0
  refine stepK rfl (by kernel_rfl) (fun K hK => ?_); go_simp
  apply Exists.intro; apply And.intro; (focus (intro wk hk; go_simp; exact ⟨rfl, rfl⟩)); refine hK _ _ ?_; clear hK K
  -- 6: extract t112 #1
  refine stepK rfl (by kernel_rfl) (fun K hK => ?_); go_simp
  apply Exists.intro; apply And.intro; (focus (intro wk hk; go_simp; exact ⟨rfl, rfl⟩)); refine hK _ _ ?_; clear hK K
  -- 7: alloc<31>
  refine stepS _ rfl (by kernel_rfl) (fun K hK => ?_); go_simp
  refine ⟨?_, ?_⟩
  · intro wk hk hg hu; go_simp; exact left_A rfl rfl
  rintro ⟨v7, lo12_7, hi7⟩ hlo7 hhi7 ⟨e7, f7⟩
  replace e7 : v7 = .pointer (some ⟨lo12_7, 0, none⟩) := e7; replace f7 : hi7 = lo12_7 + 1 := f7; replace hlo7 : _ ≤ lo12_7 := hlo7; subst e7; subst f7
  refine hK _ _ ?_; clear hK K
  -- 8: store<31> *t25 = t117
  refine stepS _ rfl (by kernel_rfl) (fun K hK => ?_); go_simp
  refine ⟨?_, ?_⟩
  · exact sStoreT rfl rfl rfl rfl rfl rfl rfl (by kernel_rfl) rfl (by kernel_rfl) (by decide) aggOf_congr
  rintro ⟨v8, lo8, hi8⟩ - - (rfl : v8 = undef)
  refine hK _ _ ?_; clear hK K
  -- 9: assign t118
  refine stepK rfl (by kernel_rfl) (fun K hK => ?_); go_simp
  apply Exists.intro; apply And.intro; (focus (intro wk hk; go_simp; exact ⟨rfl, rfl⟩)); refine hK _ _ ?_; clear hK K
  refine stepN ?_
  refine hQ _ _ ?_
  intro w11 hT hG hF
  have nr12r0 : w.heap.size < lo12_7 := Nat.lt_of_lt_of_le r0.lt hlo7
  have nr12r1 : w.heap.size + 1 < lo12_7 := Nat.lt_of_lt_of_le r1.lt hlo7
  have nr12r2 : w.heap.size + 1 + 1 < lo12_7 := Nat.lt_of_lt_of_le r2.lt hlo7
  have nr12r3 : lo1_6 < lo12_7 := Nat.lt_of_lt_of_le r3.lt hlo7
  have nr12r4 : lo2_6 < lo12_7 := Nat.lt_of_lt_of_le r4.lt hlo7
  have nr12r5 : lo3_6 < lo12_7 := Nat.lt_of_lt_of_le r5.lt hlo7
  have nr12r6 : lo4_6 < lo12_7 := Nat.lt_of_lt_of_le r6.lt hlo7
  have nr12r7 : lo5_6 < lo12_7 := Nat.lt_of_lt_of_le r7.lt hlo7
  have nr12r8 : lo6_6 < lo12_7 := Nat.lt_of_lt_of_le r8.lt hlo7
  have nr12r9 : lo9_7 < lo12_7 := Nat.lt_of_lt_of_le r9.lt hlo7
  have nr12r10 : lo10_7 < lo12_7 := Nat.lt_of_lt_of_le r10.lt hlo7
  have nr12r11 : lo11_7 < lo12_7 := Nat.lt_of_lt_of_le r11.lt hlo7
  have hbw11 := hT.below
  have r12 : Row w11 lo12_7 31 ((W4 g)) := (hF 8 _ rfl rfl (by decide)).2
  replace r0 := r0.below hbw11 r0.lt
  replace r1 := r1.below hbw11 r1.lt
  replace r2 := r2.below hbw11 r2.lt
  replace r3 := r3.below hbw11 r3.lt
  replace r4 := r4.below hbw11 r4.lt
  replace r5 := r5.below hbw11 r5.lt
  replace r6 := r6.below hbw11 r6.lt
  replace r7 := r7.below hbw11 r7.lt
  replace r8 := r8.below hbw11 r8.lt
  replace r9 := r9.below hbw11 r9.lt
  replace r10 := r10.below hbw11 r10.lt
  replace r11 := r11.below hbw11 r11.lt
  replace hl := hl.trans (hbw11.mono hl.size)
  clear hT hG hF hbw11 hQ QQ L hlo7 hhi7
  go_upto_region 13 with (fail)
  let L : List Sp := [sV 20 [] [] (fun u => u = .bool (e1)), sV 22 [] [] (fun u => u = .bool (e1)), sV 27 [] [] (fun u => u = .bool (e2)), sV 29 [] [] (fun u => u = .bool (e2)), sV 33 [] [] (fun u => u = .agg (W4 E36)), sV 34 [] [] (fun u => u = .agg (W4 E36)), sV 38 [] [] (fun u => u = .agg (W4 M3)), sV 39 [] [] (fun u => u = .agg (W4 M3)), sV 43 [] [] (fun u => u = .bool true)]
  refine wp_region_six (shs L) (look6 L) (None_) (by kernel_rfl) (by kernel_rfl) (mk_St L [] [] (by kernel_rfl) (by kernel_rfl) ⟨ok_V ⟨_, rfl⟩, ok_V ⟨_, rfl⟩, ok_V ⟨_, rfl⟩, ok_V ⟨_, rfl⟩, ok_V ⟨_, rfl⟩, ok_V ⟨_, rfl⟩, ok_V ⟨_, rfl⟩, ok_V ⟨_, rfl⟩, ok_V ⟨_, rfl⟩, trivial⟩ (by simp)) ?_
  intro QQ hQ
  -- 0: load<31> *t19
  refine stepK rfl (by kernel_rfl) (fun K hK => ?_); go_simp
  apply Exists.intro; apply And.intro; (focus exact kLoad rfl rfl aggT31 r9 rfl id); refine hK _ _ ?_; clear hK K
  -- 1: load<31> *t21
  refine stepK rfl (by kernel_rfl) (fun K hK => ?_); go_simp
  apply Exists.intro; apply And.intro; (focus exact kLoad rfl rfl aggT31 r10 rfl id); refine hK _ _ ?_; clear hK K
  -- 2: eql<31> t119, t120
  refine stepK rfl (by kernel_rfl) (fun K hK => ?_); go_simp
  apply Exists.intro; apply And.intro; (focus (intro wk hk; go_simp; exact ⟨rfl, rfl⟩)); refine hK _ _ ?_; clear hK K
  -- 3: t121
  refine stepK rfl (by kernel_rfl) (fun K hK => ?_); go_simp
  apply Exists.intro; apply And.intro; (focus (intro wk hk; go_simp; exact ⟨rfl, rfl⟩)); refine hK _ _ ?_; clear hK K
  -- 4: t20
  refine stepK rfl (by kernel_rfl) (fun K hK => ?_); go_simp
  first | (refine hK _ _ ?_; clear hK K) | (apply Exists.intro; apply And.intro; (focus (intro wk hk; go_simp; exact ⟨rfl, rfl⟩)); refine hK _ _ ?_; clear hK K)
  -- 5: t22
  refine stepK rfl (by kernel_rfl) (fun K hK => ?_); go_simp
  first | (refine hK _ _ ?_; clear hK K) | (apply Exists.intro; apply And.intro; (focus (intro wk hk; go_simp; exact ⟨rfl, rfl⟩)); refine hK _ _ ?_; clear hK K)
  -- 6: eql<4> t123, t124
  refine stepK rfl (by kernel_rfl) (fun K hK => ?_); go_simp
  first | (refine hK _ _ ?_; clear hK K) | (apply Exists.intro; apply And.intro; (focus (intro wk hk; go_simp; exact ⟨rfl, rfl⟩)); refine hK _ _ ?_; clear hK K)
  -- 7: pick t122 ? t125 : false
  refine stepK rfl (by kernel_rfl) (fun K hK => ?_); go_simp
  apply Exists.intro; apply And.intro; (focus (intro wk hk; go_simp; exact ⟨rfl, rfl⟩)); refine hK _ _ ?_; clear hK K
  -- 8: t126
  refine stepK rfl (by kernel_rfl) (fun K hK => ?_); go_simp
  apply Exists.intro; apply And.intro; (focus (intro wk hk; go_simp; exact ⟨rfl, rfl⟩)); refine hK _ _ ?_; clear hK K
  -- 9: load<31> *t23
  refine stepK rfl (by kernel_rfl) (fun K hK => ?_); go_simp
  first | (refine hK _ _ ?_; clear hK K) | (apply Exists.intro; apply And.intro; (focus exact kLoad rfl rfl aggT31 r11 rfl id); refine hK _ _ ?_; clear hK K)
  -- 10: load<31> *t25
  refine stepK rfl (by kernel_rfl) (fun K hK => ?_); go_simp
  first | (refine hK _ _ ?_; clear hK K) | (apply Exists.intro; apply And.intro; (focus exact kLoad rfl rfl aggT31 r12 rfl id); refine hK _ _ ?_; clear hK K)
  -- 11: eql<31> t128, t129
  refine stepK rfl (by kernel_rfl) (fun K hK => ?_); go_simp
  first | (refine hK _ _ ?_; clear hK K) | (apply Exists.intro; apply And.intro; (focus (intro wk hk; go_simp; exact ⟨rfl, rfl⟩)); refine hK _ _ ?_; clear hK K)
  -- 12: pick t127 ? t130 : false
  refine stepK rfl (by kernel_rfl) (fun K hK => ?_); go_simp
  apply Exists.intro; apply And.intro; (focus (intro wk hk; go_simp; exact ⟨rfl, rfl⟩)); refine hK _ _ ?_; clear hK K
  -- 13: t131
  refine stepK rfl (by kernel_rfl) (fun K hK => ?_); go_simp
  apply Exists.intro; apply And.intro; (focus (intro wk hk; go_simp; exact ⟨rfl, rfl⟩)); refine hK _ _ ?_; clear hK K
  -- 14: t24
  refine stepK rfl (by kernel_rfl) (fun K hK => ?_); go_simp
  first | (refine hK _ _ ?_; clear hK K) | (apply Exists.intro; apply And.intro; (focus (intro wk hk; go_simp; exact ⟨rfl, rfl⟩)); refine hK _ _ ?_; clear hK K)
  -- 15: t26
  refine stepK rfl (by kernel_rfl) (fun K hK => ?_); go_simp
  first | (refine hK _ _ ?_; clear hK K) | (apply Exists.intro; apply And.intro; (focus (intro wk hk; go_simp; exact ⟨rfl, rfl⟩)); refine hK _ _ ?_; clear hK K)
  -- 16: eql<4> t133, t134
  refine stepK rfl (by kernel_rfl) (fun K hK => ?_); go_simp
  first | (refine hK _ _ ?_; clear hK K) | (apply Exists.intro; apply And.intro; (focus (intro wk hk; go_simp; exact ⟨rfl, rfl⟩)); refine hK _ _ ?_; clear hK K)
  -- 17: pick t132 ? t135 : false
  refine stepK rfl (by kernel_rfl) (fun K hK => ?_); go_simp
  apply Exists.intro; apply And.intro; (focus (intro wk hk; go_simp; exact ⟨rfl, rfl⟩)); refine hK _ _ ?_; clear hK K
  -- 18: t136
  refine stepK rfl (by kernel_rfl) (fun K hK => ?_); go_simp
  apply Exists.intro; apply And.intro; (focus (intro wk hk; go_simp; exact ⟨rfl, rfl⟩)); refine hK _ _ ?_; clear hK K
  -- 19: load<31> *t3
  refine stepK rfl (by kernel_rfl) (fun K hK => ?_); go_simp
  first | (refine hK _ _ ?_; clear hK K) | (apply Exists.intro; apply And.intro; (focus exact kLoad rfl rfl aggT31 r0 rfl id); refine hK _ _ ?_; clear hK K)
  -- 20: call F104(t138)
  refine stepS _ rfl (by kernel_rfl) (fun K hK => ?_); go_simp
  refine ⟨?_, ?_⟩
  · intro wk hk hg hu; go_simp; refine upon_enter ((k10.out _).mono ?_); rintro e w' ⟨rfl, hb⟩; exact ⟨_, rfl, left_V (p := fun u => u = .bool (e1)) rfl (hb) rfl⟩
  rintro ⟨v20, lo20, hi20⟩ - - (rfl : v20 = _)
  refine hK _ _ ?_; clear hK K
  -- 21: load<31> *t3
  refine stepK rfl (by kernel_rfl) (fun K hK => ?_); go_simp
  first | (refine hK _ _ ?_; clear hK K) | (apply Exists.intro; apply And.intro; (focus exact kLoad rfl rfl aggT31 r0 rfl id); refine hK _ _ ?_; clear hK K)
  -- 22: call F125(t140)
  refine stepS _ rfl (by kernel_rfl) (fun K hK => ?_); go_simp
  refine ⟨?_, ?_⟩
  · intro wk hk hg hu; go_simp; refine upon_enter ((k11.out _).mono ?_); rintro e w' ⟨rfl, hb⟩; exact ⟨_, rfl, left_V (p := fun u => u = .bool (e1)) rfl (hb) rfl⟩
  rintro ⟨v22, lo22, hi22⟩ - - (rfl : v22 = _)
  refine hK _ _ ?_; clear hK K
  -- 23: eql<4> t139, t141
  refine stepK rfl (by kernel_rfl) (fun K hK => ?_); go_simp
  first | (refine hK _ _ ?_; clear hK K) | (apply Exists.intro; apply And.intro; (focus (intro wk hk; go_simp; exact ⟨rfl, rfl⟩)); refine hK _ _ ?_; clear hK K)
  -- 24: pick t137 ? t142 : false
  refine stepK rfl (by kernel_rfl) (fun K hK => ?_); go_simp
  apply Exists.intro; apply And.intro; (focus (intro wk hk; go_simp; exact ⟨rfl, rfl⟩)); refine hK _ _ ?_; clear hK K
  -- 25: t143
  refine stepK rfl (by kernel_rfl) (fun K hK => ?_); go_simp
  apply Exists.intro; apply And.intro; (focus (intro wk hk; go_simp; exact ⟨rfl, rfl⟩)); refine hK _ _ ?_; clear hK K
  -- 26: load<31> *t3
  refine stepK rfl (by kernel_rfl) (fun K hK => ?_); go_simp
  first | (refine hK _ _ ?_; clear hK K) | (apply Exists.intro; apply And.intro; (focus exact kLoad rfl rfl aggT31 r0 rfl id); refine hK _ _ ?_; clear hK K)
  -- 27: call F105(t145)
  refine stepS _ rfl (by kernel_rfl) (fun K hK => ?_); go_simp
  refine ⟨?_, ?_⟩
  · intro wk hk hg hu; go_simp; refine upon_enter ((k12.out _).mono ?_); rintro e w' ⟨rfl, hb⟩; exact ⟨_, rfl, left_V (p := fun u => u = .bool (e2)) rfl (hb) rfl⟩
  rintro ⟨v27, lo27, hi27⟩ - - (rfl : v27 = _)
  refine hK _ _ ?_; clear hK K
  -- 28: load<31> *t3
  refine stepK rfl (by kernel_rfl) (fun K hK => ?_); go_simp
  first | (refine hK _ _ ?_; clear hK K) | (apply Exists.intro; apply And.intro; (focus exact kLoad rfl rfl aggT31 r0 rfl id); refine hK _ _ ?_; clear hK K)
  -- 29: call F126(t147)
  refine stepS _ rfl (by kernel_rfl) (fun K hK => ?_); go_simp
  refine ⟨?_, ?_⟩
  · intro wk hk hg hu; go_simp; refine upon_enter ((k13.out _).mono ?_); rintro e w' ⟨rfl, hb⟩; exact ⟨_, rfl, left_V (p := fun u => u = .bool (e2)) rfl (hb) rfl⟩
  rintro ⟨v29, lo29, hi29⟩ - - (rfl : v29 = _)
  refine hK _ _ ?_; clear hK K
  -- 30: eql<4> t146, t148
  refine stepK rfl (by kernel_rfl) (fun K hK => ?_); go_simp
  first | (refine hK _ _ ?_; clear hK K) | (apply Exists.intro; apply And.intro; (focus (intro wk hk; go_simp; exact ⟨rfl, rfl⟩)); refine hK _ _ ?_; clear hK K)
  -- 31: pick t144 ? t149 : false
  refine stepK rfl (by kernel_rfl) (fun K hK => ?_); go_simp
  apply Exists.intro; apply And.intro; (focus (intro wk hk; go_simp; exact ⟨rfl, rfl⟩)); refine hK _ _ ?_; clear hK K
  -- 32: t150
  refine stepK rfl (by kernel_rfl) (fun K hK => ?_); go_simp
  apply Exists.intro; apply And.intro; (focus (intro wk hk; go_simp; exact ⟨rfl, rfl⟩)); refine hK _ _ ?_; clear hK K
  -- 33: call F127()
  refine stepS _ rfl (by kernel_rfl) (fun K hK => ?_); go_simp
  refine ⟨?_, ?_⟩
  · intro wk hk hg hu; go_simp; refine upon_enter ((k14.out _).mono ?_); rintro e w' ⟨rfl, hb⟩; exact ⟨_, rfl, left_V (p := fun u => u = .agg (W4 E36)) rfl (hb) rfl⟩
  rintro ⟨v33, lo33, hi33⟩ - - (rfl : v33 = _)
  refine hK _ _ ?_; clear hK K
  -- 34: call F128()
  refine stepS _ rfl (by kernel_rfl) (fun K hK => ?_); go_simp
  refine ⟨?_, ?_⟩
  · intro wk hk hg hu; go_simp; refine upon_enter ((k15.out _).mono ?_); rintro e w' ⟨rfl, hb⟩; exact ⟨_, rfl, left_V (p := fun u => u = .agg (W4 E36)) rfl (hb) rfl⟩
  rintro ⟨v34, lo34, hi34⟩ - - (rfl : v34 = _)
  refine hK _ _ ?_; clear hK K
  -- 35: eql<31> t152, t153
  refine stepK rfl (by kernel_rfl) (fun K hK => ?_); go_simp
  first | (refine hK _ _ ?_; clear hK K) | (apply Exists.intro; apply And.intro; (focus (intro wk hk; go_simp; exact ⟨rfl, rfl⟩)); refine hK _ _ ?_; clear hK K)
  -- 36: pick t151 ? t154 : false
  refine stepK rfl (by kernel_rfl) (fun K hK => ?_); go_simp
  apply Exists.intro; apply And.intro; (focus (intro wk hk; go_simp; exact ⟨rfl, rfl⟩)); refine hK _ _ ?_; clear hK K
  -- 37: t155
  refine stepK rfl (by kernel_rfl) (fun K hK => ?_); go_simp
  apply Exists.intro; apply And.intro; (focus (intro wk hk; go_simp; exact ⟨rfl, rfl⟩)); refine hK _ _ ?_; clear hK K
  -- 38: call F129()
  refine stepS _ rfl (by kernel_rfl) (fun K hK => ?_); go_simp
  refine ⟨?_, ?_⟩
  · intro wk hk hg hu; go_simp; refine upon_enter ((k16.out _).mono ?_); rintro e w' ⟨rfl, hb⟩; exact ⟨_, rfl, left_V (p := fun u => u = .agg (W4 M3)) rfl (hb) rfl⟩
  rintro ⟨v38, lo38, hi38⟩ - - (rfl : v38 = _)
  refine hK _ _ ?_; clear hK K
  -- 39: call F130()
  refine stepS _ rfl (by kernel_rfl) (fun K hK => ?_); go_simp
  refine ⟨?_, ?_⟩
  · intro wk hk hg hu; go_simp; refine upon_enter ((k17.out _).mono ?_); rintro e w' ⟨rfl, hb⟩; exact ⟨_, rfl, left_V (p := fun u => u = .agg (W4 M3)) rfl (hb) rfl⟩
  rintro ⟨v39, lo39, hi39⟩ - - (rfl : v39 = _)
  refine hK _ _ ?_; clear hK K
  -- 40: eql<31> t157, t158
  refine stepK rfl (by kernel_rfl) (fun K hK => ?_); go_simp
  first | (refine hK _ _ ?_; clear hK K) | (apply Exists.intro; apply And.intro; (focus (intro wk hk; go_simp; exact ⟨rfl, rfl⟩)); refine hK _ _ ?_; clear hK K)
  -- 41: pick t156 ? t159 : false
  refine stepK rfl (by kernel_rfl) (fun K hK => ?_); go_simp
  apply Exists.intro; apply And.intro; (focus (intro wk hk; go_simp; exact ⟨rfl, rfl⟩)); refine hK _ _ ?_; clear hK K
  -- 42: t160
  refine stepK rfl (by kernel_rfl) (fun K hK => ?_); go_simp
  apply Exists.intro; apply And.intro; (focus (intro wk hk; go_simp; exact ⟨rfl, rfl⟩)); refine hK _ _ ?_; clear hK K
  -- 43: call F106()
  refine stepS _ rfl (by kernel_rfl) (fun K hK => ?_); go_simp
  refine ⟨?_, ?_⟩
  · intro wk hk hg hu; go_simp; refine upon_enter ((k18.out _).mono ?_); rintro e w' ⟨rfl, hb⟩; exact ⟨_, rfl, left_V (p := fun u => u = .bool true) rfl (hb) rfl⟩
  rintro ⟨v43, lo43, hi43⟩ - - (rfl : v43 = _)
  refine hK _ _ ?_; clear hK K
  -- 44: pick t161 ? t162 : false
  refine stepK rfl (by kernel_rfl) (fun K hK => ?_); go_simp
  apply Exists.intro; apply And.intro; (focus (intro wk hk; go_simp; exact ⟨rfl, rfl⟩)); refine hK _ _ ?_; clear hK K
  -- 45: assign t163
  refine stepK rfl (by kernel_rfl) (fun K hK => ?_); go_simp
  apply Exists.intro; apply And.intro; (focus (intro wk hk; go_simp; exact ⟨rfl, rfl⟩)); refine hK _ _ ?_; clear hK K
  refine stepN ?_
  refine hQ _ _ ?_
  intro w12 hT hG hF
  have hbw12 := hT.undrew.below
  replace r0 := r0.below hbw12 r0.lt
  replace r1 := r1.below hbw12 r1.lt
  replace r2 := r2.below hbw12 r2.lt
  replace r3 := r3.below hbw12 r3.lt
  replace r4 := r4.below hbw12 r4.lt
  replace r5 := r5.below hbw12 r5.lt
  replace r6 := r6.below hbw12 r6.lt
  replace r7 := r7.below hbw12 r7.lt
  replace r8 := r8.below hbw12 r8.lt
  replace r9 := r9.below hbw12 r9.lt
  replace r10 := r10.below hbw12 r10.lt
  replace r11 := r11.below hbw12 r11.lt
  replace r12 := r12.below hbw12 r12.lt
  replace hl := hl.trans (hbw12.mono hl.size)
  clear hT hG hF hbw12 hQ QQ L 
  go_wp2_with fail
  go_ret
  exact ⟨rfl, hl⟩
end Go.Proofs.Ytpdenhmkpiafiaa
