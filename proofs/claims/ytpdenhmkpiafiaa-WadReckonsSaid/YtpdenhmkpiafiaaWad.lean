/-
  Package wad: parts, ratios of amounts in fractions of 10^18; what is a fraction, and what an amount.
-/
import Derived.Test.YtpdenhmkpiafiaaMDown
namespace Go.Proofs.Ytpdenhmkpiafiaa
open Go Go.RowKit K6

def E18 : Nat := 1000000000000000000
theorem E18_lt : E18 < M := by unfold E18 M; omega
set_option maxRecDepth 100000 in
theorem oneU (w : World) : Calls Try.prog 107 #[] w (Ret w (.agg (W4 E18))) := by
  go_enter Try.func107, Try.ntmps107
  go_upto_region 1 with (fail)
  refine wp_abs (Mem w [(w.heap.size, 31, arr .u64 (fun _ => 0) 4)]) ⟨by go_grown, Row.new_at rfl, trivial⟩ ?_
  intro w0 hM
  obtain ⟨hl, rr, -⟩ := hM
  let L : List Sp := [sV 0 [] [] (fun u => u = .agg (W4 E18)), sO 1 (w.heap.size) 31 [0] (fun g => aggOf g 0)]
  refine wp_region_six0 (shs L) (look6 L) (fun c => c = w.heap.size) (by kernel_rfl) (by kernel_rfl) (mk_St L [1] [1] (by kernel_rfl) (by kernel_rfl) ⟨ok_V ⟨_, rfl⟩, ok_O aggOf_congr rr.lt (rfl), trivial⟩ (by simp)) ?_
  intro QQ hQ
  -- 0: call F103(1000000000000000000u)
  refine stepS _ rfl (by kernel_rfl) (fun K hK => ?_); go_simp
  refine ⟨?_, ?_⟩
  · intro wk hk hg hu; go_simp; refine upon_enter ((ofU E18 (by unfold E18; omega) _).mono ?_); rintro e w' ⟨rfl, hb⟩; exact ⟨_, rfl, left_V (p := fun u => u = .agg (W4 E18)) rfl (hb) rfl⟩
  rintro ⟨v0, lo0, hi0⟩ - - (rfl : v0 = _)
  refine hK _ _ ?_; clear hK K
  -- 1: store<31> *t0 = t1
  refine stepS _ rfl (by kernel_rfl) (fun K hK => ?_); go_simp
  refine ⟨?_, ?_⟩
  · exact sStoreO rfl rfl rfl rfl rfl rfl rr id (by kernel_rfl) rfl (by kernel_rfl) (by decide) aggOf_congr
  rintro ⟨v1, lo1, hi1⟩ - - (rfl : v1 = undef)
  refine hK _ _ ?_; clear hK K
  refine stepN ?_
  refine hQ _ _ ?_
  intro w9 hT hG hF
  have hT' := hT
  have x2 : Row w9 (w.heap.size) 31 (W4 E18) := hF 1 _ rfl rfl (by decide)
  have hl9 : Below w.heap.size w w9 := hl.trans (hT'.below_of hl.size (by intro c hc; omega))
  clear hT hT' hG hF hQ QQ L
  go_wp2_with fail
  refine bodyPost_ret (results_c rfl aggT31 rfl x2 rfl) rfl ?_
  exact ⟨rfl, hl9⟩
set_option maxRecDepth 100000 in
set_option maxHeartbeats 8000000 in
theorem partU {a f : Nat} (ha : a < M) (hf : f < M) (w : World) : Calls Try.prog 108 #[.agg (W4 a), .agg (W4 f)] w (Ret w (.tuple #[.agg (W4 (quoN (a * f) E18)), .bool (quoB (a * f) E18)])) := by
  go_enter Try.func108, Try.ntmps108
  apply wp_seq_eq
  focus
    intro J hJ
    go_wp2_with fail
    exact hJ
  refine wp_abs (Mem w [(w.heap.size, 31, W4 a), (w.heap.size + 1, 31, W4 f), (w.heap.size + 1 + 1, 31, arr .u64 (fun _ => 0) 4)]) ⟨by go_grown, ?_, ?_, ?_, trivial⟩ ?_
  · repeat (first | (refine Row.new_at ?_; simp; done) | refine Row.alloc ?_ _)
  · repeat (first | (refine Row.new_at ?_; simp; done) | refine Row.alloc ?_ _)
  · repeat (first | (refine Row.new_at ?_; simp; done) | refine Row.alloc ?_ _)
  intro w0 hM
  obtain ⟨hl, ra, rf, rr, -⟩ := hM
  go_upto_region 1 with (fail)
  let L : List Sp := [sV 2 [] [] (fun u => u = .agg (W4 E18)), sV 3 [] [] (fun u => u = .tuple #[.agg (W4 (quoN (a * f) E18)), .bool (quoB (a * f) E18)]), sO 6 (w.heap.size + 1 + 1) 31 [4] (fun g => aggOf g 4)]
  refine wp_region_six (shs L) (look6 L) (fun c => c = w.heap.size + 1 + 1) (by kernel_rfl) (by kernel_rfl) (mk_St L [6] [6] (by kernel_rfl) (by kernel_rfl) ⟨ok_V ⟨_, rfl⟩, ok_V ⟨_, rfl⟩, ok_O aggOf_congr rr.lt (rfl), trivial⟩ (by simp)) ?_
  intro QQ hQ
  -- 0: load<31> *t2
  refine stepK rfl (by kernel_rfl) (fun K hK => ?_); go_simp
  apply Exists.intro; apply And.intro; (focus exact kLoad rfl rfl aggT31 ra rfl id); refine hK _ _ ?_; clear hK K
  -- 1: load<31> *t3
  refine stepK rfl (by kernel_rfl) (fun K hK => ?_); go_simp
  apply Exists.intro; apply And.intro; (focus exact kLoad rfl rfl aggT31 rf rfl id); refine hK _ _ ?_; clear hK K
  -- 2: call F107()
  refine stepS _ rfl (by kernel_rfl) (fun K hK => ?_); go_simp
  refine ⟨?_, ?_⟩
  · intro wk hk hg hu; go_simp; refine upon_enter ((oneU _).mono ?_); rintro e w' ⟨rfl, hb⟩; exact ⟨_, rfl, left_V (p := fun u => u = .agg (W4 E18)) rfl (hb) rfl⟩
  rintro ⟨v2, lo2, hi2⟩ - - (rfl : v2 = _)
  refine hK _ _ ?_; clear hK K
  -- 3: call F85(t6, t7, t8)
  refine stepS _ rfl (by kernel_rfl) (fun K hK => ?_); go_simp
  refine ⟨?_, ?_⟩
  · intro wk hk hg hu; go_simp; refine upon_enter ((downU ha hf E18_lt _).mono ?_); rintro e w' ⟨rfl, hb⟩; exact ⟨_, rfl, left_V (p := fun u => u = .tuple #[.agg (W4 (quoN (a * f) E18)), .bool (quoB (a * f) E18)]) rfl (hb) rfl⟩
  rintro ⟨v3, lo3, hi3⟩ - - (rfl : v3 = _)
  refine hK _ _ ?_; clear hK K
  -- 4: extract t9 #0
  refine stepK rfl (by kernel_rfl) (fun K hK => ?_); go_simp
  apply Exists.intro; apply And.intro; (focus (intro wk hk; go_simp; exact ⟨rfl, rfl⟩)); refine hK _ _ ?_; clear hK K
  -- 5: extract t9 #1
  refine stepK rfl (by kernel_rfl) (fun K hK => ?_); go_simp
  apply Exists.intro; apply And.intro; (focus (intro wk hk; go_simp; exact ⟨rfl, rfl⟩)); refine hK _ _ ?_; clear hK K
  -- 6: store<31> *t4 = t10
  refine stepS _ rfl (by kernel_rfl) (fun K hK => ?_); go_simp
  refine ⟨?_, ?_⟩
  · exact sStoreO rfl rfl rfl rfl rfl rfl rr id (by kernel_rfl) rfl (by kernel_rfl) (by decide) aggOf_congr
  rintro ⟨v6, lo6, hi6⟩ - - (rfl : v6 = undef)
  refine hK _ _ ?_; clear hK K
  -- 7: assign t11
  refine stepKz rfl (fun K hK => ?_); go_simp
  apply Exists.intro; apply And.intro; (focus (intro wk hk; go_simp; exact ⟨rfl, rfl⟩)); refine hK _ _ ?_; clear hK K
  refine stepN ?_
  refine hQ _ _ ?_
  intro w9 hT hG hF
  have hT' := hT.undrew
  have x2 : Row w9 (w.heap.size + 1 + 1) 31 (W4 (quoN (a * f) E18)) := hF 6 _ rfl rfl (by decide)
  have hl9 : Below w.heap.size w w9 := hl.trans (hT'.below_of hl.size (by intro c hc; omega))
  clear hT hT' hG hF hQ QQ L
  go_wp2_with fail
  refine bodyPost_ret (results_ct rfl aggT31 rfl x2 rfl) rfl ?_
  exact ⟨rfl, hl9⟩
set_option maxRecDepth 100000 in
set_option maxHeartbeats 8000000 in
theorem partUpU {a f : Nat} (ha : a < M) (hf : f < M) (w : World) : Calls Try.prog 109 #[.agg (W4 a), .agg (W4 f)] w (Ret w (.tuple #[.agg (W4 (upN (a * f) E18)), .bool (upB (a * f) E18)])) := by
  go_enter Try.func109, Try.ntmps109
  apply wp_seq_eq
  focus
    intro J hJ
    go_wp2_with fail
    exact hJ
  refine wp_abs (Mem w [(w.heap.size, 31, W4 a), (w.heap.size + 1, 31, W4 f), (w.heap.size + 1 + 1, 31, arr .u64 (fun _ => 0) 4)]) ⟨by go_grown, ?_, ?_, ?_, trivial⟩ ?_
  · repeat (first | (refine Row.new_at ?_; simp; done) | refine Row.alloc ?_ _)
  · repeat (first | (refine Row.new_at ?_; simp; done) | refine Row.alloc ?_ _)
  · repeat (first | (refine Row.new_at ?_; simp; done) | refine Row.alloc ?_ _)
  intro w0 hM
  obtain ⟨hl, ra, rf, rr, -⟩ := hM
  go_upto_region 1 with (fail)
  let L : List Sp := [sV 2 [] [] (fun u => u = .agg (W4 E18)), sV 3 [] [] (fun u => u = .tuple #[.agg (W4 (upN (a * f) E18)), .bool (upB (a * f) E18)]), sO 6 (w.heap.size + 1 + 1) 31 [4] (fun g => aggOf g 4)]
  refine wp_region_six (shs L) (look6 L) (fun c => c = w.heap.size + 1 + 1) (by kernel_rfl) (by kernel_rfl) (mk_St L [6] [6] (by kernel_rfl) (by kernel_rfl) ⟨ok_V ⟨_, rfl⟩, ok_V ⟨_, rfl⟩, ok_O aggOf_congr rr.lt (rfl), trivial⟩ (by simp)) ?_
  intro QQ hQ
  -- 0: load<31> *t2
  refine stepK rfl (by kernel_rfl) (fun K hK => ?_); go_simp
  apply Exists.intro; apply And.intro; (focus exact kLoad rfl rfl aggT31 ra rfl id); refine hK _ _ ?_; clear hK K
  -- 1: load<31> *t3
  refine stepK rfl (by kernel_rfl) (fun K hK => ?_); go_simp
  apply Exists.intro; apply And.intro; (focus exact kLoad rfl rfl aggT31 rf rfl id); refine hK _ _ ?_; clear hK K
  -- 2: call F107()
  refine stepS _ rfl (by kernel_rfl) (fun K hK => ?_); go_simp
  refine ⟨?_, ?_⟩
  · intro wk hk hg hu; go_simp; refine upon_enter ((oneU _).mono ?_); rintro e w' ⟨rfl, hb⟩; exact ⟨_, rfl, left_V (p := fun u => u = .agg (W4 E18)) rfl (hb) rfl⟩
  rintro ⟨v2, lo2, hi2⟩ - - (rfl : v2 = _)
  refine hK _ _ ?_; clear hK K
  -- 3: call F87(t6, t7, t8)
  refine stepS _ rfl (by kernel_rfl) (fun K hK => ?_); go_simp
  refine ⟨?_, ?_⟩
  · intro wk hk hg hu; go_simp; refine upon_enter ((upU ha hf E18_lt _).mono ?_); rintro e w' ⟨rfl, hb⟩; exact ⟨_, rfl, left_V (p := fun u => u = .tuple #[.agg (W4 (upN (a * f) E18)), .bool (upB (a * f) E18)]) rfl (hb) rfl⟩
  rintro ⟨v3, lo3, hi3⟩ - - (rfl : v3 = _)
  refine hK _ _ ?_; clear hK K
  -- 4: extract t9 #0
  refine stepK rfl (by kernel_rfl) (fun K hK => ?_); go_simp
  apply Exists.intro; apply And.intro; (focus (intro wk hk; go_simp; exact ⟨rfl, rfl⟩)); refine hK _ _ ?_; clear hK K
  -- 5: extract t9 #1
  refine stepK rfl (by kernel_rfl) (fun K hK => ?_); go_simp
  apply Exists.intro; apply And.intro; (focus (intro wk hk; go_simp; exact ⟨rfl, rfl⟩)); refine hK _ _ ?_; clear hK K
  -- 6: store<31> *t4 = t10
  refine stepS _ rfl (by kernel_rfl) (fun K hK => ?_); go_simp
  refine ⟨?_, ?_⟩
  · exact sStoreO rfl rfl rfl rfl rfl rfl rr id (by kernel_rfl) rfl (by kernel_rfl) (by decide) aggOf_congr
  rintro ⟨v6, lo6, hi6⟩ - - (rfl : v6 = undef)
  refine hK _ _ ?_; clear hK K
  -- 7: assign t11
  refine stepKz rfl (fun K hK => ?_); go_simp
  apply Exists.intro; apply And.intro; (focus (intro wk hk; go_simp; exact ⟨rfl, rfl⟩)); refine hK _ _ ?_; clear hK K
  refine stepN ?_
  refine hQ _ _ ?_
  intro w9 hT hG hF
  have hT' := hT.undrew
  have x2 : Row w9 (w.heap.size + 1 + 1) 31 (W4 (upN (a * f) E18)) := hF 6 _ rfl rfl (by decide)
  have hl9 : Below w.heap.size w w9 := hl.trans (hT'.below_of hl.size (by intro c hc; omega))
  clear hT hT' hG hF hQ QQ L
  go_wp2_with fail
  refine bodyPost_ret (results_ct rfl aggT31 rfl x2 rfl) rfl ?_
  exact ⟨rfl, hl9⟩
set_option maxRecDepth 100000 in
set_option maxHeartbeats 8000000 in
theorem ratioU {a b : Nat} (ha : a < M) (hb : b < M) (w : World) : Calls Try.prog 121 #[.agg (W4 a), .agg (W4 b)] w (Ret w (.tuple #[.agg (W4 (quoN (a * E18) b)), .bool (quoB (a * E18) b)])) := by
  go_enter Try.func121, Try.ntmps121
  apply wp_seq_eq
  focus
    intro J hJ
    go_wp2_with fail
    exact hJ
  refine wp_abs (Mem w [(w.heap.size, 31, W4 a), (w.heap.size + 1, 31, W4 b), (w.heap.size + 1 + 1, 31, arr .u64 (fun _ => 0) 4)]) ⟨by go_grown, ?_, ?_, ?_, trivial⟩ ?_
  · repeat (first | (refine Row.new_at ?_; simp; done) | refine Row.alloc ?_ _)
  · repeat (first | (refine Row.new_at ?_; simp; done) | refine Row.alloc ?_ _)
  · repeat (first | (refine Row.new_at ?_; simp; done) | refine Row.alloc ?_ _)
  intro w0 hM
  obtain ⟨hl, ra, rb, rr, -⟩ := hM
  go_upto_region 1 with (fail)
  let L : List Sp := [sV 1 [] [] (fun u => u = .agg (W4 E18)), sV 3 [] [] (fun u => u = .tuple #[.agg (W4 (quoN (a * E18) b)), .bool (quoB (a * E18) b)]), sO 6 (w.heap.size + 1 + 1) 31 [4] (fun g => aggOf g 4)]
  refine wp_region_six (shs L) (look6 L) (fun c => c = w.heap.size + 1 + 1) (by kernel_rfl) (by kernel_rfl) (mk_St L [6] [6] (by kernel_rfl) (by kernel_rfl) ⟨ok_V ⟨_, rfl⟩, ok_V ⟨_, rfl⟩, ok_O aggOf_congr rr.lt (rfl), trivial⟩ (by simp)) ?_
  intro QQ hQ
  -- 0: load<31> *t2
  refine stepK rfl (by kernel_rfl) (fun K hK => ?_); go_simp
  apply Exists.intro; apply And.intro; (focus exact kLoad rfl rfl aggT31 ra rfl id); refine hK _ _ ?_; clear hK K
  -- 1: call F107()
  refine stepS _ rfl (by kernel_rfl) (fun K hK => ?_); go_simp
  refine ⟨?_, ?_⟩
  · intro wk hk hg hu; go_simp; refine upon_enter ((oneU _).mono ?_); rintro e w' ⟨rfl, hb⟩; exact ⟨_, rfl, left_V (p := fun u => u = .agg (W4 E18)) rfl (hb) rfl⟩
  rintro ⟨v1, lo1, hi1⟩ - - (rfl : v1 = _)
  refine hK _ _ ?_; clear hK K
  -- 2: load<31> *t3
  refine stepK rfl (by kernel_rfl) (fun K hK => ?_); go_simp
  apply Exists.intro; apply And.intro; (focus exact kLoad rfl rfl aggT31 rb rfl id); refine hK _ _ ?_; clear hK K
  -- 3: call F85(t6, t7, t8)
  refine stepS _ rfl (by kernel_rfl) (fun K hK => ?_); go_simp
  refine ⟨?_, ?_⟩
  · intro wk hk hg hu; go_simp; refine upon_enter ((downU ha E18_lt hb _).mono ?_); rintro e w' ⟨rfl, hb⟩; exact ⟨_, rfl, left_V (p := fun u => u = .tuple #[.agg (W4 (quoN (a * E18) b)), .bool (quoB (a * E18) b)]) rfl (hb) rfl⟩
  rintro ⟨v3, lo3, hi3⟩ - - (rfl : v3 = _)
  refine hK _ _ ?_; clear hK K
  -- 4: extract t9 #0
  refine stepK rfl (by kernel_rfl) (fun K hK => ?_); go_simp
  apply Exists.intro; apply And.intro; (focus (intro wk hk; go_simp; exact ⟨rfl, rfl⟩)); refine hK _ _ ?_; clear hK K
  -- 5: extract t9 #1
  refine stepK rfl (by kernel_rfl) (fun K hK => ?_); go_simp
  apply Exists.intro; apply And.intro; (focus (intro wk hk; go_simp; exact ⟨rfl, rfl⟩)); refine hK _ _ ?_; clear hK K
  -- 6: store<31> *t4 = t10
  refine stepS _ rfl (by kernel_rfl) (fun K hK => ?_); go_simp
  refine ⟨?_, ?_⟩
  · exact sStoreO rfl rfl rfl rfl rfl rfl rr id (by kernel_rfl) rfl (by kernel_rfl) (by decide) aggOf_congr
  rintro ⟨v6, lo6, hi6⟩ - - (rfl : v6 = undef)
  refine hK _ _ ?_; clear hK K
  -- 7: assign t11
  refine stepKz rfl (fun K hK => ?_); go_simp
  apply Exists.intro; apply And.intro; (focus (intro wk hk; go_simp; exact ⟨rfl, rfl⟩)); refine hK _ _ ?_; clear hK K
  refine stepN ?_
  refine hQ _ _ ?_
  intro w9 hT hG hF
  have hT' := hT.undrew
  have x2 : Row w9 (w.heap.size + 1 + 1) 31 (W4 (quoN (a * E18) b)) := hF 6 _ rfl rfl (by decide)
  have hl9 : Below w.heap.size w w9 := hl.trans (hT'.below_of hl.size (by intro c hc; omega))
  clear hT hT' hG hF hQ QQ L
  go_wp2_with fail
  refine bodyPost_ret (results_ct rfl aggT31 rfl x2 rfl) rfl ?_
  exact ⟨rfl, hl9⟩
set_option maxRecDepth 100000 in
set_option maxHeartbeats 4000000 in
theorem goodU {f : Nat} (hf : f < M) (w : World) : Calls Try.prog 104 #[.agg (W4 f)] w (Ret w (.bool (decide (f ≤ E18)))) := by
  have hc : decide (cmpN f E18 ≤ 0) = decide (f ≤ E18) := by unfold cmpN; (repeat' split) <;> simp <;> omega
  go_enter Try.func104, Try.ntmps104
  apply wp_seq_eq
  focus
    intro J hJ
    go_wp2_with fail
    exact hJ
  refine wp_abs (Mem w [(w.heap.size, 31, W4 f)]) ⟨by go_grown, ?_, trivial⟩ ?_
  · repeat (first | (refine Row.new_at ?_; simp; done) | refine Row.alloc ?_ _)
  intro w0 hM
  obtain ⟨hl, rf, -⟩ := hM
  go_upto_region 1 with (fail)
  let L : List Sp := [sV 1 [] [] (fun u => u = .agg (W4 E18)), sV 2 [] [] (fun u => u = .int .i64 (cmpN f E18))]
  refine wp_region_six (shs L) (look6 L) (None_) (by kernel_rfl) (by kernel_rfl) (mk_St L [] [] (by kernel_rfl) (by kernel_rfl) ⟨ok_V ⟨_, rfl⟩, ok_V ⟨_, rfl⟩, trivial⟩ (by simp)) ?_
  intro QQ hQ
  -- 0: load<31> *t1
  refine stepK rfl (by kernel_rfl) (fun K hK => ?_); go_simp
  apply Exists.intro; apply And.intro; (focus exact kLoad rfl rfl aggT31 rf rfl id); refine hK _ _ ?_; clear hK K
  -- 1: call F107()
  refine stepS _ rfl (by kernel_rfl) (fun K hK => ?_); go_simp
  refine ⟨?_, ?_⟩
  · intro wk hk hg hu; go_simp; refine upon_enter ((oneU _).mono ?_); rintro e w' ⟨rfl, hb⟩; exact ⟨_, rfl, left_V (p := fun u => u = .agg (W4 E18)) rfl (hb) rfl⟩
  rintro ⟨v1, lo1, hi1⟩ - - (rfl : v1 = _)
  refine hK _ _ ?_; clear hK K
  -- 2: call F48(t3, t4)
  refine stepS _ rfl (by kernel_rfl) (fun K hK => ?_); go_simp
  refine ⟨?_, ?_⟩
  · intro wk hk hg hu; go_simp; refine upon_enter ((cmpU hf E18_lt _).mono ?_); rintro e w' ⟨rfl, hb⟩; exact ⟨_, rfl, left_V (p := fun u => u = .int .i64 (cmpN f E18)) rfl (hb) rfl⟩
  rintro ⟨v2, lo2, hi2⟩ - - (rfl : v2 = _)
  refine hK _ _ ?_; clear hK K
  -- 3: leq<3> t5, 0
  refine stepK rfl (by kernel_rfl) (fun K hK => ?_); go_simp
  apply Exists.intro; apply And.intro; (focus (intro wk hk; go_simp; exact ⟨rfl, rfl⟩)); refine hK _ _ ?_; clear hK K
  -- 4: assign t6
  refine stepK rfl (by kernel_rfl) (fun K hK => ?_); go_simp
  apply Exists.intro; apply And.intro; (focus (intro wk hk; go_simp; exact ⟨rfl, rfl⟩)); refine hK _ _ ?_; clear hK K
  refine stepN ?_
  refine hQ _ _ ?_
  intro w1 hT hG hF
  have hbw1 := hT.undrew.below
  replace hl := hl.trans (hbw1.mono hl.size)
  clear hT hG hF hbw1 hQ QQ L 
  go_wp2_with fail
  go_ret
  exact ⟨rfl, hl⟩
end Go.Proofs.Ytpdenhmkpiafiaa
