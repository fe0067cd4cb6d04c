/-
  tx.Of (131), Name (132), within (207; the reference's: 242).
-/
import Derived.Test.YtpdenhmkpiafiaaGE
import Derived.Test.YtpdenhmkpiafiaaRefOf
namespace Go.Proofs.Ytpdenhmkpiafiaa
open Go Go.RowKit K6

/-- what a kind has -/
structure Shp where
  n : Int
  t : Bool
  a : Int
  e : Bool
  h : Int
  c : Bool
def Shp.cs (s : Shp) : Array Value := #[.int .i64 s.n, .bool s.t, .int .i64 s.a, .bool s.e, .int .i64 s.h, .bool s.c]
def shpL : List Shp := [⟨2, false, 1, false, 0, false⟩, ⟨1, false, 0, false, 0, false⟩, ⟨1, false, 0, false, 0, false⟩, ⟨2, false, 0, false, 0, false⟩, ⟨2, false, 1, false, 0, false⟩, ⟨1, false, 1, false, 0, false⟩, ⟨1, false, 1, false, 0, false⟩, ⟨1, false, 0, false, 0, false⟩, ⟨1, false, 0, false, 0, false⟩, ⟨1, false, 0, false, 0, false⟩, ⟨1, false, 0, false, 0, false⟩, ⟨1, false, 1, false, 0, false⟩, ⟨2, false, 0, false, 0, false⟩, ⟨1, false, 0, false, 0, false⟩, ⟨0, false, 0, false, 0, false⟩, ⟨0, true, 0, false, 0, false⟩, ⟨2, false, 0, false, 0, false⟩, ⟨2, false, 0, false, 0, false⟩, ⟨2, false, 0, false, 0, false⟩, ⟨3, false, 0, false, 0, false⟩, ⟨3, false, 1, false, 0, false⟩, ⟨2, true, 0, true, 0, false⟩, ⟨1, false, 1, false, 0, false⟩, ⟨0, false, 0, false, 1, false⟩, ⟨1, false, 0, false, 0, false⟩, ⟨1, false, 0, false, 0, false⟩, ⟨0, false, 0, false, 0, true⟩, ⟨2, false, 0, false, 0, false⟩]
def shpZ : Shp := ⟨0, false, 0, false, 0, false⟩
def shpOf (k : Int) : Shp := if 1 ≤ k ∧ k ≤ 28 then shpL.getD (k - 1).toNat shpZ else shpZ
def okK (k : Int) : Bool := decide (1 ≤ k) && decide (k ≤ 28)
def OfP (w : World) (k : Int) (r : Ending) (w' : World) : Prop := r = .returned (.tuple #[.agg (shpOf k).cs, .bool (okK k)]) ∧ Below w.heap.size w w'
theorem aggT107 : AggT Try.prog 107 6 := ⟨⟨_, Try.underlying107, rfl⟩, by kernel_rfl⟩
set_option maxRecDepth 100000 in
set_option maxHeartbeats 4000000 in
theorem of_1 (w : World) : Calls Try.prog 131 #[.int .i64 1] w (OfP w 1) := by
  go_enter Try.func131, Try.ntmps131
  go_upto_region 4 with (fail)
  refine wp_abs (Mem w [(w.heap.size, 107, #[.int .i64 0, .bool false, .int .i64 0, .bool false, .int .i64 0, .bool false])]) ⟨by go_grown, by (repeat (first | (refine Row.new_at ?_; simp; done) | refine Row.alloc ?_ _)), trivial⟩ ?_
  intro w0 hM
  obtain ⟨hl, r0, -⟩ := hM
  let L : List Sp := [sO 1 (w.heap.size) 107 [0] (fun g => aggOf g 0)]
  refine wp_region_six0 (shs L) (look6 L) (fun c => c = w.heap.size) (by kernel_rfl) (by kernel_rfl) (mk_St L [1] [1] (by kernel_rfl) (by kernel_rfl) ⟨ok_O aggOf_congr r0.lt (rfl), trivial⟩ (by simp)) ?_
  intro QQ hQ
  -- 0: build<107> 0:2, 2:1
  refine stepK rfl (by kernel_rfl) (fun K hK => ?_); go_simp
  apply Exists.intro; apply And.intro; (focus (intro wk hk; go_simp; exact ⟨rfl, rfl⟩)); refine hK _ _ ?_; clear hK K
  -- 1: store<107> *t2 = t8
  refine stepS _ rfl (by kernel_rfl) (fun K hK => ?_); go_simp
  refine ⟨?_, ?_⟩
  · exact sStoreO rfl rfl rfl rfl rfl rfl r0 id (by kernel_rfl) rfl (by kernel_rfl) (by decide) aggOf_congr
  rintro ⟨v1, lo1, hi1⟩ - - (rfl : v1 = undef)
  refine hK _ _ ?_; clear hK K
  -- 2: assign true
  refine stepKz rfl (fun K hK => ?_); go_simp
  apply Exists.intro; apply And.intro; (focus (intro wk hk; go_simp; exact ⟨rfl, rfl⟩)); refine hK _ _ ?_; clear hK K
  refine stepN ?_
  refine hQ _ _ ?_
  intro w9 hT hG hF
  have x0 : Row w9 w.heap.size 107 (#[.int .i64 2, .bool false, .int .i64 1, .bool false, .int .i64 0, .bool false]) := hF 1 _ rfl rfl (by decide)
  have hl9 := Lib.hid (hl.trans (hT.below_of hl.size (by intro c hc; have hc' : c = w.heap.size := hc; omega)))
  clear hT hG hF hQ QQ L hl r0
  go_wp2_with fail
  refine bodyPost_ret (results_ct rfl aggT107 rfl x0 rfl) rfl ?_
  exact ⟨by kernel_rfl, hl9.out⟩
set_option maxRecDepth 100000 in
set_option maxHeartbeats 4000000 in
theorem of_2 (w : World) : Calls Try.prog 131 #[.int .i64 2] w (OfP w 2) := by
  go_enter Try.func131, Try.ntmps131
  go_upto_region 14 with (fail)
  refine wp_abs (Mem w [(w.heap.size, 107, #[.int .i64 0, .bool false, .int .i64 0, .bool false, .int .i64 0, .bool false])]) ⟨by go_grown, by (repeat (first | (refine Row.new_at ?_; simp; done) | refine Row.alloc ?_ _)), trivial⟩ ?_
  intro w0 hM
  obtain ⟨hl, r0, -⟩ := hM
  let L : List Sp := [sO 1 (w.heap.size) 107 [0] (fun g => aggOf g 0)]
  refine wp_region_six0 (shs L) (look6 L) (fun c => c = w.heap.size) (by kernel_rfl) (by kernel_rfl) (mk_St L [1] [1] (by kernel_rfl) (by kernel_rfl) ⟨ok_O aggOf_congr r0.lt (rfl), trivial⟩ (by simp)) ?_
  intro QQ hQ
  -- 0: build<107> 0:1
  refine stepK rfl (by kernel_rfl) (fun K hK => ?_); go_simp
  apply Exists.intro; apply And.intro; (focus (intro wk hk; go_simp; exact ⟨rfl, rfl⟩)); refine hK _ _ ?_; clear hK K
  -- 1: store<107> *t2 = t19
  refine stepS _ rfl (by kernel_rfl) (fun K hK => ?_); go_simp
  refine ⟨?_, ?_⟩
  · exact sStoreO rfl rfl rfl rfl rfl rfl r0 id (by kernel_rfl) rfl (by kernel_rfl) (by decide) aggOf_congr
  rintro ⟨v1, lo1, hi1⟩ - - (rfl : v1 = undef)
  refine hK _ _ ?_; clear hK K
  -- 2: assign true
  refine stepKz rfl (fun K hK => ?_); go_simp
  apply Exists.intro; apply And.intro; (focus (intro wk hk; go_simp; exact ⟨rfl, rfl⟩)); refine hK _ _ ?_; clear hK K
  refine stepN ?_
  refine hQ _ _ ?_
  intro w9 hT hG hF
  have x0 : Row w9 w.heap.size 107 (#[.int .i64 1, .bool false, .int .i64 0, .bool false, .int .i64 0, .bool false]) := hF 1 _ rfl rfl (by decide)
  have hl9 := Lib.hid (hl.trans (hT.below_of hl.size (by intro c hc; have hc' : c = w.heap.size := hc; omega)))
  clear hT hG hF hQ QQ L hl r0
  go_wp2_with fail
  refine bodyPost_ret (results_ct rfl aggT107 rfl x0 rfl) rfl ?_
  exact ⟨by kernel_rfl, hl9.out⟩
set_option maxRecDepth 100000 in
set_option maxHeartbeats 4000000 in
theorem of_3 (w : World) : Calls Try.prog 131 #[.int .i64 3] w (OfP w 3) := by
  go_enter Try.func131, Try.ntmps131
  go_upto_region 14 with (fail)
  refine wp_abs (Mem w [(w.heap.size, 107, #[.int .i64 0, .bool false, .int .i64 0, .bool false, .int .i64 0, .bool false])]) ⟨by go_grown, by (repeat (first | (refine Row.new_at ?_; simp; done) | refine Row.alloc ?_ _)), trivial⟩ ?_
  intro w0 hM
  obtain ⟨hl, r0, -⟩ := hM
  let L : List Sp := [sO 1 (w.heap.size) 107 [0] (fun g => aggOf g 0)]
  refine wp_region_six0 (shs L) (look6 L) (fun c => c = w.heap.size) (by kernel_rfl) (by kernel_rfl) (mk_St L [1] [1] (by kernel_rfl) (by kernel_rfl) ⟨ok_O aggOf_congr r0.lt (rfl), trivial⟩ (by simp)) ?_
  intro QQ hQ
  -- 0: build<107> 0:1
  refine stepK rfl (by kernel_rfl) (fun K hK => ?_); go_simp
  apply Exists.intro; apply And.intro; (focus (intro wk hk; go_simp; exact ⟨rfl, rfl⟩)); refine hK _ _ ?_; clear hK K
  -- 1: store<107> *t2 = t19
  refine stepS _ rfl (by kernel_rfl) (fun K hK => ?_); go_simp
  refine ⟨?_, ?_⟩
  · exact sStoreO rfl rfl rfl rfl rfl rfl r0 id (by kernel_rfl) rfl (by kernel_rfl) (by decide) aggOf_congr
  rintro ⟨v1, lo1, hi1⟩ - - (rfl : v1 = undef)
  refine hK _ _ ?_; clear hK K
  -- 2: assign true
  refine stepKz rfl (fun K hK => ?_); go_simp
  apply Exists.intro; apply And.intro; (focus (intro wk hk; go_simp; exact ⟨rfl, rfl⟩)); refine hK _ _ ?_; clear hK K
  refine stepN ?_
  refine hQ _ _ ?_
  intro w9 hT hG hF
  have x0 : Row w9 w.heap.size 107 (#[.int .i64 1, .bool false, .int .i64 0, .bool false, .int .i64 0, .bool false]) := hF 1 _ rfl rfl (by decide)
  have hl9 := Lib.hid (hl.trans (hT.below_of hl.size (by intro c hc; have hc' : c = w.heap.size := hc; omega)))
  clear hT hG hF hQ QQ L hl r0
  go_wp2_with fail
  refine bodyPost_ret (results_ct rfl aggT107 rfl x0 rfl) rfl ?_
  exact ⟨by kernel_rfl, hl9.out⟩
set_option maxRecDepth 100000 in
set_option maxHeartbeats 4000000 in
theorem of_4 (w : World) : Calls Try.prog 131 #[.int .i64 4] w (OfP w 4) := by
  go_enter Try.func131, Try.ntmps131
  go_upto_region 21 with (fail)
  refine wp_abs (Mem w [(w.heap.size, 107, #[.int .i64 0, .bool false, .int .i64 0, .bool false, .int .i64 0, .bool false])]) ⟨by go_grown, by (repeat (first | (refine Row.new_at ?_; simp; done) | refine Row.alloc ?_ _)), trivial⟩ ?_
  intro w0 hM
  obtain ⟨hl, r0, -⟩ := hM
  let L : List Sp := [sO 1 (w.heap.size) 107 [0] (fun g => aggOf g 0)]
  refine wp_region_six0 (shs L) (look6 L) (fun c => c = w.heap.size) (by kernel_rfl) (by kernel_rfl) (mk_St L [1] [1] (by kernel_rfl) (by kernel_rfl) ⟨ok_O aggOf_congr r0.lt (rfl), trivial⟩ (by simp)) ?_
  intro QQ hQ
  -- 0: build<107> 0:2
  refine stepK rfl (by kernel_rfl) (fun K hK => ?_); go_simp
  apply Exists.intro; apply And.intro; (focus (intro wk hk; go_simp; exact ⟨rfl, rfl⟩)); refine hK _ _ ?_; clear hK K
  -- 1: store<107> *t2 = t27
  refine stepS _ rfl (by kernel_rfl) (fun K hK => ?_); go_simp
  refine ⟨?_, ?_⟩
  · exact sStoreO rfl rfl rfl rfl rfl rfl r0 id (by kernel_rfl) rfl (by kernel_rfl) (by decide) aggOf_congr
  rintro ⟨v1, lo1, hi1⟩ - - (rfl : v1 = undef)
  refine hK _ _ ?_; clear hK K
  -- 2: assign true
  refine stepKz rfl (fun K hK => ?_); go_simp
  apply Exists.intro; apply And.intro; (focus (intro wk hk; go_simp; exact ⟨rfl, rfl⟩)); refine hK _ _ ?_; clear hK K
  refine stepN ?_
  refine hQ _ _ ?_
  intro w9 hT hG hF
  have x0 : Row w9 w.heap.size 107 (#[.int .i64 2, .bool false, .int .i64 0, .bool false, .int .i64 0, .bool false]) := hF 1 _ rfl rfl (by decide)
  have hl9 := Lib.hid (hl.trans (hT.below_of hl.size (by intro c hc; have hc' : c = w.heap.size := hc; omega)))
  clear hT hG hF hQ QQ L hl r0
  go_wp2_with fail
  refine bodyPost_ret (results_ct rfl aggT107 rfl x0 rfl) rfl ?_
  exact ⟨by kernel_rfl, hl9.out⟩
set_option maxRecDepth 100000 in
set_option maxHeartbeats 4000000 in
theorem of_5 (w : World) : Calls Try.prog 131 #[.int .i64 5] w (OfP w 5) := by
  go_enter Try.func131, Try.ntmps131
  go_upto_region 4 with (fail)
  refine wp_abs (Mem w [(w.heap.size, 107, #[.int .i64 0, .bool false, .int .i64 0, .bool false, .int .i64 0, .bool false])]) ⟨by go_grown, by (repeat (first | (refine Row.new_at ?_; simp; done) | refine Row.alloc ?_ _)), trivial⟩ ?_
  intro w0 hM
  obtain ⟨hl, r0, -⟩ := hM
  let L : List Sp := [sO 1 (w.heap.size) 107 [0] (fun g => aggOf g 0)]
  refine wp_region_six0 (shs L) (look6 L) (fun c => c = w.heap.size) (by kernel_rfl) (by kernel_rfl) (mk_St L [1] [1] (by kernel_rfl) (by kernel_rfl) ⟨ok_O aggOf_congr r0.lt (rfl), trivial⟩ (by simp)) ?_
  intro QQ hQ
  -- 0: build<107> 0:2, 2:1
  refine stepK rfl (by kernel_rfl) (fun K hK => ?_); go_simp
  apply Exists.intro; apply And.intro; (focus (intro wk hk; go_simp; exact ⟨rfl, rfl⟩)); refine hK _ _ ?_; clear hK K
  -- 1: store<107> *t2 = t8
  refine stepS _ rfl (by kernel_rfl) (fun K hK => ?_); go_simp
  refine ⟨?_, ?_⟩
  · exact sStoreO rfl rfl rfl rfl rfl rfl r0 id (by kernel_rfl) rfl (by kernel_rfl) (by decide) aggOf_congr
  rintro ⟨v1, lo1, hi1⟩ - - (rfl : v1 = undef)
  refine hK _ _ ?_; clear hK K
  -- 2: assign true
  refine stepKz rfl (fun K hK => ?_); go_simp
  apply Exists.intro; apply And.intro; (focus (intro wk hk; go_simp; exact ⟨rfl, rfl⟩)); refine hK _ _ ?_; clear hK K
  refine stepN ?_
  refine hQ _ _ ?_
  intro w9 hT hG hF
  have x0 : Row w9 w.heap.size 107 (#[.int .i64 2, .bool false, .int .i64 1, .bool false, .int .i64 0, .bool false]) := hF 1 _ rfl rfl (by decide)
  have hl9 := Lib.hid (hl.trans (hT.below_of hl.size (by intro c hc; have hc' : c = w.heap.size := hc; omega)))
  clear hT hG hF hQ QQ L hl r0
  go_wp2_with fail
  refine bodyPost_ret (results_ct rfl aggT107 rfl x0 rfl) rfl ?_
  exact ⟨by kernel_rfl, hl9.out⟩
set_option maxRecDepth 100000 in
set_option maxHeartbeats 4000000 in
theorem of_6 (w : World) : Calls Try.prog 131 #[.int .i64 6] w (OfP w 6) := by
  go_enter Try.func131, Try.ntmps131
  go_upto_region 26 with (fail)
  refine wp_abs (Mem w [(w.heap.size, 107, #[.int .i64 0, .bool false, .int .i64 0, .bool false, .int .i64 0, .bool false])]) ⟨by go_grown, by (repeat (first | (refine Row.new_at ?_; simp; done) | refine Row.alloc ?_ _)), trivial⟩ ?_
  intro w0 hM
  obtain ⟨hl, r0, -⟩ := hM
  let L : List Sp := [sO 1 (w.heap.size) 107 [0] (fun g => aggOf g 0)]
  refine wp_region_six0 (shs L) (look6 L) (fun c => c = w.heap.size) (by kernel_rfl) (by kernel_rfl) (mk_St L [1] [1] (by kernel_rfl) (by kernel_rfl) ⟨ok_O aggOf_congr r0.lt (rfl), trivial⟩ (by simp)) ?_
  intro QQ hQ
  -- 0: build<107> 0:1, 2:1
  refine stepK rfl (by kernel_rfl) (fun K hK => ?_); go_simp
  apply Exists.intro; apply And.intro; (focus (intro wk hk; go_simp; exact ⟨rfl, rfl⟩)); refine hK _ _ ?_; clear hK K
  -- 1: store<107> *t2 = t33
  refine stepS _ rfl (by kernel_rfl) (fun K hK => ?_); go_simp
  refine ⟨?_, ?_⟩
  · exact sStoreO rfl rfl rfl rfl rfl rfl r0 id (by kernel_rfl) rfl (by kernel_rfl) (by decide) aggOf_congr
  rintro ⟨v1, lo1, hi1⟩ - - (rfl : v1 = undef)
  refine hK _ _ ?_; clear hK K
  -- 2: assign true
  refine stepKz rfl (fun K hK => ?_); go_simp
  apply Exists.intro; apply And.intro; (focus (intro wk hk; go_simp; exact ⟨rfl, rfl⟩)); refine hK _ _ ?_; clear hK K
  refine stepN ?_
  refine hQ _ _ ?_
  intro w9 hT hG hF
  have x0 : Row w9 w.heap.size 107 (#[.int .i64 1, .bool false, .int .i64 1, .bool false, .int .i64 0, .bool false]) := hF 1 _ rfl rfl (by decide)
  have hl9 := Lib.hid (hl.trans (hT.below_of hl.size (by intro c hc; have hc' : c = w.heap.size := hc; omega)))
  clear hT hG hF hQ QQ L hl r0
  go_wp2_with fail
  refine bodyPost_ret (results_ct rfl aggT107 rfl x0 rfl) rfl ?_
  exact ⟨by kernel_rfl, hl9.out⟩
set_option maxRecDepth 100000 in
set_option maxHeartbeats 4000000 in
theorem of_7 (w : World) : Calls Try.prog 131 #[.int .i64 7] w (OfP w 7) := by
  go_enter Try.func131, Try.ntmps131
  go_upto_region 26 with (fail)
  refine wp_abs (Mem w [(w.heap.size, 107, #[.int .i64 0, .bool false, .int .i64 0, .bool false, .int .i64 0, .bool false])]) ⟨by go_grown, by (repeat (first | (refine Row.new_at ?_; simp; done) | refine Row.alloc ?_ _)), trivial⟩ ?_
  intro w0 hM
  obtain ⟨hl, r0, -⟩ := hM
  let L : List Sp := [sO 1 (w.heap.size) 107 [0] (fun g => aggOf g 0)]
  refine wp_region_six0 (shs L) (look6 L) (fun c => c = w.heap.size) (by kernel_rfl) (by kernel_rfl) (mk_St L [1] [1] (by kernel_rfl) (by kernel_rfl) ⟨ok_O aggOf_congr r0.lt (rfl), trivial⟩ (by simp)) ?_
  intro QQ hQ
  -- 0: build<107> 0:1, 2:1
  refine stepK rfl (by kernel_rfl) (fun K hK => ?_); go_simp
  apply Exists.intro; apply And.intro; (focus (intro wk hk; go_simp; exact ⟨rfl, rfl⟩)); refine hK _ _ ?_; clear hK K
  -- 1: store<107> *t2 = t33
  refine stepS _ rfl (by kernel_rfl) (fun K hK => ?_); go_simp
  refine ⟨?_, ?_⟩
  · exact sStoreO rfl rfl rfl rfl rfl rfl r0 id (by kernel_rfl) rfl (by kernel_rfl) (by decide) aggOf_congr
  rintro ⟨v1, lo1, hi1⟩ - - (rfl : v1 = undef)
  refine hK _ _ ?_; clear hK K
  -- 2: assign true
  refine stepKz rfl (fun K hK => ?_); go_simp
  apply Exists.intro; apply And.intro; (focus (intro wk hk; go_simp; exact ⟨rfl, rfl⟩)); refine hK _ _ ?_; clear hK K
  refine stepN ?_
  refine hQ _ _ ?_
  intro w9 hT hG hF
  have x0 : Row w9 w.heap.size 107 (#[.int .i64 1, .bool false, .int .i64 1, .bool false, .int .i64 0, .bool false]) := hF 1 _ rfl rfl (by decide)
  have hl9 := Lib.hid (hl.trans (hT.below_of hl.size (by intro c hc; have hc' : c = w.heap.size := hc; omega)))
  clear hT hG hF hQ QQ L hl r0
  go_wp2_with fail
  refine bodyPost_ret (results_ct rfl aggT107 rfl x0 rfl) rfl ?_
  exact ⟨by kernel_rfl, hl9.out⟩
set_option maxRecDepth 100000 in
set_option maxHeartbeats 4000000 in
theorem of_8 (w : World) : Calls Try.prog 131 #[.int .i64 8] w (OfP w 8) := by
  go_enter Try.func131, Try.ntmps131
  go_upto_region 14 with (fail)
  refine wp_abs (Mem w [(w.heap.size, 107, #[.int .i64 0, .bool false, .int .i64 0, .bool false, .int .i64 0, .bool false])]) ⟨by go_grown, by (repeat (first | (refine Row.new_at ?_; simp; done) | refine Row.alloc ?_ _)), trivial⟩ ?_
  intro w0 hM
  obtain ⟨hl, r0, -⟩ := hM
  let L : List Sp := [sO 1 (w.heap.size) 107 [0] (fun g => aggOf g 0)]
  refine wp_region_six0 (shs L) (look6 L) (fun c => c = w.heap.size) (by kernel_rfl) (by kernel_rfl) (mk_St L [1] [1] (by kernel_rfl) (by kernel_rfl) ⟨ok_O aggOf_congr r0.lt (rfl), trivial⟩ (by simp)) ?_
  intro QQ hQ
  -- 0: build<107> 0:1
  refine stepK rfl (by kernel_rfl) (fun K hK => ?_); go_simp
  apply Exists.intro; apply And.intro; (focus (intro wk hk; go_simp; exact ⟨rfl, rfl⟩)); refine hK _ _ ?_; clear hK K
  -- 1: store<107> *t2 = t19
  refine stepS _ rfl (by kernel_rfl) (fun K hK => ?_); go_simp
  refine ⟨?_, ?_⟩
  · exact sStoreO rfl rfl rfl rfl rfl rfl r0 id (by kernel_rfl) rfl (by kernel_rfl) (by decide) aggOf_congr
  rintro ⟨v1, lo1, hi1⟩ - - (rfl : v1 = undef)
  refine hK _ _ ?_; clear hK K
  -- 2: assign true
  refine stepKz rfl (fun K hK => ?_); go_simp
  apply Exists.intro; apply And.intro; (focus (intro wk hk; go_simp; exact ⟨rfl, rfl⟩)); refine hK _ _ ?_; clear hK K
  refine stepN ?_
  refine hQ _ _ ?_
  intro w9 hT hG hF
  have x0 : Row w9 w.heap.size 107 (#[.int .i64 1, .bool false, .int .i64 0, .bool false, .int .i64 0, .bool false]) := hF 1 _ rfl rfl (by decide)
  have hl9 := Lib.hid (hl.trans (hT.below_of hl.size (by intro c hc; have hc' : c = w.heap.size := hc; omega)))
  clear hT hG hF hQ QQ L hl r0
  go_wp2_with fail
  refine bodyPost_ret (results_ct rfl aggT107 rfl x0 rfl) rfl ?_
  exact ⟨by kernel_rfl, hl9.out⟩
set_option maxRecDepth 100000 in
set_option maxHeartbeats 4000000 in
theorem of_9 (w : World) : Calls Try.prog 131 #[.int .i64 9] w (OfP w 9) := by
  go_enter Try.func131, Try.ntmps131
  go_upto_region 14 with (fail)
  refine wp_abs (Mem w [(w.heap.size, 107, #[.int .i64 0, .bool false, .int .i64 0, .bool false, .int .i64 0, .bool false])]) ⟨by go_grown, by (repeat (first | (refine Row.new_at ?_; simp; done) | refine Row.alloc ?_ _)), trivial⟩ ?_
  intro w0 hM
  obtain ⟨hl, r0, -⟩ := hM
  let L : List Sp := [sO 1 (w.heap.size) 107 [0] (fun g => aggOf g 0)]
  refine wp_region_six0 (shs L) (look6 L) (fun c => c = w.heap.size) (by kernel_rfl) (by kernel_rfl) (mk_St L [1] [1] (by kernel_rfl) (by kernel_rfl) ⟨ok_O aggOf_congr r0.lt (rfl), trivial⟩ (by simp)) ?_
  intro QQ hQ
  -- 0: build<107> 0:1
  refine stepK rfl (by kernel_rfl) (fun K hK => ?_); go_simp
  apply Exists.intro; apply And.intro; (focus (intro wk hk; go_simp; exact ⟨rfl, rfl⟩)); refine hK _ _ ?_; clear hK K
  -- 1: store<107> *t2 = t19
  refine stepS _ rfl (by kernel_rfl) (fun K hK => ?_); go_simp
  refine ⟨?_, ?_⟩
  · exact sStoreO rfl rfl rfl rfl rfl rfl r0 id (by kernel_rfl) rfl (by kernel_rfl) (by decide) aggOf_congr
  rintro ⟨v1, lo1, hi1⟩ - - (rfl : v1 = undef)
  refine hK _ _ ?_; clear hK K
  -- 2: assign true
  refine stepKz rfl (fun K hK => ?_); go_simp
  apply Exists.intro; apply And.intro; (focus (intro wk hk; go_simp; exact ⟨rfl, rfl⟩)); refine hK _ _ ?_; clear hK K
  refine stepN ?_
  refine hQ _ _ ?_
  intro w9 hT hG hF
  have x0 : Row w9 w.heap.size 107 (#[.int .i64 1, .bool false, .int .i64 0, .bool false, .int .i64 0, .bool false]) := hF 1 _ rfl rfl (by decide)
  have hl9 := Lib.hid (hl.trans (hT.below_of hl.size (by intro c hc; have hc' : c = w.heap.size := hc; omega)))
  clear hT hG hF hQ QQ L hl r0
  go_wp2_with fail
  refine bodyPost_ret (results_ct rfl aggT107 rfl x0 rfl) rfl ?_
  exact ⟨by kernel_rfl, hl9.out⟩
set_option maxRecDepth 100000 in
set_option maxHeartbeats 4000000 in
theorem of_10 (w : World) : Calls Try.prog 131 #[.int .i64 10] w (OfP w 10) := by
  go_enter Try.func131, Try.ntmps131
  go_upto_region 14 with (fail)
  refine wp_abs (Mem w [(w.heap.size, 107, #[.int .i64 0, .bool false, .int .i64 0, .bool false, .int .i64 0, .bool false])]) ⟨by go_grown, by (repeat (first | (refine Row.new_at ?_; simp; done) | refine Row.alloc ?_ _)), trivial⟩ ?_
  intro w0 hM
  obtain ⟨hl, r0, -⟩ := hM
  let L : List Sp := [sO 1 (w.heap.size) 107 [0] (fun g => aggOf g 0)]
  refine wp_region_six0 (shs L) (look6 L) (fun c => c = w.heap.size) (by kernel_rfl) (by kernel_rfl) (mk_St L [1] [1] (by kernel_rfl) (by kernel_rfl) ⟨ok_O aggOf_congr r0.lt (rfl), trivial⟩ (by simp)) ?_
  intro QQ hQ
  -- 0: build<107> 0:1
  refine stepK rfl (by kernel_rfl) (fun K hK => ?_); go_simp
  apply Exists.intro; apply And.intro; (focus (intro wk hk; go_simp; exact ⟨rfl, rfl⟩)); refine hK _ _ ?_; clear hK K
  -- 1: store<107> *t2 = t19
  refine stepS _ rfl (by kernel_rfl) (fun K hK => ?_); go_simp
  refine ⟨?_, ?_⟩
  · exact sStoreO rfl rfl rfl rfl rfl rfl r0 id (by kernel_rfl) rfl (by kernel_rfl) (by decide) aggOf_congr
  rintro ⟨v1, lo1, hi1⟩ - - (rfl : v1 = undef)
  refine hK _ _ ?_; clear hK K
  -- 2: assign true
  refine stepKz rfl (fun K hK => ?_); go_simp
  apply Exists.intro; apply And.intro; (focus (intro wk hk; go_simp; exact ⟨rfl, rfl⟩)); refine hK _ _ ?_; clear hK K
  refine stepN ?_
  refine hQ _ _ ?_
  intro w9 hT hG hF
  have x0 : Row w9 w.heap.size 107 (#[.int .i64 1, .bool false, .int .i64 0, .bool false, .int .i64 0, .bool false]) := hF 1 _ rfl rfl (by decide)
  have hl9 := Lib.hid (hl.trans (hT.below_of hl.size (by intro c hc; have hc' : c = w.heap.size := hc; omega)))
  clear hT hG hF hQ QQ L hl r0
  go_wp2_with fail
  refine bodyPost_ret (results_ct rfl aggT107 rfl x0 rfl) rfl ?_
  exact ⟨by kernel_rfl, hl9.out⟩
set_option maxRecDepth 100000 in
set_option maxHeartbeats 4000000 in
theorem of_11 (w : World) : Calls Try.prog 131 #[.int .i64 11] w (OfP w 11) := by
  go_enter Try.func131, Try.ntmps131
  go_upto_region 14 with (fail)
  refine wp_abs (Mem w [(w.heap.size, 107, #[.int .i64 0, .bool false, .int .i64 0, .bool false, .int .i64 0, .bool false])]) ⟨by go_grown, by (repeat (first | (refine Row.new_at ?_; simp; done) | refine Row.alloc ?_ _)), trivial⟩ ?_
  intro w0 hM
  obtain ⟨hl, r0, -⟩ := hM
  let L : List Sp := [sO 1 (w.heap.size) 107 [0] (fun g => aggOf g 0)]
  refine wp_region_six0 (shs L) (look6 L) (fun c => c = w.heap.size) (by kernel_rfl) (by kernel_rfl) (mk_St L [1] [1] (by kernel_rfl) (by kernel_rfl) ⟨ok_O aggOf_congr r0.lt (rfl), trivial⟩ (by simp)) ?_
  intro QQ hQ
  -- 0: build<107> 0:1
  refine stepK rfl (by kernel_rfl) (fun K hK => ?_); go_simp
  apply Exists.intro; apply And.intro; (focus (intro wk hk; go_simp; exact ⟨rfl, rfl⟩)); refine hK _ _ ?_; clear hK K
  -- 1: store<107> *t2 = t19
  refine stepS _ rfl (by kernel_rfl) (fun K hK => ?_); go_simp
  refine ⟨?_, ?_⟩
  · exact sStoreO rfl rfl rfl rfl rfl rfl r0 id (by kernel_rfl) rfl (by kernel_rfl) (by decide) aggOf_congr
  rintro ⟨v1, lo1, hi1⟩ - - (rfl : v1 = undef)
  refine hK _ _ ?_; clear hK K
  -- 2: assign true
  refine stepKz rfl (fun K hK => ?_); go_simp
  apply Exists.intro; apply And.intro; (focus (intro wk hk; go_simp; exact ⟨rfl, rfl⟩)); refine hK _ _ ?_; clear hK K
  refine stepN ?_
  refine hQ _ _ ?_
  intro w9 hT hG hF
  have x0 : Row w9 w.heap.size 107 (#[.int .i64 1, .bool false, .int .i64 0, .bool false, .int .i64 0, .bool false]) := hF 1 _ rfl rfl (by decide)
  have hl9 := Lib.hid (hl.trans (hT.below_of hl.size (by intro c hc; have hc' : c = w.heap.size := hc; omega)))
  clear hT hG hF hQ QQ L hl r0
  go_wp2_with fail
  refine bodyPost_ret (results_ct rfl aggT107 rfl x0 rfl) rfl ?_
  exact ⟨by kernel_rfl, hl9.out⟩
set_option maxRecDepth 100000 in
set_option maxHeartbeats 4000000 in
theorem of_12 (w : World) : Calls Try.prog 131 #[.int .i64 12] w (OfP w 12) := by
  go_enter Try.func131, Try.ntmps131
  go_upto_region 26 with (fail)
  refine wp_abs (Mem w [(w.heap.size, 107, #[.int .i64 0, .bool false, .int .i64 0, .bool false, .int .i64 0, .bool false])]) ⟨by go_grown, by (repeat (first | (refine Row.new_at ?_; simp; done) | refine Row.alloc ?_ _)), trivial⟩ ?_
  intro w0 hM
  obtain ⟨hl, r0, -⟩ := hM
  let L : List Sp := [sO 1 (w.heap.size) 107 [0] (fun g => aggOf g 0)]
  refine wp_region_six0 (shs L) (look6 L) (fun c => c = w.heap.size) (by kernel_rfl) (by kernel_rfl) (mk_St L [1] [1] (by kernel_rfl) (by kernel_rfl) ⟨ok_O aggOf_congr r0.lt (rfl), trivial⟩ (by simp)) ?_
  intro QQ hQ
  -- 0: build<107> 0:1, 2:1
  refine stepK rfl (by kernel_rfl) (fun K hK => ?_); go_simp
  apply Exists.intro; apply And.intro; (focus (intro wk hk; go_simp; exact ⟨rfl, rfl⟩)); refine hK _ _ ?_; clear hK K
  -- 1: store<107> *t2 = t33
  refine stepS _ rfl (by kernel_rfl) (fun K hK => ?_); go_simp
  refine ⟨?_, ?_⟩
  · exact sStoreO rfl rfl rfl rfl rfl rfl r0 id (by kernel_rfl) rfl (by kernel_rfl) (by decide) aggOf_congr
  rintro ⟨v1, lo1, hi1⟩ - - (rfl : v1 = undef)
  refine hK _ _ ?_; clear hK K
  -- 2: assign true
  refine stepKz rfl (fun K hK => ?_); go_simp
  apply Exists.intro; apply And.intro; (focus (intro wk hk; go_simp; exact ⟨rfl, rfl⟩)); refine hK _ _ ?_; clear hK K
  refine stepN ?_
  refine hQ _ _ ?_
  intro w9 hT hG hF
  have x0 : Row w9 w.heap.size 107 (#[.int .i64 1, .bool false, .int .i64 1, .bool false, .int .i64 0, .bool false]) := hF 1 _ rfl rfl (by decide)
  have hl9 := Lib.hid (hl.trans (hT.below_of hl.size (by intro c hc; have hc' : c = w.heap.size := hc; omega)))
  clear hT hG hF hQ QQ L hl r0
  go_wp2_with fail
  refine bodyPost_ret (results_ct rfl aggT107 rfl x0 rfl) rfl ?_
  exact ⟨by kernel_rfl, hl9.out⟩
set_option maxRecDepth 100000 in
set_option maxHeartbeats 4000000 in
theorem of_13 (w : World) : Calls Try.prog 131 #[.int .i64 13] w (OfP w 13) := by
  go_enter Try.func131, Try.ntmps131
  go_upto_region 21 with (fail)
  refine wp_abs (Mem w [(w.heap.size, 107, #[.int .i64 0, .bool false, .int .i64 0, .bool false, .int .i64 0, .bool false])]) ⟨by go_grown, by (repeat (first | (refine Row.new_at ?_; simp; done) | refine Row.alloc ?_ _)), trivial⟩ ?_
  intro w0 hM
  obtain ⟨hl, r0, -⟩ := hM
  let L : List Sp := [sO 1 (w.heap.size) 107 [0] (fun g => aggOf g 0)]
  refine wp_region_six0 (shs L) (look6 L) (fun c => c = w.heap.size) (by kernel_rfl) (by kernel_rfl) (mk_St L [1] [1] (by kernel_rfl) (by kernel_rfl) ⟨ok_O aggOf_congr r0.lt (rfl), trivial⟩ (by simp)) ?_
  intro QQ hQ
  -- 0: build<107> 0:2
  refine stepK rfl (by kernel_rfl) (fun K hK => ?_); go_simp
  apply Exists.intro; apply And.intro; (focus (intro wk hk; go_simp; exact ⟨rfl, rfl⟩)); refine hK _ _ ?_; clear hK K
  -- 1: store<107> *t2 = t27
  refine stepS _ rfl (by kernel_rfl) (fun K hK => ?_); go_simp
  refine ⟨?_, ?_⟩
  · exact sStoreO rfl rfl rfl rfl rfl rfl r0 id (by kernel_rfl) rfl (by kernel_rfl) (by decide) aggOf_congr
  rintro ⟨v1, lo1, hi1⟩ - - (rfl : v1 = undef)
  refine hK _ _ ?_; clear hK K
  -- 2: assign true
  refine stepKz rfl (fun K hK => ?_); go_simp
  apply Exists.intro; apply And.intro; (focus (intro wk hk; go_simp; exact ⟨rfl, rfl⟩)); refine hK _ _ ?_; clear hK K
  refine stepN ?_
  refine hQ _ _ ?_
  intro w9 hT hG hF
  have x0 : Row w9 w.heap.size 107 (#[.int .i64 2, .bool false, .int .i64 0, .bool false, .int .i64 0, .bool false]) := hF 1 _ rfl rfl (by decide)
  have hl9 := Lib.hid (hl.trans (hT.below_of hl.size (by intro c hc; have hc' : c = w.heap.size := hc; omega)))
  clear hT hG hF hQ QQ L hl r0
  go_wp2_with fail
  refine bodyPost_ret (results_ct rfl aggT107 rfl x0 rfl) rfl ?_
  exact ⟨by kernel_rfl, hl9.out⟩
set_option maxRecDepth 100000 in
set_option maxHeartbeats 4000000 in
theorem of_14 (w : World) : Calls Try.prog 131 #[.int .i64 14] w (OfP w 14) := by
  go_enter Try.func131, Try.ntmps131
  go_upto_region 14 with (fail)
  refine wp_abs (Mem w [(w.heap.size, 107, #[.int .i64 0, .bool false, .int .i64 0, .bool false, .int .i64 0, .bool false])]) ⟨by go_grown, by (repeat (first | (refine Row.new_at ?_; simp; done) | refine Row.alloc ?_ _)), trivial⟩ ?_
  intro w0 hM
  obtain ⟨hl, r0, -⟩ := hM
  let L : List Sp := [sO 1 (w.heap.size) 107 [0] (fun g => aggOf g 0)]
  refine wp_region_six0 (shs L) (look6 L) (fun c => c = w.heap.size) (by kernel_rfl) (by kernel_rfl) (mk_St L [1] [1] (by kernel_rfl) (by kernel_rfl) ⟨ok_O aggOf_congr r0.lt (rfl), trivial⟩ (by simp)) ?_
  intro QQ hQ
  -- 0: build<107> 0:1
  refine stepK rfl (by kernel_rfl) (fun K hK => ?_); go_simp
  apply Exists.intro; apply And.intro; (focus (intro wk hk; go_simp; exact ⟨rfl, rfl⟩)); refine hK _ _ ?_; clear hK K
  -- 1: store<107> *t2 = t19
  refine stepS _ rfl (by kernel_rfl) (fun K hK => ?_); go_simp
  refine ⟨?_, ?_⟩
  · exact sStoreO rfl rfl rfl rfl rfl rfl r0 id (by kernel_rfl) rfl (by kernel_rfl) (by decide) aggOf_congr
  rintro ⟨v1, lo1, hi1⟩ - - (rfl : v1 = undef)
  refine hK _ _ ?_; clear hK K
  -- 2: assign true
  refine stepKz rfl (fun K hK => ?_); go_simp
  apply Exists.intro; apply And.intro; (focus (intro wk hk; go_simp; exact ⟨rfl, rfl⟩)); refine hK _ _ ?_; clear hK K
  refine stepN ?_
  refine hQ _ _ ?_
  intro w9 hT hG hF
  have x0 : Row w9 w.heap.size 107 (#[.int .i64 1, .bool false, .int .i64 0, .bool false, .int .i64 0, .bool false]) := hF 1 _ rfl rfl (by decide)
  have hl9 := Lib.hid (hl.trans (hT.below_of hl.size (by intro c hc; have hc' : c = w.heap.size := hc; omega)))
  clear hT hG hF hQ QQ L hl r0
  go_wp2_with fail
  refine bodyPost_ret (results_ct rfl aggT107 rfl x0 rfl) rfl ?_
  exact ⟨by kernel_rfl, hl9.out⟩
set_option maxRecDepth 100000 in
set_option maxHeartbeats 4000000 in
theorem of_15 (w : World) : Calls Try.prog 131 #[.int .i64 15] w (OfP w 15) := by
  go_enter Try.func131, Try.ntmps131
  go_upto_region 28 with (fail)
  refine wp_abs (Mem w [(w.heap.size, 107, #[.int .i64 0, .bool false, .int .i64 0, .bool false, .int .i64 0, .bool false])]) ⟨by go_grown, by (repeat (first | (refine Row.new_at ?_; simp; done) | refine Row.alloc ?_ _)), trivial⟩ ?_
  intro w0 hM
  obtain ⟨hl, r0, -⟩ := hM
  let L : List Sp := [sO 1 (w.heap.size) 107 [0] (fun g => aggOf g 0)]
  refine wp_region_six0 (shs L) (look6 L) (fun c => c = w.heap.size) (by kernel_rfl) (by kernel_rfl) (mk_St L [1] [1] (by kernel_rfl) (by kernel_rfl) ⟨ok_O aggOf_congr r0.lt (rfl), trivial⟩ (by simp)) ?_
  intro QQ hQ
  -- 0: build<107> 
  refine stepK rfl (by kernel_rfl) (fun K hK => ?_); go_simp
  apply Exists.intro; apply And.intro; (focus (intro wk hk; go_simp; exact ⟨rfl, rfl⟩)); refine hK _ _ ?_; clear hK K
  -- 1: store<107> *t2 = t36
  refine stepS _ rfl (by kernel_rfl) (fun K hK => ?_); go_simp
  refine ⟨?_, ?_⟩
  · exact sStoreO rfl rfl rfl rfl rfl rfl r0 id (by kernel_rfl) rfl (by kernel_rfl) (by decide) aggOf_congr
  rintro ⟨v1, lo1, hi1⟩ - - (rfl : v1 = undef)
  refine hK _ _ ?_; clear hK K
  -- 2: assign true
  refine stepKz rfl (fun K hK => ?_); go_simp
  apply Exists.intro; apply And.intro; (focus (intro wk hk; go_simp; exact ⟨rfl, rfl⟩)); refine hK _ _ ?_; clear hK K
  refine stepN ?_
  refine hQ _ _ ?_
  intro w9 hT hG hF
  have x0 : Row w9 w.heap.size 107 (#[.int .i64 0, .bool false, .int .i64 0, .bool false, .int .i64 0, .bool false]) := hF 1 _ rfl rfl (by decide)
  have hl9 := Lib.hid (hl.trans (hT.below_of hl.size (by intro c hc; have hc' : c = w.heap.size := hc; omega)))
  clear hT hG hF hQ QQ L hl r0
  go_wp2_with fail
  refine bodyPost_ret (results_ct rfl aggT107 rfl x0 rfl) rfl ?_
  exact ⟨by kernel_rfl, hl9.out⟩
set_option maxRecDepth 100000 in
set_option maxHeartbeats 4000000 in
theorem of_16 (w : World) : Calls Try.prog 131 #[.int .i64 16] w (OfP w 16) := by
  go_enter Try.func131, Try.ntmps131
  go_upto_region 30 with (fail)
  refine wp_abs (Mem w [(w.heap.size, 107, #[.int .i64 0, .bool false, .int .i64 0, .bool false, .int .i64 0, .bool false])]) ⟨by go_grown, by (repeat (first | (refine Row.new_at ?_; simp; done) | refine Row.alloc ?_ _)), trivial⟩ ?_
  intro w0 hM
  obtain ⟨hl, r0, -⟩ := hM
  let L : List Sp := [sO 1 (w.heap.size) 107 [0] (fun g => aggOf g 0)]
  refine wp_region_six0 (shs L) (look6 L) (fun c => c = w.heap.size) (by kernel_rfl) (by kernel_rfl) (mk_St L [1] [1] (by kernel_rfl) (by kernel_rfl) ⟨ok_O aggOf_congr r0.lt (rfl), trivial⟩ (by simp)) ?_
  intro QQ hQ
  -- 0: build<107> 1:true
  refine stepK rfl (by kernel_rfl) (fun K hK => ?_); go_simp
  apply Exists.intro; apply And.intro; (focus (intro wk hk; go_simp; exact ⟨rfl, rfl⟩)); refine hK _ _ ?_; clear hK K
  -- 1: store<107> *t2 = t39
  refine stepS _ rfl (by kernel_rfl) (fun K hK => ?_); go_simp
  refine ⟨?_, ?_⟩
  · exact sStoreO rfl rfl rfl rfl rfl rfl r0 id (by kernel_rfl) rfl (by kernel_rfl) (by decide) aggOf_congr
  rintro ⟨v1, lo1, hi1⟩ - - (rfl : v1 = undef)
  refine hK _ _ ?_; clear hK K
  -- 2: assign true
  refine stepKz rfl (fun K hK => ?_); go_simp
  apply Exists.intro; apply And.intro; (focus (intro wk hk; go_simp; exact ⟨rfl, rfl⟩)); refine hK _ _ ?_; clear hK K
  refine stepN ?_
  refine hQ _ _ ?_
  intro w9 hT hG hF
  have x0 : Row w9 w.heap.size 107 (#[.int .i64 0, .bool true, .int .i64 0, .bool false, .int .i64 0, .bool false]) := hF 1 _ rfl rfl (by decide)
  have hl9 := Lib.hid (hl.trans (hT.below_of hl.size (by intro c hc; have hc' : c = w.heap.size := hc; omega)))
  clear hT hG hF hQ QQ L hl r0
  go_wp2_with fail
  refine bodyPost_ret (results_ct rfl aggT107 rfl x0 rfl) rfl ?_
  exact ⟨by kernel_rfl, hl9.out⟩
set_option maxRecDepth 100000 in
set_option maxHeartbeats 4000000 in
theorem of_17 (w : World) : Calls Try.prog 131 #[.int .i64 17] w (OfP w 17) := by
  go_enter Try.func131, Try.ntmps131
  go_upto_region 21 with (fail)
  refine wp_abs (Mem w [(w.heap.size, 107, #[.int .i64 0, .bool false, .int .i64 0, .bool false, .int .i64 0, .bool false])]) ⟨by go_grown, by (repeat (first | (refine Row.new_at ?_; simp; done) | refine Row.alloc ?_ _)), trivial⟩ ?_
  intro w0 hM
  obtain ⟨hl, r0, -⟩ := hM
  let L : List Sp := [sO 1 (w.heap.size) 107 [0] (fun g => aggOf g 0)]
  refine wp_region_six0 (shs L) (look6 L) (fun c => c = w.heap.size) (by kernel_rfl) (by kernel_rfl) (mk_St L [1] [1] (by kernel_rfl) (by kernel_rfl) ⟨ok_O aggOf_congr r0.lt (rfl), trivial⟩ (by simp)) ?_
  intro QQ hQ
  -- 0: build<107> 0:2
  refine stepK rfl (by kernel_rfl) (fun K hK => ?_); go_simp
  apply Exists.intro; apply And.intro; (focus (intro wk hk; go_simp; exact ⟨rfl, rfl⟩)); refine hK _ _ ?_; clear hK K
  -- 1: store<107> *t2 = t27
  refine stepS _ rfl (by kernel_rfl) (fun K hK => ?_); go_simp
  refine ⟨?_, ?_⟩
  · exact sStoreO rfl rfl rfl rfl rfl rfl r0 id (by kernel_rfl) rfl (by kernel_rfl) (by decide) aggOf_congr
  rintro ⟨v1, lo1, hi1⟩ - - (rfl : v1 = undef)
  refine hK _ _ ?_; clear hK K
  -- 2: assign true
  refine stepKz rfl (fun K hK => ?_); go_simp
  apply Exists.intro; apply And.intro; (focus (intro wk hk; go_simp; exact ⟨rfl, rfl⟩)); refine hK _ _ ?_; clear hK K
  refine stepN ?_
  refine hQ _ _ ?_
  intro w9 hT hG hF
  have x0 : Row w9 w.heap.size 107 (#[.int .i64 2, .bool false, .int .i64 0, .bool false, .int .i64 0, .bool false]) := hF 1 _ rfl rfl (by decide)
  have hl9 := Lib.hid (hl.trans (hT.below_of hl.size (by intro c hc; have hc' : c = w.heap.size := hc; omega)))
  clear hT hG hF hQ QQ L hl r0
  go_wp2_with fail
  refine bodyPost_ret (results_ct rfl aggT107 rfl x0 rfl) rfl ?_
  exact ⟨by kernel_rfl, hl9.out⟩
set_option maxRecDepth 100000 in
set_option maxHeartbeats 4000000 in
theorem of_18 (w : World) : Calls Try.prog 131 #[.int .i64 18] w (OfP w 18) := by
  go_enter Try.func131, Try.ntmps131
  go_upto_region 21 with (fail)
  refine wp_abs (Mem w [(w.heap.size, 107, #[.int .i64 0, .bool false, .int .i64 0, .bool false, .int .i64 0, .bool false])]) ⟨by go_grown, by (repeat (first | (refine Row.new_at ?_; simp; done) | refine Row.alloc ?_ _)), trivial⟩ ?_
  intro w0 hM
  obtain ⟨hl, r0, -⟩ := hM
  let L : List Sp := [sO 1 (w.heap.size) 107 [0] (fun g => aggOf g 0)]
  refine wp_region_six0 (shs L) (look6 L) (fun c => c = w.heap.size) (by kernel_rfl) (by kernel_rfl) (mk_St L [1] [1] (by kernel_rfl) (by kernel_rfl) ⟨ok_O aggOf_congr r0.lt (rfl), trivial⟩ (by simp)) ?_
  intro QQ hQ
  -- 0: build<107> 0:2
  refine stepK rfl (by kernel_rfl) (fun K hK => ?_); go_simp
  apply Exists.intro; apply And.intro; (focus (intro wk hk; go_simp; exact ⟨rfl, rfl⟩)); refine hK _ _ ?_; clear hK K
  -- 1: store<107> *t2 = t27
  refine stepS _ rfl (by kernel_rfl) (fun K hK => ?_); go_simp
  refine ⟨?_, ?_⟩
  · exact sStoreO rfl rfl rfl rfl rfl rfl r0 id (by kernel_rfl) rfl (by kernel_rfl) (by decide) aggOf_congr
  rintro ⟨v1, lo1, hi1⟩ - - (rfl : v1 = undef)
  refine hK _ _ ?_; clear hK K
  -- 2: assign true
  refine stepKz rfl (fun K hK => ?_); go_simp
  apply Exists.intro; apply And.intro; (focus (intro wk hk; go_simp; exact ⟨rfl, rfl⟩)); refine hK _ _ ?_; clear hK K
  refine stepN ?_
  refine hQ _ _ ?_
  intro w9 hT hG hF
  have x0 : Row w9 w.heap.size 107 (#[.int .i64 2, .bool false, .int .i64 0, .bool false, .int .i64 0, .bool false]) := hF 1 _ rfl rfl (by decide)
  have hl9 := Lib.hid (hl.trans (hT.below_of hl.size (by intro c hc; have hc' : c = w.heap.size := hc; omega)))
  clear hT hG hF hQ QQ L hl r0
  go_wp2_with fail
  refine bodyPost_ret (results_ct rfl aggT107 rfl x0 rfl) rfl ?_
  exact ⟨by kernel_rfl, hl9.out⟩
set_option maxRecDepth 100000 in
set_option maxHeartbeats 4000000 in
theorem of_19 (w : World) : Calls Try.prog 131 #[.int .i64 19] w (OfP w 19) := by
  go_enter Try.func131, Try.ntmps131
  go_upto_region 21 with (fail)
  refine wp_abs (Mem w [(w.heap.size, 107, #[.int .i64 0, .bool false, .int .i64 0, .bool false, .int .i64 0, .bool false])]) ⟨by go_grown, by (repeat (first | (refine Row.new_at ?_; simp; done) | refine Row.alloc ?_ _)), trivial⟩ ?_
  intro w0 hM
  obtain ⟨hl, r0, -⟩ := hM
  let L : List Sp := [sO 1 (w.heap.size) 107 [0] (fun g => aggOf g 0)]
  refine wp_region_six0 (shs L) (look6 L) (fun c => c = w.heap.size) (by kernel_rfl) (by kernel_rfl) (mk_St L [1] [1] (by kernel_rfl) (by kernel_rfl) ⟨ok_O aggOf_congr r0.lt (rfl), trivial⟩ (by simp)) ?_
  intro QQ hQ
  -- 0: build<107> 0:2
  refine stepK rfl (by kernel_rfl) (fun K hK => ?_); go_simp
  apply Exists.intro; apply And.intro; (focus (intro wk hk; go_simp; exact ⟨rfl, rfl⟩)); refine hK _ _ ?_; clear hK K
  -- 1: store<107> *t2 = t27
  refine stepS _ rfl (by kernel_rfl) (fun K hK => ?_); go_simp
  refine ⟨?_, ?_⟩
  · exact sStoreO rfl rfl rfl rfl rfl rfl r0 id (by kernel_rfl) rfl (by kernel_rfl) (by decide) aggOf_congr
  rintro ⟨v1, lo1, hi1⟩ - - (rfl : v1 = undef)
  refine hK _ _ ?_; clear hK K
  -- 2: assign true
  refine stepKz rfl (fun K hK => ?_); go_simp
  apply Exists.intro; apply And.intro; (focus (intro wk hk; go_simp; exact ⟨rfl, rfl⟩)); refine hK _ _ ?_; clear hK K
  refine stepN ?_
  refine hQ _ _ ?_
  intro w9 hT hG hF
  have x0 : Row w9 w.heap.size 107 (#[.int .i64 2, .bool false, .int .i64 0, .bool false, .int .i64 0, .bool false]) := hF 1 _ rfl rfl (by decide)
  have hl9 := Lib.hid (hl.trans (hT.below_of hl.size (by intro c hc; have hc' : c = w.heap.size := hc; omega)))
  clear hT hG hF hQ QQ L hl r0
  go_wp2_with fail
  refine bodyPost_ret (results_ct rfl aggT107 rfl x0 rfl) rfl ?_
  exact ⟨by kernel_rfl, hl9.out⟩
set_option maxRecDepth 100000 in
set_option maxHeartbeats 4000000 in
theorem of_20 (w : World) : Calls Try.prog 131 #[.int .i64 20] w (OfP w 20) := by
  go_enter Try.func131, Try.ntmps131
  go_upto_region 32 with (fail)
  refine wp_abs (Mem w [(w.heap.size, 107, #[.int .i64 0, .bool false, .int .i64 0, .bool false, .int .i64 0, .bool false])]) ⟨by go_grown, by (repeat (first | (refine Row.new_at ?_; simp; done) | refine Row.alloc ?_ _)), trivial⟩ ?_
  intro w0 hM
  obtain ⟨hl, r0, -⟩ := hM
  let L : List Sp := [sO 1 (w.heap.size) 107 [0] (fun g => aggOf g 0)]
  refine wp_region_six0 (shs L) (look6 L) (fun c => c = w.heap.size) (by kernel_rfl) (by kernel_rfl) (mk_St L [1] [1] (by kernel_rfl) (by kernel_rfl) ⟨ok_O aggOf_congr r0.lt (rfl), trivial⟩ (by simp)) ?_
  intro QQ hQ
  -- 0: build<107> 0:3
  refine stepK rfl (by kernel_rfl) (fun K hK => ?_); go_simp
  apply Exists.intro; apply And.intro; (focus (intro wk hk; go_simp; exact ⟨rfl, rfl⟩)); refine hK _ _ ?_; clear hK K
  -- 1: store<107> *t2 = t42
  refine stepS _ rfl (by kernel_rfl) (fun K hK => ?_); go_simp
  refine ⟨?_, ?_⟩
  · exact sStoreO rfl rfl rfl rfl rfl rfl r0 id (by kernel_rfl) rfl (by kernel_rfl) (by decide) aggOf_congr
  rintro ⟨v1, lo1, hi1⟩ - - (rfl : v1 = undef)
  refine hK _ _ ?_; clear hK K
  -- 2: assign true
  refine stepKz rfl (fun K hK => ?_); go_simp
  apply Exists.intro; apply And.intro; (focus (intro wk hk; go_simp; exact ⟨rfl, rfl⟩)); refine hK _ _ ?_; clear hK K
  refine stepN ?_
  refine hQ _ _ ?_
  intro w9 hT hG hF
  have x0 : Row w9 w.heap.size 107 (#[.int .i64 3, .bool false, .int .i64 0, .bool false, .int .i64 0, .bool false]) := hF 1 _ rfl rfl (by decide)
  have hl9 := Lib.hid (hl.trans (hT.below_of hl.size (by intro c hc; have hc' : c = w.heap.size := hc; omega)))
  clear hT hG hF hQ QQ L hl r0
  go_wp2_with fail
  refine bodyPost_ret (results_ct rfl aggT107 rfl x0 rfl) rfl ?_
  exact ⟨by kernel_rfl, hl9.out⟩
set_option maxRecDepth 100000 in
set_option maxHeartbeats 4000000 in
theorem of_21 (w : World) : Calls Try.prog 131 #[.int .i64 21] w (OfP w 21) := by
  go_enter Try.func131, Try.ntmps131
  go_upto_region 34 with (fail)
  refine wp_abs (Mem w [(w.heap.size, 107, #[.int .i64 0, .bool false, .int .i64 0, .bool false, .int .i64 0, .bool false])]) ⟨by go_grown, by (repeat (first | (refine Row.new_at ?_; simp; done) | refine Row.alloc ?_ _)), trivial⟩ ?_
  intro w0 hM
  obtain ⟨hl, r0, -⟩ := hM
  let L : List Sp := [sO 1 (w.heap.size) 107 [0] (fun g => aggOf g 0)]
  refine wp_region_six0 (shs L) (look6 L) (fun c => c = w.heap.size) (by kernel_rfl) (by kernel_rfl) (mk_St L [1] [1] (by kernel_rfl) (by kernel_rfl) ⟨ok_O aggOf_congr r0.lt (rfl), trivial⟩ (by simp)) ?_
  intro QQ hQ
  -- 0: build<107> 0:3, 2:1
  refine stepK rfl (by kernel_rfl) (fun K hK => ?_); go_simp
  apply Exists.intro; apply And.intro; (focus (intro wk hk; go_simp; exact ⟨rfl, rfl⟩)); refine hK _ _ ?_; clear hK K
  -- 1: store<107> *t2 = t45
  refine stepS _ rfl (by kernel_rfl) (fun K hK => ?_); go_simp
  refine ⟨?_, ?_⟩
  · exact sStoreO rfl rfl rfl rfl rfl rfl r0 id (by kernel_rfl) rfl (by kernel_rfl) (by decide) aggOf_congr
  rintro ⟨v1, lo1, hi1⟩ - - (rfl : v1 = undef)
  refine hK _ _ ?_; clear hK K
  -- 2: assign true
  refine stepKz rfl (fun K hK => ?_); go_simp
  apply Exists.intro; apply And.intro; (focus (intro wk hk; go_simp; exact ⟨rfl, rfl⟩)); refine hK _ _ ?_; clear hK K
  refine stepN ?_
  refine hQ _ _ ?_
  intro w9 hT hG hF
  have x0 : Row w9 w.heap.size 107 (#[.int .i64 3, .bool false, .int .i64 1, .bool false, .int .i64 0, .bool false]) := hF 1 _ rfl rfl (by decide)
  have hl9 := Lib.hid (hl.trans (hT.below_of hl.size (by intro c hc; have hc' : c = w.heap.size := hc; omega)))
  clear hT hG hF hQ QQ L hl r0
  go_wp2_with fail
  refine bodyPost_ret (results_ct rfl aggT107 rfl x0 rfl) rfl ?_
  exact ⟨by kernel_rfl, hl9.out⟩
set_option maxRecDepth 100000 in
set_option maxHeartbeats 4000000 in
theorem of_22 (w : World) : Calls Try.prog 131 #[.int .i64 22] w (OfP w 22) := by
  go_enter Try.func131, Try.ntmps131
  go_upto_region 36 with (fail)
  refine wp_abs (Mem w [(w.heap.size, 107, #[.int .i64 0, .bool false, .int .i64 0, .bool false, .int .i64 0, .bool false])]) ⟨by go_grown, by (repeat (first | (refine Row.new_at ?_; simp; done) | refine Row.alloc ?_ _)), trivial⟩ ?_
  intro w0 hM
  obtain ⟨hl, r0, -⟩ := hM
  let L : List Sp := [sO 1 (w.heap.size) 107 [0] (fun g => aggOf g 0)]
  refine wp_region_six0 (shs L) (look6 L) (fun c => c = w.heap.size) (by kernel_rfl) (by kernel_rfl) (mk_St L [1] [1] (by kernel_rfl) (by kernel_rfl) ⟨ok_O aggOf_congr r0.lt (rfl), trivial⟩ (by simp)) ?_
  intro QQ hQ
  -- 0: build<107> 0:2, 1:true, 3:true
  refine stepK rfl (by kernel_rfl) (fun K hK => ?_); go_simp
  apply Exists.intro; apply And.intro; (focus (intro wk hk; go_simp; exact ⟨rfl, rfl⟩)); refine hK _ _ ?_; clear hK K
  -- 1: store<107> *t2 = t48
  refine stepS _ rfl (by kernel_rfl) (fun K hK => ?_); go_simp
  refine ⟨?_, ?_⟩
  · exact sStoreO rfl rfl rfl rfl rfl rfl r0 id (by kernel_rfl) rfl (by kernel_rfl) (by decide) aggOf_congr
  rintro ⟨v1, lo1, hi1⟩ - - (rfl : v1 = undef)
  refine hK _ _ ?_; clear hK K
  -- 2: assign true
  refine stepKz rfl (fun K hK => ?_); go_simp
  apply Exists.intro; apply And.intro; (focus (intro wk hk; go_simp; exact ⟨rfl, rfl⟩)); refine hK _ _ ?_; clear hK K
  refine stepN ?_
  refine hQ _ _ ?_
  intro w9 hT hG hF
  have x0 : Row w9 w.heap.size 107 (#[.int .i64 2, .bool true, .int .i64 0, .bool true, .int .i64 0, .bool false]) := hF 1 _ rfl rfl (by decide)
  have hl9 := Lib.hid (hl.trans (hT.below_of hl.size (by intro c hc; have hc' : c = w.heap.size := hc; omega)))
  clear hT hG hF hQ QQ L hl r0
  go_wp2_with fail
  refine bodyPost_ret (results_ct rfl aggT107 rfl x0 rfl) rfl ?_
  exact ⟨by kernel_rfl, hl9.out⟩
set_option maxRecDepth 100000 in
set_option maxHeartbeats 4000000 in
theorem of_23 (w : World) : Calls Try.prog 131 #[.int .i64 23] w (OfP w 23) := by
  go_enter Try.func131, Try.ntmps131
  go_upto_region 26 with (fail)
  refine wp_abs (Mem w [(w.heap.size, 107, #[.int .i64 0, .bool false, .int .i64 0, .bool false, .int .i64 0, .bool false])]) ⟨by go_grown, by (repeat (first | (refine Row.new_at ?_; simp; done) | refine Row.alloc ?_ _)), trivial⟩ ?_
  intro w0 hM
  obtain ⟨hl, r0, -⟩ := hM
  let L : List Sp := [sO 1 (w.heap.size) 107 [0] (fun g => aggOf g 0)]
  refine wp_region_six0 (shs L) (look6 L) (fun c => c = w.heap.size) (by kernel_rfl) (by kernel_rfl) (mk_St L [1] [1] (by kernel_rfl) (by kernel_rfl) ⟨ok_O aggOf_congr r0.lt (rfl), trivial⟩ (by simp)) ?_
  intro QQ hQ
  -- 0: build<107> 0:1, 2:1
  refine stepK rfl (by kernel_rfl) (fun K hK => ?_); go_simp
  apply Exists.intro; apply And.intro; (focus (intro wk hk; go_simp; exact ⟨rfl, rfl⟩)); refine hK _ _ ?_; clear hK K
  -- 1: store<107> *t2 = t33
  refine stepS _ rfl (by kernel_rfl) (fun K hK => ?_); go_simp
  refine ⟨?_, ?_⟩
  · exact sStoreO rfl rfl rfl rfl rfl rfl r0 id (by kernel_rfl) rfl (by kernel_rfl) (by decide) aggOf_congr
  rintro ⟨v1, lo1, hi1⟩ - - (rfl : v1 = undef)
  refine hK _ _ ?_; clear hK K
  -- 2: assign true
  refine stepKz rfl (fun K hK => ?_); go_simp
  apply Exists.intro; apply And.intro; (focus (intro wk hk; go_simp; exact ⟨rfl, rfl⟩)); refine hK _ _ ?_; clear hK K
  refine stepN ?_
  refine hQ _ _ ?_
  intro w9 hT hG hF
  have x0 : Row w9 w.heap.size 107 (#[.int .i64 1, .bool false, .int .i64 1, .bool false, .int .i64 0, .bool false]) := hF 1 _ rfl rfl (by decide)
  have hl9 := Lib.hid (hl.trans (hT.below_of hl.size (by intro c hc; have hc' : c = w.heap.size := hc; omega)))
  clear hT hG hF hQ QQ L hl r0
  go_wp2_with fail
  refine bodyPost_ret (results_ct rfl aggT107 rfl x0 rfl) rfl ?_
  exact ⟨by kernel_rfl, hl9.out⟩
set_option maxRecDepth 100000 in
set_option maxHeartbeats 4000000 in
theorem of_24 (w : World) : Calls Try.prog 131 #[.int .i64 24] w (OfP w 24) := by
  go_enter Try.func131, Try.ntmps131
  go_upto_region 38 with (fail)
  refine wp_abs (Mem w [(w.heap.size, 107, #[.int .i64 0, .bool false, .int .i64 0, .bool false, .int .i64 0, .bool false])]) ⟨by go_grown, by (repeat (first | (refine Row.new_at ?_; simp; done) | refine Row.alloc ?_ _)), trivial⟩ ?_
  intro w0 hM
  obtain ⟨hl, r0, -⟩ := hM
  let L : List Sp := [sO 1 (w.heap.size) 107 [0] (fun g => aggOf g 0)]
  refine wp_region_six0 (shs L) (look6 L) (fun c => c = w.heap.size) (by kernel_rfl) (by kernel_rfl) (mk_St L [1] [1] (by kernel_rfl) (by kernel_rfl) ⟨ok_O aggOf_congr r0.lt (rfl), trivial⟩ (by simp)) ?_
  intro QQ hQ
  -- 0: build<107> 4:1
  refine stepK rfl (by kernel_rfl) (fun K hK => ?_); go_simp
  apply Exists.intro; apply And.intro; (focus (intro wk hk; go_simp; exact ⟨rfl, rfl⟩)); refine hK _ _ ?_; clear hK K
  -- 1: store<107> *t2 = t51
  refine stepS _ rfl (by kernel_rfl) (fun K hK => ?_); go_simp
  refine ⟨?_, ?_⟩
  · exact sStoreO rfl rfl rfl rfl rfl rfl r0 id (by kernel_rfl) rfl (by kernel_rfl) (by decide) aggOf_congr
  rintro ⟨v1, lo1, hi1⟩ - - (rfl : v1 = undef)
  refine hK _ _ ?_; clear hK K
  -- 2: assign true
  refine stepKz rfl (fun K hK => ?_); go_simp
  apply Exists.intro; apply And.intro; (focus (intro wk hk; go_simp; exact ⟨rfl, rfl⟩)); refine hK _ _ ?_; clear hK K
  refine stepN ?_
  refine hQ _ _ ?_
  intro w9 hT hG hF
  have x0 : Row w9 w.heap.size 107 (#[.int .i64 0, .bool false, .int .i64 0, .bool false, .int .i64 1, .bool false]) := hF 1 _ rfl rfl (by decide)
  have hl9 := Lib.hid (hl.trans (hT.below_of hl.size (by intro c hc; have hc' : c = w.heap.size := hc; omega)))
  clear hT hG hF hQ QQ L hl r0
  go_wp2_with fail
  refine bodyPost_ret (results_ct rfl aggT107 rfl x0 rfl) rfl ?_
  exact ⟨by kernel_rfl, hl9.out⟩
set_option maxRecDepth 100000 in
set_option maxHeartbeats 4000000 in
theorem of_25 (w : World) : Calls Try.prog 131 #[.int .i64 25] w (OfP w 25) := by
  go_enter Try.func131, Try.ntmps131
  go_upto_region 14 with (fail)
  refine wp_abs (Mem w [(w.heap.size, 107, #[.int .i64 0, .bool false, .int .i64 0, .bool false, .int .i64 0, .bool false])]) ⟨by go_grown, by (repeat (first | (refine Row.new_at ?_; simp; done) | refine Row.alloc ?_ _)), trivial⟩ ?_
  intro w0 hM
  obtain ⟨hl, r0, -⟩ := hM
  let L : List Sp := [sO 1 (w.heap.size) 107 [0] (fun g => aggOf g 0)]
  refine wp_region_six0 (shs L) (look6 L) (fun c => c = w.heap.size) (by kernel_rfl) (by kernel_rfl) (mk_St L [1] [1] (by kernel_rfl) (by kernel_rfl) ⟨ok_O aggOf_congr r0.lt (rfl), trivial⟩ (by simp)) ?_
  intro QQ hQ
  -- 0: build<107> 0:1
  refine stepK rfl (by kernel_rfl) (fun K hK => ?_); go_simp
  apply Exists.intro; apply And.intro; (focus (intro wk hk; go_simp; exact ⟨rfl, rfl⟩)); refine hK _ _ ?_; clear hK K
  -- 1: store<107> *t2 = t19
  refine stepS _ rfl (by kernel_rfl) (fun K hK => ?_); go_simp
  refine ⟨?_, ?_⟩
  · exact sStoreO rfl rfl rfl rfl rfl rfl r0 id (by kernel_rfl) rfl (by kernel_rfl) (by decide) aggOf_congr
  rintro ⟨v1, lo1, hi1⟩ - - (rfl : v1 = undef)
  refine hK _ _ ?_; clear hK K
  -- 2: assign true
  refine stepKz rfl (fun K hK => ?_); go_simp
  apply Exists.intro; apply And.intro; (focus (intro wk hk; go_simp; exact ⟨rfl, rfl⟩)); refine hK _ _ ?_; clear hK K
  refine stepN ?_
  refine hQ _ _ ?_
  intro w9 hT hG hF
  have x0 : Row w9 w.heap.size 107 (#[.int .i64 1, .bool false, .int .i64 0, .bool false, .int .i64 0, .bool false]) := hF 1 _ rfl rfl (by decide)
  have hl9 := Lib.hid (hl.trans (hT.below_of hl.size (by intro c hc; have hc' : c = w.heap.size := hc; omega)))
  clear hT hG hF hQ QQ L hl r0
  go_wp2_with fail
  refine bodyPost_ret (results_ct rfl aggT107 rfl x0 rfl) rfl ?_
  exact ⟨by kernel_rfl, hl9.out⟩
set_option maxRecDepth 100000 in
set_option maxHeartbeats 4000000 in
theorem of_26 (w : World) : Calls Try.prog 131 #[.int .i64 26] w (OfP w 26) := by
  go_enter Try.func131, Try.ntmps131
  go_upto_region 14 with (fail)
  refine wp_abs (Mem w [(w.heap.size, 107, #[.int .i64 0, .bool false, .int .i64 0, .bool false, .int .i64 0, .bool false])]) ⟨by go_grown, by (repeat (first | (refine Row.new_at ?_; simp; done) | refine Row.alloc ?_ _)), trivial⟩ ?_
  intro w0 hM
  obtain ⟨hl, r0, -⟩ := hM
  let L : List Sp := [sO 1 (w.heap.size) 107 [0] (fun g => aggOf g 0)]
  refine wp_region_six0 (shs L) (look6 L) (fun c => c = w.heap.size) (by kernel_rfl) (by kernel_rfl) (mk_St L [1] [1] (by kernel_rfl) (by kernel_rfl) ⟨ok_O aggOf_congr r0.lt (rfl), trivial⟩ (by simp)) ?_
  intro QQ hQ
  -- 0: build<107> 0:1
  refine stepK rfl (by kernel_rfl) (fun K hK => ?_); go_simp
  apply Exists.intro; apply And.intro; (focus (intro wk hk; go_simp; exact ⟨rfl, rfl⟩)); refine hK _ _ ?_; clear hK K
  -- 1: store<107> *t2 = t19
  refine stepS _ rfl (by kernel_rfl) (fun K hK => ?_); go_simp
  refine ⟨?_, ?_⟩
  · exact sStoreO rfl rfl rfl rfl rfl rfl r0 id (by kernel_rfl) rfl (by kernel_rfl) (by decide) aggOf_congr
  rintro ⟨v1, lo1, hi1⟩ - - (rfl : v1 = undef)
  refine hK _ _ ?_; clear hK K
  -- 2: assign true
  refine stepKz rfl (fun K hK => ?_); go_simp
  apply Exists.intro; apply And.intro; (focus (intro wk hk; go_simp; exact ⟨rfl, rfl⟩)); refine hK _ _ ?_; clear hK K
  refine stepN ?_
  refine hQ _ _ ?_
  intro w9 hT hG hF
  have x0 : Row w9 w.heap.size 107 (#[.int .i64 1, .bool false, .int .i64 0, .bool false, .int .i64 0, .bool false]) := hF 1 _ rfl rfl (by decide)
  have hl9 := Lib.hid (hl.trans (hT.below_of hl.size (by intro c hc; have hc' : c = w.heap.size := hc; omega)))
  clear hT hG hF hQ QQ L hl r0
  go_wp2_with fail
  refine bodyPost_ret (results_ct rfl aggT107 rfl x0 rfl) rfl ?_
  exact ⟨by kernel_rfl, hl9.out⟩
set_option maxRecDepth 100000 in
set_option maxHeartbeats 4000000 in
theorem of_27 (w : World) : Calls Try.prog 131 #[.int .i64 27] w (OfP w 27) := by
  go_enter Try.func131, Try.ntmps131
  go_upto_region 40 with (fail)
  refine wp_abs (Mem w [(w.heap.size, 107, #[.int .i64 0, .bool false, .int .i64 0, .bool false, .int .i64 0, .bool false])]) ⟨by go_grown, by (repeat (first | (refine Row.new_at ?_; simp; done) | refine Row.alloc ?_ _)), trivial⟩ ?_
  intro w0 hM
  obtain ⟨hl, r0, -⟩ := hM
  let L : List Sp := [sO 1 (w.heap.size) 107 [0] (fun g => aggOf g 0)]
  refine wp_region_six0 (shs L) (look6 L) (fun c => c = w.heap.size) (by kernel_rfl) (by kernel_rfl) (mk_St L [1] [1] (by kernel_rfl) (by kernel_rfl) ⟨ok_O aggOf_congr r0.lt (rfl), trivial⟩ (by simp)) ?_
  intro QQ hQ
  -- 0: build<107> 5:true
  refine stepK rfl (by kernel_rfl) (fun K hK => ?_); go_simp
  apply Exists.intro; apply And.intro; (focus (intro wk hk; go_simp; exact ⟨rfl, rfl⟩)); refine hK _ _ ?_; clear hK K
  -- 1: store<107> *t2 = t54
  refine stepS _ rfl (by kernel_rfl) (fun K hK => ?_); go_simp
  refine ⟨?_, ?_⟩
  · exact sStoreO rfl rfl rfl rfl rfl rfl r0 id (by kernel_rfl) rfl (by kernel_rfl) (by decide) aggOf_congr
  rintro ⟨v1, lo1, hi1⟩ - - (rfl : v1 = undef)
  refine hK _ _ ?_; clear hK K
  -- 2: assign true
  refine stepKz rfl (fun K hK => ?_); go_simp
  apply Exists.intro; apply And.intro; (focus (intro wk hk; go_simp; exact ⟨rfl, rfl⟩)); refine hK _ _ ?_; clear hK K
  refine stepN ?_
  refine hQ _ _ ?_
  intro w9 hT hG hF
  have x0 : Row w9 w.heap.size 107 (#[.int .i64 0, .bool false, .int .i64 0, .bool false, .int .i64 0, .bool true]) := hF 1 _ rfl rfl (by decide)
  have hl9 := Lib.hid (hl.trans (hT.below_of hl.size (by intro c hc; have hc' : c = w.heap.size := hc; omega)))
  clear hT hG hF hQ QQ L hl r0
  go_wp2_with fail
  refine bodyPost_ret (results_ct rfl aggT107 rfl x0 rfl) rfl ?_
  exact ⟨by kernel_rfl, hl9.out⟩
set_option maxRecDepth 100000 in
set_option maxHeartbeats 4000000 in
theorem of_28 (w : World) : Calls Try.prog 131 #[.int .i64 28] w (OfP w 28) := by
  go_enter Try.func131, Try.ntmps131
  go_upto_region 21 with (fail)
  refine wp_abs (Mem w [(w.heap.size, 107, #[.int .i64 0, .bool false, .int .i64 0, .bool false, .int .i64 0, .bool false])]) ⟨by go_grown, by (repeat (first | (refine Row.new_at ?_; simp; done) | refine Row.alloc ?_ _)), trivial⟩ ?_
  intro w0 hM
  obtain ⟨hl, r0, -⟩ := hM
  let L : List Sp := [sO 1 (w.heap.size) 107 [0] (fun g => aggOf g 0)]
  refine wp_region_six0 (shs L) (look6 L) (fun c => c = w.heap.size) (by kernel_rfl) (by kernel_rfl) (mk_St L [1] [1] (by kernel_rfl) (by kernel_rfl) ⟨ok_O aggOf_congr r0.lt (rfl), trivial⟩ (by simp)) ?_
  intro QQ hQ
  -- 0: build<107> 0:2
  refine stepK rfl (by kernel_rfl) (fun K hK => ?_); go_simp
  apply Exists.intro; apply And.intro; (focus (intro wk hk; go_simp; exact ⟨rfl, rfl⟩)); refine hK _ _ ?_; clear hK K
  -- 1: store<107> *t2 = t27
  refine stepS _ rfl (by kernel_rfl) (fun K hK => ?_); go_simp
  refine ⟨?_, ?_⟩
  · exact sStoreO rfl rfl rfl rfl rfl rfl r0 id (by kernel_rfl) rfl (by kernel_rfl) (by decide) aggOf_congr
  rintro ⟨v1, lo1, hi1⟩ - - (rfl : v1 = undef)
  refine hK _ _ ?_; clear hK K
  -- 2: assign true
  refine stepKz rfl (fun K hK => ?_); go_simp
  apply Exists.intro; apply And.intro; (focus (intro wk hk; go_simp; exact ⟨rfl, rfl⟩)); refine hK _ _ ?_; clear hK K
  refine stepN ?_
  refine hQ _ _ ?_
  intro w9 hT hG hF
  have x0 : Row w9 w.heap.size 107 (#[.int .i64 2, .bool false, .int .i64 0, .bool false, .int .i64 0, .bool false]) := hF 1 _ rfl rfl (by decide)
  have hl9 := Lib.hid (hl.trans (hT.below_of hl.size (by intro c hc; have hc' : c = w.heap.size := hc; omega)))
  clear hT hG hF hQ QQ L hl r0
  go_wp2_with fail
  refine bodyPost_ret (results_ct rfl aggT107 rfl x0 rfl) rfl ?_
  exact ⟨by kernel_rfl, hl9.out⟩
set_option maxRecDepth 100000 in
set_option maxHeartbeats 16000000 in
theorem of_no (k : Int) (hk : k < 1 ∨ 28 < k) (w : World) : Calls Try.prog 131 #[.int .i64 k] w (OfP w k) := by
  have h1 : shpOf k = shpZ := by unfold shpOf; rw [if_neg (by omega)]
  have h2 : okK k = false := by
    unfold okK
    rcases hk with h | h
    · rw [decide_eq_false (by omega : ¬ 1 ≤ k), Bool.false_and]
    · rw [decide_eq_false (by omega : ¬ k ≤ 28), Bool.and_false]
  have q1 : (k == 1) = false := by rw [beq_eq_false_iff_ne]; omega
  have q2 : (k == 2) = false := by rw [beq_eq_false_iff_ne]; omega
  have q3 : (k == 3) = false := by rw [beq_eq_false_iff_ne]; omega
  have q4 : (k == 4) = false := by rw [beq_eq_false_iff_ne]; omega
  have q5 : (k == 5) = false := by rw [beq_eq_false_iff_ne]; omega
  have q6 : (k == 6) = false := by rw [beq_eq_false_iff_ne]; omega
  have q7 : (k == 7) = false := by rw [beq_eq_false_iff_ne]; omega
  have q8 : (k == 8) = false := by rw [beq_eq_false_iff_ne]; omega
  have q9 : (k == 9) = false := by rw [beq_eq_false_iff_ne]; omega
  have q10 : (k == 10) = false := by rw [beq_eq_false_iff_ne]; omega
  have q11 : (k == 11) = false := by rw [beq_eq_false_iff_ne]; omega
  have q12 : (k == 12) = false := by rw [beq_eq_false_iff_ne]; omega
  have q13 : (k == 13) = false := by rw [beq_eq_false_iff_ne]; omega
  have q14 : (k == 14) = false := by rw [beq_eq_false_iff_ne]; omega
  have q15 : (k == 15) = false := by rw [beq_eq_false_iff_ne]; omega
  have q16 : (k == 16) = false := by rw [beq_eq_false_iff_ne]; omega
  have q17 : (k == 17) = false := by rw [beq_eq_false_iff_ne]; omega
  have q18 : (k == 18) = false := by rw [beq_eq_false_iff_ne]; omega
  have q19 : (k == 19) = false := by rw [beq_eq_false_iff_ne]; omega
  have q20 : (k == 20) = false := by rw [beq_eq_false_iff_ne]; omega
  have q21 : (k == 21) = false := by rw [beq_eq_false_iff_ne]; omega
  have q22 : (k == 22) = false := by rw [beq_eq_false_iff_ne]; omega
  have q23 : (k == 23) = false := by rw [beq_eq_false_iff_ne]; omega
  have q24 : (k == 24) = false := by rw [beq_eq_false_iff_ne]; omega
  have q25 : (k == 25) = false := by rw [beq_eq_false_iff_ne]; omega
  have q26 : (k == 26) = false := by rw [beq_eq_false_iff_ne]; omega
  have q27 : (k == 27) = false := by rw [beq_eq_false_iff_ne]; omega
  have q28 : (k == 28) = false := by rw [beq_eq_false_iff_ne]; omega
  have HH := Lib.hid (show _ ∧ _ from ⟨h1, h2⟩)
  clear h1 h2 hk
  go_enter Try.func131, Try.ntmps131
  go_upto_region 41 with (fail)
  refine wp_abs (Mem w [(w.heap.size, 107, #[.int .i64 0, .bool false, .int .i64 0, .bool false, .int .i64 0, .bool false])]) ⟨by go_grown, by (repeat (first | (refine Row.new_at ?_; simp; done) | refine Row.alloc ?_ _)), trivial⟩ ?_
  intro w0 hM
  obtain ⟨hl, r0, -⟩ := hM
  let L : List Sp := [sO 1 (w.heap.size) 107 [0] (fun g => aggOf g 0)]
  refine wp_region_six0 (shs L) (look6 L) (fun c => c = w.heap.size) (by kernel_rfl) (by kernel_rfl) (mk_St L [1] [1] (by kernel_rfl) (by kernel_rfl) ⟨ok_O aggOf_congr r0.lt (rfl), trivial⟩ (by simp)) ?_
  intro QQ hQ
  -- 0: build<107> 
  refine stepK rfl (by kernel_rfl) (fun K hK => ?_); go_simp
  apply Exists.intro; apply And.intro; (focus (intro wk hk; go_simp; exact ⟨rfl, rfl⟩)); refine hK _ _ ?_; clear hK K
  -- 1: store<107> *t2 = t55
  refine stepS _ rfl (by kernel_rfl) (fun K hK => ?_); go_simp
  refine ⟨?_, ?_⟩
  · exact sStoreO rfl rfl rfl rfl rfl rfl r0 id (by kernel_rfl) rfl (by kernel_rfl) (by decide) aggOf_congr
  rintro ⟨v1, lo1, hi1⟩ - - (rfl : v1 = undef)
  refine hK _ _ ?_; clear hK K
  -- 2: assign false
  refine stepKz rfl (fun K hK => ?_); go_simp
  apply Exists.intro; apply And.intro; (focus (intro wk hk; go_simp; exact ⟨rfl, rfl⟩)); refine hK _ _ ?_; clear hK K
  refine stepN ?_
  refine hQ _ _ ?_
  intro w9 hT hG hF
  have x0 : Row w9 w.heap.size 107 (#[.int .i64 0, .bool false, .int .i64 0, .bool false, .int .i64 0, .bool false]) := hF 1 _ rfl rfl (by decide)
  have hl9 := Lib.hid (hl.trans (hT.below_of hl.size (by intro c hc; have hc' : c = w.heap.size := hc; omega)))
  clear hT hG hF hQ QQ L hl r0 q1 q2 q3 q4 q5 q6 q7 q8 q9 q10 q11 q12 q13 q14 q15 q16 q17 q18 q19 q20 q21 q22 q23 q24 q25 q26 q27 q28
  go_wp2_with fail
  refine bodyPost_ret (results_ct rfl aggT107 rfl x0 rfl) rfl ?_
  exact ⟨by rw [HH.out.1, HH.out.2]; rfl, hl9.out⟩
theorem txof_any (k : Int) (w : World) : Calls Try.prog 131 #[.int .i64 k] w (OfP w k) := by
  by_cases h : k < 1 ∨ 28 < k
  · exact of_no k h w
  · have h2 : k = 1 ∨ k = 2 ∨ k = 3 ∨ k = 4 ∨ k = 5 ∨ k = 6 ∨ k = 7 ∨ k = 8 ∨ k = 9 ∨ k = 10 ∨ k = 11 ∨ k = 12 ∨ k = 13 ∨ k = 14 ∨ k = 15 ∨ k = 16 ∨ k = 17 ∨ k = 18 ∨ k = 19 ∨ k = 20 ∨ k = 21 ∨ k = 22 ∨ k = 23 ∨ k = 24 ∨ k = 25 ∨ k = 26 ∨ k = 27 ∨ k = 28 := by omega
    rcases h2 with rfl | rfl | rfl | rfl | rfl | rfl | rfl | rfl | rfl | rfl | rfl | rfl | rfl | rfl | rfl | rfl | rfl | rfl | rfl | rfl | rfl | rfl | rfl | rfl | rfl | rfl | rfl | rfl
    · exact of_1 w
    · exact of_2 w
    · exact of_3 w
    · exact of_4 w
    · exact of_5 w
    · exact of_6 w
    · exact of_7 w
    · exact of_8 w
    · exact of_9 w
    · exact of_10 w
    · exact of_11 w
    · exact of_12 w
    · exact of_13 w
    · exact of_14 w
    · exact of_15 w
    · exact of_16 w
    · exact of_17 w
    · exact of_18 w
    · exact of_19 w
    · exact of_20 w
    · exact of_21 w
    · exact of_22 w
    · exact of_23 w
    · exact of_24 w
    · exact of_25 w
    · exact of_26 w
    · exact of_27 w
    · exact of_28 w
/-- the kinds' words -/
def txB : List ByteArray := [ByteArray.mk #[117, 110, 107, 110, 111, 119, 110], ByteArray.mk #[109, 105, 110, 116], ByteArray.mk #[112, 97, 117, 115, 101], ByteArray.mk #[115, 116, 114, 97, 116, 101, 103, 121], ByteArray.mk #[97, 108, 108, 111, 119], ByteArray.mk #[116, 114, 97, 110, 115, 102, 101, 114], ByteArray.mk #[100, 101, 112, 111, 115, 105, 116], ByteArray.mk #[100, 111, 110, 97, 116, 101], ByteArray.mk #[111, 112, 101, 114, 97, 116, 111, 114], ByteArray.mk #[100, 101, 108, 101, 103, 97, 116, 101], ByteArray.mk #[117, 110, 100, 101, 108, 101, 103, 97, 116, 101], ByteArray.mk #[114, 101, 100, 101, 108, 101, 103, 97, 116, 101], ByteArray.mk #[101, 120, 105, 116], ByteArray.mk #[99, 111, 109, 112, 108, 101, 116, 101], ByteArray.mk #[100, 101, 108, 97, 121], ByteArray.mk #[115, 101, 114, 118, 105, 99, 101], ByteArray.mk #[115, 101, 116], ByteArray.mk #[105, 110, 99, 108, 117, 100, 101], ByteArray.mk #[101, 120, 99, 108, 117, 100, 101], ByteArray.mk #[106, 111, 105, 110], ByteArray.mk #[108, 101, 97, 118, 101], ByteArray.mk #[97, 108, 108, 111, 99, 97, 116, 101], ByteArray.mk #[115, 108, 97, 115, 104], ByteArray.mk #[115, 117, 98, 109, 105, 116], ByteArray.mk #[112, 111, 115, 116], ByteArray.mk #[100, 105, 115, 97, 98, 108, 101], ByteArray.mk #[99, 108, 97, 105, 109, 101, 114], ByteArray.mk #[99, 108, 97, 105, 109], ByteArray.mk #[115, 112, 108, 105, 116]]
def txU : ByteArray := ByteArray.mk #[117, 110, 107, 110, 111, 119, 110]
def txOf (k : Int) : ByteArray := if 1 ≤ k ∧ k ≤ 28 then txB.getD k.toNat txU else txU
def txA : Array Value := #[.string (ByteArray.mk #[117, 110, 107, 110, 111, 119, 110]), .string (ByteArray.mk #[109, 105, 110, 116]), .string (ByteArray.mk #[112, 97, 117, 115, 101]), .string (ByteArray.mk #[115, 116, 114, 97, 116, 101, 103, 121]), .string (ByteArray.mk #[97, 108, 108, 111, 119]), .string (ByteArray.mk #[116, 114, 97, 110, 115, 102, 101, 114]), .string (ByteArray.mk #[100, 101, 112, 111, 115, 105, 116]), .string (ByteArray.mk #[100, 111, 110, 97, 116, 101]), .string (ByteArray.mk #[111, 112, 101, 114, 97, 116, 111, 114]), .string (ByteArray.mk #[100, 101, 108, 101, 103, 97, 116, 101]), .string (ByteArray.mk #[117, 110, 100, 101, 108, 101, 103, 97, 116, 101]), .string (ByteArray.mk #[114, 101, 100, 101, 108, 101, 103, 97, 116, 101]), .string (ByteArray.mk #[101, 120, 105, 116]), .string (ByteArray.mk #[99, 111, 109, 112, 108, 101, 116, 101]), .string (ByteArray.mk #[100, 101, 108, 97, 121]), .string (ByteArray.mk #[115, 101, 114, 118, 105, 99, 101]), .string (ByteArray.mk #[115, 101, 116]), .string (ByteArray.mk #[105, 110, 99, 108, 117, 100, 101]), .string (ByteArray.mk #[101, 120, 99, 108, 117, 100, 101]), .string (ByteArray.mk #[106, 111, 105, 110]), .string (ByteArray.mk #[108, 101, 97, 118, 101]), .string (ByteArray.mk #[97, 108, 108, 111, 99, 97, 116, 101]), .string (ByteArray.mk #[115, 108, 97, 115, 104]), .string (ByteArray.mk #[115, 117, 98, 109, 105, 116]), .string (ByteArray.mk #[112, 111, 115, 116]), .string (ByteArray.mk #[100, 105, 115, 97, 98, 108, 101]), .string (ByteArray.mk #[99, 108, 97, 105, 109, 101, 114]), .string (ByteArray.mk #[99, 108, 97, 105, 109]), .string (ByteArray.mk #[115, 112, 108, 105, 116])]
def txZ : Array Value := #[.string (ByteArray.mk #[]), .string (ByteArray.mk #[]), .string (ByteArray.mk #[]), .string (ByteArray.mk #[]), .string (ByteArray.mk #[]), .string (ByteArray.mk #[]), .string (ByteArray.mk #[]), .string (ByteArray.mk #[]), .string (ByteArray.mk #[]), .string (ByteArray.mk #[]), .string (ByteArray.mk #[]), .string (ByteArray.mk #[]), .string (ByteArray.mk #[]), .string (ByteArray.mk #[]), .string (ByteArray.mk #[]), .string (ByteArray.mk #[]), .string (ByteArray.mk #[]), .string (ByteArray.mk #[]), .string (ByteArray.mk #[]), .string (ByteArray.mk #[]), .string (ByteArray.mk #[]), .string (ByteArray.mk #[]), .string (ByteArray.mk #[]), .string (ByteArray.mk #[]), .string (ByteArray.mk #[]), .string (ByteArray.mk #[]), .string (ByteArray.mk #[]), .string (ByteArray.mk #[]), .string (ByteArray.mk #[])]
theorem tx_at : ∀ i, i < 29 → txA[i]? = some (.string (txB.getD i txU)) := fun i hi => by
  have h : i = 0 ∨ i = 1 ∨ i = 2 ∨ i = 3 ∨ i = 4 ∨ i = 5 ∨ i = 6 ∨ i = 7 ∨ i = 8 ∨ i = 9 ∨ i = 10 ∨ i = 11 ∨ i = 12 ∨ i = 13 ∨ i = 14 ∨ i = 15 ∨ i = 16 ∨ i = 17 ∨ i = 18 ∨ i = 19 ∨ i = 20 ∨ i = 21 ∨ i = 22 ∨ i = 23 ∨ i = 24 ∨ i = 25 ∨ i = 26 ∨ i = 27 ∨ i = 28 := by omega
  rcases h with rfl | rfl | rfl | rfl | rfl | rfl | rfl | rfl | rfl | rfl | rfl | rfl | rfl | rfl | rfl | rfl | rfl | rfl | rfl | rfl | rfl | rfl | rfl | rfl | rfl | rfl | rfl | rfl | rfl <;> rfl
set_option maxRecDepth 100000 in
set_option maxHeartbeats 8000000 in
theorem txname_at (k : Int) (w : World) : Calls Try.prog 132 #[.int .i64 k] w fun e w' => e = .returned (.string (txOf k)) ∧ Below w.heap.size w w' := by
  obtain ⟨S, hS⟩ : ∃ S, txOf k = S := ⟨_, rfl⟩
  rw [hS]
  have hS' := Lib.hid hS
  clear hS
  go_enter Try.func132, Try.ntmps132
  go_upto_region 1 with (fail)
  let L : List Sp := [sV 0 [] [] (fun u => u = .agg txA), sA 1 196 [2] txZ, sT 2 1 196 [0] (fun g => aggOf g 0)]
  refine wp_region_six0 (shs L) (look6 L) (None_) (by kernel_rfl) (by kernel_rfl) (mk_St L [] [] (by kernel_rfl) (by kernel_rfl) ⟨ok_V ⟨_, rfl⟩, ok_A, ok_T aggOf_congr, trivial⟩ (by simp)) ?_
  intro QQ hQ
  -- 0: build<196> 0:str(ByteArray.mk (List.toArray (List.cons 117 (List.cons 110 (List.cons 107 (List.c, 1:str(ByteArray.mk (List.toArray (List.cons 109 (List.cons 105 (List.cons 110 (List.c, 2:str(ByteArray.mk (List.toArray (List.cons 112 (List.cons 97 (List.cons 117 (List.co, 3:str(ByteArray.mk (List.toArray (List.cons 115 (List.cons 116 (List.cons 114 (List.c, 4:str(ByteArray.mk (List.toArray (List.cons 97 (List.cons 108 (List.cons 108 (List.co, 5:str(ByteArray.mk (List.toArray (List.cons 116 (List.cons 114 (List.cons 97 (List.co, 6:str(ByteArray.mk (List.toArray (List.cons 100 (List.cons 101 (List.cons 112 (List.c, 7:str(ByteArray.mk (List.toArray (List.cons 100 (List.cons 111 (List.cons 110 (List.c, 8:str(ByteArray.mk (List.toArray (List.cons 111 (List.cons 112 (List.cons 101 (List.c, 9:str(ByteArray.mk (List.toArray (List.cons 100 (List.cons 101 (List.cons 108 (List.c, 10:str(ByteArray.mk (List.toArray (List.cons 117 (List.cons 110 (List.cons 100 (List.c, 11:str(ByteArray.mk (List.toArray (List.cons 114 (List.cons 101 (List.cons 100 (List.c, 12:str(ByteArray.mk (List.toArray (List.cons 101 (List.cons 120 (List.cons 105 (List.c, 13:str(ByteArray.mk (List.toArray (List.cons 99 (List.cons 111 (List.cons 109 (List.co, 14:str(ByteArray.mk (List.toArray (List.cons 100 (List.cons 101 (List.cons 108 (List.c, 15:str(ByteArray.mk (List.toArray (List.cons 115 (List.cons 101 (List.cons 114 (List.c, 16:str(ByteArray.mk (List.toArray (List.cons 115 (List.cons 101 (List.cons 116 List.ni, 17:str(ByteArray.mk (List.toArray (List.cons 105 (List.cons 110 (List.cons 99 (List.co, 18:str(ByteArray.mk (List.toArray (List.cons 101 (List.cons 120 (List.cons 99 (List.co, 19:str(ByteArray.mk (List.toArray (List.cons 106 (List.cons 111 (List.cons 105 (List.c, 20:str(ByteArray.mk (List.toArray (List.cons 108 (List.cons 101 (List.cons 97 (List.co, 21:str(ByteArray.mk (List.toArray (List.cons 97 (List.cons 108 (List.cons 108 (List.co, 22:str(ByteArray.mk (List.toArray (List.cons 115 (List.cons 108 (List.cons 97 (List.co, 23:str(ByteArray.mk (List.toArray (List.cons 115 (List.cons 117 (List.cons 98 (List.co, 24:str(ByteArray.mk (List.toArray (List.cons 112 (List.cons 111 (List.cons 115 (List.c, 25:str(ByteArray.mk (List.toArray (List.cons 100 (List.cons 105 (List.cons 115 (List.c, 26:str(ByteArray.mk (List.toArray (List.cons 99 (List.cons 108 (List.cons 97 (List.con, 27:str(ByteArray.mk (List.toArray (List.cons 99 (List.cons 108 (List.cons 97 (List.con, 28:str(ByteArray.mk (List.toArray (List.cons 115 (List.cons 112 (List.cons 108 (List.c
  refine stepS _ rfl (by kernel_rfl) (fun K hK => ?_); go_simp
  refine ⟨?_, ?_⟩
  · intro wk hk hg hu; go_simp; exact left_V (p := fun u => u = .agg txA) rfl (Below.refl _ _) (by unfold txA; rfl)
  rintro ⟨v0, lo0, hi0⟩ - - (rfl : v0 = _)
  refine hK _ _ ?_; clear hK K
  -- 1: alloc<196>
  refine stepS _ rfl (by kernel_rfl) (fun K hK => ?_); go_simp
  refine ⟨?_, ?_⟩
  · intro wk hk hg hu; go_simp; exact left_A rfl rfl
  rintro ⟨v1, lo1, hi1⟩ hlo1 hhi1 ⟨e1, f1⟩
  replace e1 : v1 = .pointer (some ⟨lo1, 0, none⟩) := e1; replace f1 : hi1 = lo1 + 1 := f1; replace hlo1 : _ ≤ lo1 := hlo1; subst e1; subst f1
  refine hK _ _ ?_; clear hK K
  -- 2: store<196> *t3 = t4
  refine stepS _ rfl (by kernel_rfl) (fun K hK => ?_); go_simp
  refine ⟨?_, ?_⟩
  · exact sStoreT rfl rfl rfl rfl rfl rfl rfl (by kernel_rfl) rfl (by kernel_rfl) (by decide) aggOf_congr
  rintro ⟨v2, lo2, hi2⟩ - - (rfl : v2 = undef)
  refine hK _ _ ?_; clear hK K
  refine stepN ?_
  refine hQ _ _ ?_
  intro w1 hT hG hF
  have hb := hT.below
  have r3 : Row w1 lo1 196 txA := (hF 2 _ rfl rfl (by decide)).2
  clear hT hG hF hQ QQ L
  by_cases h1 : k < 0
  · have e : S = txU := by rw [← hS'.out]; unfold txOf; rw [if_neg (by omega)]
    subst e
    have c0 : w1.cell? ⟨lo1, 0, none⟩ = some (.string txU) := r3.cell 0
    have H := Lib.hid hb
    clear hS' hb r3 hlo1
    go_wp2_with fail
    go_ret
    exact ⟨by first | rfl | (simp; done), H.out⟩
  · by_cases h2 : 29 ≤ k
    · have e : S = txU := by rw [← hS'.out]; unfold txOf; rw [if_neg (by omega)]
      subst e
      have c0 : w1.cell? ⟨lo1, 0, none⟩ = some (.string txU) := r3.cell 0
      have H := Lib.hid hb
      clear hS' hb r3 hlo1
      go_wp2_with fail
      go_ret
      exact ⟨by first | rfl | (simp; done), H.out⟩
    · obtain ⟨i, hi⟩ : ∃ i : Nat, k = (i : Int) := ⟨k.toNat, by omega⟩
      have e : txB.getD i txU = S := by
        rw [← hS'.out, hi]
        unfold txOf
        by_cases h0 : i = 0
        · subst h0; rw [if_neg (by omega)]; rfl
        · rw [if_pos (by omega), Int.toNat_natCast]
      have c0 : w1.cell? ⟨lo1, i, none⟩ = some (.string S) := by rw [← e, ← tx_at i (by omega)]; exact r3.cell i
      have hlt : (i : Int) < 29 := by omega
      have hge : (0 : Int) ≤ (i : Int) := by omega
      have h1' : ¬ (i : Int) < 0 := by omega
      have h2' : ¬ (29 : Int) ≤ (i : Int) := by omega
      have H := Lib.hid hb
      clear hS' e hb r3 hlo1 h1 h2
      subst hi
      go_wp2_with fail
      go_ret
      exact ⟨by first | rfl | (simp; done), H.out⟩
set_option maxRecDepth 100000 in
set_option maxHeartbeats 4000000 in
theorem within_at (n lo hi : Int) (w : World) : Calls Try.prog 207 #[.int .i64 n, .int .i64 lo, .int .i64 hi] w fun r w' => r = .returned (.bool (decide (lo ≤ n ∧ n ≤ hi))) ∧ Below w.heap.size w w' := by
  by_cases h1 : lo ≤ n
  · by_cases h2 : n ≤ hi
    · rw [decide_eq_true ⟨h1, h2⟩]
      go_enter Try.func207, Try.ntmps207
      go_wp2_with fail
      go_ret
      exact ⟨by first | rfl | (simp; done), Below.refl _ _⟩
    · rw [decide_eq_false (fun h => h2 h.2)]
      go_enter Try.func207, Try.ntmps207
      go_wp2_with fail
      go_ret
      exact ⟨by first | rfl | (simp; done), Below.refl _ _⟩
  · rw [decide_eq_false (fun h => h1 h.1)]
    go_enter Try.func207, Try.ntmps207
    go_wp2_with fail
    go_ret
    exact ⟨by first | rfl | (simp; done), Below.refl _ _⟩
set_option maxRecDepth 100000 in
set_option maxHeartbeats 4000000 in
theorem rwithin_at (n lo hi : Int) (w : World) : Calls Try.prog 242 #[.int .i64 n, .int .i64 lo, .int .i64 hi] w fun r w' => r = .returned (.bool (decide (lo ≤ n ∧ n ≤ hi))) ∧ Below w.heap.size w w' := by
  by_cases h1 : lo ≤ n
  · by_cases h2 : n ≤ hi
    · rw [decide_eq_true ⟨h1, h2⟩]
      go_enter Try.func242, Try.ntmps242
      go_wp2_with fail
      go_ret
      exact ⟨by first | rfl | (simp; done), Below.refl _ _⟩
    · rw [decide_eq_false (fun h => h2 h.2)]
      go_enter Try.func242, Try.ntmps242
      go_wp2_with fail
      go_ret
      exact ⟨by first | rfl | (simp; done), Below.refl _ _⟩
  · rw [decide_eq_false (fun h => h1 h.1)]
    go_enter Try.func242, Try.ntmps242
    go_wp2_with fail
    go_ret
    exact ⟨by first | rfl | (simp; done), Below.refl _ _⟩
end Go.Proofs.Ytpdenhmkpiafiaa
