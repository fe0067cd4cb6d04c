/-
 What the statement rests on, part 6: TxOf Amt3 TxGood TxDef TxForm TxMany TxGet TxSet.
-/
import Derived.Deep.MidRow
import Derived.Deep.Upon
import Derived.Test.YtpdenhmkpiafiaaQTR1
import Derived.Test.YtpdenhmkpiafiaaQTR2
import Derived.Test.YtpdenhmkpiafiaaQTR4
namespace Go.Proofs.Ytpdenhmkpiafiaa
open Go Go.RowKit K6
structure Shp where
 n : Int
 t : Bool
 a : Int
 e : Bool
 h : Int
 c : Bool
def Shp.cs (s : Shp) : Array Value := #[.int .i64 s.n, .bool s.t, .int .i64 s.a, .bool s.e, .int .i64 s.h, .bool s.c]
def shpL : List Shp := [⟨2, false, 1, false, 0, false⟩, ⟨1, false, 0, false, 0, false⟩, ⟨1, false, 0, false, 0, false⟩, ⟨2, false, 0, false, 0, false⟩, ⟨2, false, 1, false, 0, false⟩, ⟨1, false, 1, false, 0, false⟩, ⟨1, false, 1, false, 0, false⟩, ⟨1, false, 0, false, 0, false⟩, ⟨1, false, 0, false, 0, false⟩, ⟨1, false, 0, false, 0, false⟩, ⟨1, false, 0, false, 0, false⟩, ⟨1, false, 1, false, 0, false⟩, ⟨2, false, 0, false, 0, false⟩, ⟨1, false, 0, false, 0, false⟩, ⟨0, false, 0, false, 0, false⟩, ⟨0, true, 0, false, 0, false⟩, ⟨2, false, 0, false, 0, false⟩, ⟨2, false, 0, false, 0, false⟩, ⟨2, false, 0, false, 0, false⟩, ⟨3, false, 0, false, 0, false⟩, ⟨3, false, 1, false, 0, false⟩, ⟨2, true, 0, true, 0, false⟩, ⟨1, false, 1, false, 0, false⟩, ⟨0, false, 0, false, 1, false⟩, ⟨1, false, 0, false, 0, false⟩, ⟨1, false, 0, false, 0, false⟩, ⟨0, false, 0, false, 0, true⟩, ⟨2, false, 0, false, 0, false⟩]
def shpZ : Shp := ⟨0, false, 0, false, 0, false⟩
def shpOf (k : Int) : Shp := if 1 ≤ k ∧ k ≤ 28 then shpL.getD (k - 1).toNat shpZ else shpZ
def okK (k : Int) : Bool := decide (1 ≤ k) && decide (k ≤ 28)
def OfP (w : World) (k : Int) (r : Ending) (w' : World) : Prop := r = .returned (.tuple #[.agg (shpOf k).cs, .bool (okK k)]) ∧ Below w.heap.size w w'
theorem aggT107 : AggT Try.prog 107 6 := ⟨⟨_, Try.underlying107, rfl⟩, by kernel_rfl⟩
set_option maxRecDepth 100000 in
set_option maxHeartbeats 4000000 in
theorem of_1 (w : World) : Calls Try.prog 131 #[.int .i64 1] w (OfP w 1) := by
 go_enter Try.func131, Try.ntmps131
 go_upto_region 4 with (fail)
 refine wp_abs (Mem w [(w.heap.size, 107, #[.int .i64 0, .bool false, .int .i64 0, .bool false, .int .i64 0, .bool false])]) ⟨by go_grown, by (repeat (first | (refine Row.new_at ?_; simp; done) | refine Row.alloc ?_ _)), trivial⟩ ?_
 intro w0 hM
 obtain ⟨hl, r0, -⟩ := hM
 let L : List Sp := [sO 1 (w.heap.size) 107 [0] (fun g => aggOf g 0)]
 refine wp_region_six0 (shs L) (look6 L) (fun c => c = w.heap.size) (by kernel_rfl) (by kernel_rfl) (mk_St L [1] [1] (by kernel_rfl) (by kernel_rfl) ⟨ok_O aggOf_congr r0.lt (rfl), trivial⟩ (by simp)) ?_
 intro QQ hQ
 refine stepK rfl (by kernel_rfl) (fun K hK => ?_); go_simp
 apply Exists.intro; apply And.intro; (focus (intro wk hk; go_simp; exact ⟨rfl, rfl⟩)); refine hK _ _ ?_; clear hK K
 refine stepS _ rfl (by kernel_rfl) (fun K hK => ?_); go_simp
 refine ⟨?_, ?_⟩
 ·exact sStoreO rfl rfl rfl rfl rfl rfl r0 id (by kernel_rfl) rfl (by kernel_rfl) (by decide) aggOf_congr
 rintro ⟨v1, lo1, hi1⟩ - - (rfl : v1 = undef)
 refine hK _ _ ?_; clear hK K
 refine stepKz rfl (fun K hK => ?_); go_simp
 apply Exists.intro; apply And.intro; (focus (intro wk hk; go_simp; exact ⟨rfl, rfl⟩)); refine hK _ _ ?_; clear hK K
 refine stepN ?_
 refine hQ _ _ ?_
 intro w9 hT hG hF
 have x0 : Row w9 w.heap.size 107 (#[.int .i64 2, .bool false, .int .i64 1, .bool false, .int .i64 0, .bool false]) := hF 1 _ rfl rfl (by decide)
 have hl9 := Lib.hid (hl.trans (hT.below_of hl.size (by intro c hc; have hc' : c = w.heap.size := hc; omega)))
 clear hT hG hF hQ QQ L hl r0
 go_wp2_with fail
 refine bodyPost_ret (results_ct rfl aggT107 rfl x0 rfl) rfl ?_
 exact ⟨by kernel_rfl, hl9.out⟩
set_option maxRecDepth 100000 in
set_option maxHeartbeats 4000000 in
theorem of_2 (w : World) : Calls Try.prog 131 #[.int .i64 2] w (OfP w 2) := by
 go_enter Try.func131, Try.ntmps131
 go_upto_region 14 with (fail)
 refine wp_abs (Mem w [(w.heap.size, 107, #[.int .i64 0, .bool false, .int .i64 0, .bool false, .int .i64 0, .bool false])]) ⟨by go_grown, by (repeat (first | (refine Row.new_at ?_; simp; done) | refine Row.alloc ?_ _)), trivial⟩ ?_
 intro w0 hM
 obtain ⟨hl, r0, -⟩ := hM
 let L : List Sp := [sO 1 (w.heap.size) 107 [0] (fun g => aggOf g 0)]
 refine wp_region_six0 (shs L) (look6 L) (fun c => c = w.heap.size) (by kernel_rfl) (by kernel_rfl) (mk_St L [1] [1] (by kernel_rfl) (by kernel_rfl) ⟨ok_O aggOf_congr r0.lt (rfl), trivial⟩ (by simp)) ?_
 intro QQ hQ
 refine stepK rfl (by kernel_rfl) (fun K hK => ?_); go_simp
 apply Exists.intro; apply And.intro; (focus (intro wk hk; go_simp; exact ⟨rfl, rfl⟩)); refine hK _ _ ?_; clear hK K
 refine stepS _ rfl (by kernel_rfl) (fun K hK => ?_); go_simp
 refine ⟨?_, ?_⟩
 ·exact sStoreO rfl rfl rfl rfl rfl rfl r0 id (by kernel_rfl) rfl (by kernel_rfl) (by decide) aggOf_congr
 rintro ⟨v1, lo1, hi1⟩ - - (rfl : v1 = undef)
 refine hK _ _ ?_; clear hK K
 refine stepKz rfl (fun K hK => ?_); go_simp
 apply Exists.intro; apply And.intro; (focus (intro wk hk; go_simp; exact ⟨rfl, rfl⟩)); refine hK _ _ ?_; clear hK K
 refine stepN ?_
 refine hQ _ _ ?_
 intro w9 hT hG hF
 have x0 : Row w9 w.heap.size 107 (#[.int .i64 1, .bool false, .int .i64 0, .bool false, .int .i64 0, .bool false]) := hF 1 _ rfl rfl (by decide)
 have hl9 := Lib.hid (hl.trans (hT.below_of hl.size (by intro c hc; have hc' : c = w.heap.size := hc; omega)))
 clear hT hG hF hQ QQ L hl r0
 go_wp2_with fail
 refine bodyPost_ret (results_ct rfl aggT107 rfl x0 rfl) rfl ?_
 exact ⟨by kernel_rfl, hl9.out⟩
set_option maxRecDepth 100000 in
set_option maxHeartbeats 4000000 in
theorem of_3 (w : World) : Calls Try.prog 131 #[.int .i64 3] w (OfP w 3) := by
 go_enter Try.func131, Try.ntmps131
 go_upto_region 14 with (fail)
 refine wp_abs (Mem w [(w.heap.size, 107, #[.int .i64 0, .bool false, .int .i64 0, .bool false, .int .i64 0, .bool false])]) ⟨by go_grown, by (repeat (first | (refine Row.new_at ?_; simp; done) | refine Row.alloc ?_ _)), trivial⟩ ?_
 intro w0 hM
 obtain ⟨hl, r0, -⟩ := hM
 let L : List Sp := [sO 1 (w.heap.size) 107 [0] (fun g => aggOf g 0)]
 refine wp_region_six0 (shs L) (look6 L) (fun c => c = w.heap.size) (by kernel_rfl) (by kernel_rfl) (mk_St L [1] [1] (by kernel_rfl) (by kernel_rfl) ⟨ok_O aggOf_congr r0.lt (rfl), trivial⟩ (by simp)) ?_
 intro QQ hQ
 refine stepK rfl (by kernel_rfl) (fun K hK => ?_); go_simp
 apply Exists.intro; apply And.intro; (focus (intro wk hk; go_simp; exact ⟨rfl, rfl⟩)); refine hK _ _ ?_; clear hK K
 refine stepS _ rfl (by kernel_rfl) (fun K hK => ?_); go_simp
 refine ⟨?_, ?_⟩
 ·exact sStoreO rfl rfl rfl rfl rfl rfl r0 id (by kernel_rfl) rfl (by kernel_rfl) (by decide) aggOf_congr
 rintro ⟨v1, lo1, hi1⟩ - - (rfl : v1 = undef)
 refine hK _ _ ?_; clear hK K
 refine stepKz rfl (fun K hK => ?_); go_simp
 apply Exists.intro; apply And.intro; (focus (intro wk hk; go_simp; exact ⟨rfl, rfl⟩)); refine hK _ _ ?_; clear hK K
 refine stepN ?_
 refine hQ _ _ ?_
 intro w9 hT hG hF
 have x0 : Row w9 w.heap.size 107 (#[.int .i64 1, .bool false, .int .i64 0, .bool false, .int .i64 0, .bool false]) := hF 1 _ rfl rfl (by decide)
 have hl9 := Lib.hid (hl.trans (hT.below_of hl.size (by intro c hc; have hc' : c = w.heap.size := hc; omega)))
 clear hT hG hF hQ QQ L hl r0
 go_wp2_with fail
 refine bodyPost_ret (results_ct rfl aggT107 rfl x0 rfl) rfl ?_
 exact ⟨by kernel_rfl, hl9.out⟩
set_option maxRecDepth 100000 in
set_option maxHeartbeats 4000000 in
theorem of_4 (w : World) : Calls Try.prog 131 #[.int .i64 4] w (OfP w 4) := by
 go_enter Try.func131, Try.ntmps131
 go_upto_region 21 with (fail)
 refine wp_abs (Mem w [(w.heap.size, 107, #[.int .i64 0, .bool false, .int .i64 0, .bool false, .int .i64 0, .bool false])]) ⟨by go_grown, by (repeat (first | (refine Row.new_at ?_; simp; done) | refine Row.alloc ?_ _)), trivial⟩ ?_
 intro w0 hM
 obtain ⟨hl, r0, -⟩ := hM
 let L : List Sp := [sO 1 (w.heap.size) 107 [0] (fun g => aggOf g 0)]
 refine wp_region_six0 (shs L) (look6 L) (fun c => c = w.heap.size) (by kernel_rfl) (by kernel_rfl) (mk_St L [1] [1] (by kernel_rfl) (by kernel_rfl) ⟨ok_O aggOf_congr r0.lt (rfl), trivial⟩ (by simp)) ?_
 intro QQ hQ
 refine stepK rfl (by kernel_rfl) (fun K hK => ?_); go_simp
 apply Exists.intro; apply And.intro; (focus (intro wk hk; go_simp; exact ⟨rfl, rfl⟩)); refine hK _ _ ?_; clear hK K
 refine stepS _ rfl (by kernel_rfl) (fun K hK => ?_); go_simp
 refine ⟨?_, ?_⟩
 ·exact sStoreO rfl rfl rfl rfl rfl rfl r0 id (by kernel_rfl) rfl (by kernel_rfl) (by decide) aggOf_congr
 rintro ⟨v1, lo1, hi1⟩ - - (rfl : v1 = undef)
 refine hK _ _ ?_; clear hK K
 refine stepKz rfl (fun K hK => ?_); go_simp
 apply Exists.intro; apply And.intro; (focus (intro wk hk; go_simp; exact ⟨rfl, rfl⟩)); refine hK _ _ ?_; clear hK K
 refine stepN ?_
 refine hQ _ _ ?_
 intro w9 hT hG hF
 have x0 : Row w9 w.heap.size 107 (#[.int .i64 2, .bool false, .int .i64 0, .bool false, .int .i64 0, .bool false]) := hF 1 _ rfl rfl (by decide)
 have hl9 := Lib.hid (hl.trans (hT.below_of hl.size (by intro c hc; have hc' : c = w.heap.size := hc; omega)))
 clear hT hG hF hQ QQ L hl r0
 go_wp2_with fail
 refine bodyPost_ret (results_ct rfl aggT107 rfl x0 rfl) rfl ?_
 exact ⟨by kernel_rfl, hl9.out⟩
set_option maxRecDepth 100000 in
set_option maxHeartbeats 4000000 in
theorem of_5 (w : World) : Calls Try.prog 131 #[.int .i64 5] w (OfP w 5) := by
 go_enter Try.func131, Try.ntmps131
 go_upto_region 4 with (fail)
 refine wp_abs (Mem w [(w.heap.size, 107, #[.int .i64 0, .bool false, .int .i64 0, .bool false, .int .i64 0, .bool false])]) ⟨by go_grown, by (repeat (first | (refine Row.new_at ?_; simp; done) | refine Row.alloc ?_ _)), trivial⟩ ?_
 intro w0 hM
 obtain ⟨hl, r0, -⟩ := hM
 let L : List Sp := [sO 1 (w.heap.size) 107 [0] (fun g => aggOf g 0)]
 refine wp_region_six0 (shs L) (look6 L) (fun c => c = w.heap.size) (by kernel_rfl) (by kernel_rfl) (mk_St L [1] [1] (by kernel_rfl) (by kernel_rfl) ⟨ok_O aggOf_congr r0.lt (rfl), trivial⟩ (by simp)) ?_
 intro QQ hQ
 refine stepK rfl (by kernel_rfl) (fun K hK => ?_); go_simp
 apply Exists.intro; apply And.intro; (focus (intro wk hk; go_simp; exact ⟨rfl, rfl⟩)); refine hK _ _ ?_; clear hK K
 refine stepS _ rfl (by kernel_rfl) (fun K hK => ?_); go_simp
 refine ⟨?_, ?_⟩
 ·exact sStoreO rfl rfl rfl rfl rfl rfl r0 id (by kernel_rfl) rfl (by kernel_rfl) (by decide) aggOf_congr
 rintro ⟨v1, lo1, hi1⟩ - - (rfl : v1 = undef)
 refine hK _ _ ?_; clear hK K
 refine stepKz rfl (fun K hK => ?_); go_simp
 apply Exists.intro; apply And.intro; (focus (intro wk hk; go_simp; exact ⟨rfl, rfl⟩)); refine hK _ _ ?_; clear hK K
 refine stepN ?_
 refine hQ _ _ ?_
 intro w9 hT hG hF
 have x0 : Row w9 w.heap.size 107 (#[.int .i64 2, .bool false, .int .i64 1, .bool false, .int .i64 0, .bool false]) := hF 1 _ rfl rfl (by decide)
 have hl9 := Lib.hid (hl.trans (hT.below_of hl.size (by intro c hc; have hc' : c = w.heap.size := hc; omega)))
 clear hT hG hF hQ QQ L hl r0
 go_wp2_with fail
 refine bodyPost_ret (results_ct rfl aggT107 rfl x0 rfl) rfl ?_
 exact ⟨by kernel_rfl, hl9.out⟩
set_option maxRecDepth 100000 in
set_option maxHeartbeats 4000000 in
theorem of_6 (w : World) : Calls Try.prog 131 #[.int .i64 6] w (OfP w 6) := by
 go_enter Try.func131, Try.ntmps131
 go_upto_region 26 with (fail)
 refine wp_abs (Mem w [(w.heap.size, 107, #[.int .i64 0, .bool false, .int .i64 0, .bool false, .int .i64 0, .bool false])]) ⟨by go_grown, by (repeat (first | (refine Row.new_at ?_; simp; done) | refine Row.alloc ?_ _)), trivial⟩ ?_
 intro w0 hM
 obtain ⟨hl, r0, -⟩ := hM
 let L : List Sp := [sO 1 (w.heap.size) 107 [0] (fun g => aggOf g 0)]
 refine wp_region_six0 (shs L) (look6 L) (fun c => c = w.heap.size) (by kernel_rfl) (by kernel_rfl) (mk_St L [1] [1] (by kernel_rfl) (by kernel_rfl) ⟨ok_O aggOf_congr r0.lt (rfl), trivial⟩ (by simp)) ?_
 intro QQ hQ
 refine stepK rfl (by kernel_rfl) (fun K hK => ?_); go_simp
 apply Exists.intro; apply And.intro; (focus (intro wk hk; go_simp; exact ⟨rfl, rfl⟩)); refine hK _ _ ?_; clear hK K
 refine stepS _ rfl (by kernel_rfl) (fun K hK => ?_); go_simp
 refine ⟨?_, ?_⟩
 ·exact sStoreO rfl rfl rfl rfl rfl rfl r0 id (by kernel_rfl) rfl (by kernel_rfl) (by decide) aggOf_congr
 rintro ⟨v1, lo1, hi1⟩ - - (rfl : v1 = undef)
 refine hK _ _ ?_; clear hK K
 refine stepKz rfl (fun K hK => ?_); go_simp
 apply Exists.intro; apply And.intro; (focus (intro wk hk; go_simp; exact ⟨rfl, rfl⟩)); refine hK _ _ ?_; clear hK K
 refine stepN ?_
 refine hQ _ _ ?_
 intro w9 hT hG hF
 have x0 : Row w9 w.heap.size 107 (#[.int .i64 1, .bool false, .int .i64 1, .bool false, .int .i64 0, .bool false]) := hF 1 _ rfl rfl (by decide)
 have hl9 := Lib.hid (hl.trans (hT.below_of hl.size (by intro c hc; have hc' : c = w.heap.size := hc; omega)))
 clear hT hG hF hQ QQ L hl r0
 go_wp2_with fail
 refine bodyPost_ret (results_ct rfl aggT107 rfl x0 rfl) rfl ?_
 exact ⟨by kernel_rfl, hl9.out⟩
set_option maxRecDepth 100000 in
set_option maxHeartbeats 4000000 in
theorem of_7 (w : World) : Calls Try.prog 131 #[.int .i64 7] w (OfP w 7) := by
 go_enter Try.func131, Try.ntmps131
 go_upto_region 26 with (fail)
 refine wp_abs (Mem w [(w.heap.size, 107, #[.int .i64 0, .bool false, .int .i64 0, .bool false, .int .i64 0, .bool false])]) ⟨by go_grown, by (repeat (first | (refine Row.new_at ?_; simp; done) | refine Row.alloc ?_ _)), trivial⟩ ?_
 intro w0 hM
 obtain ⟨hl, r0, -⟩ := hM
 let L : List Sp := [sO 1 (w.heap.size) 107 [0] (fun g => aggOf g 0)]
 refine wp_region_six0 (shs L) (look6 L) (fun c => c = w.heap.size) (by kernel_rfl) (by kernel_rfl) (mk_St L [1] [1] (by kernel_rfl) (by kernel_rfl) ⟨ok_O aggOf_congr r0.lt (rfl), trivial⟩ (by simp)) ?_
 intro QQ hQ
 refine stepK rfl (by kernel_rfl) (fun K hK => ?_); go_simp
 apply Exists.intro; apply And.intro; (focus (intro wk hk; go_simp; exact ⟨rfl, rfl⟩)); refine hK _ _ ?_; clear hK K
 refine stepS _ rfl (by kernel_rfl) (fun K hK => ?_); go_simp
 refine ⟨?_, ?_⟩
 ·exact sStoreO rfl rfl rfl rfl rfl rfl r0 id (by kernel_rfl) rfl (by kernel_rfl) (by decide) aggOf_congr
 rintro ⟨v1, lo1, hi1⟩ - - (rfl : v1 = undef)
 refine hK _ _ ?_; clear hK K
 refine stepKz rfl (fun K hK => ?_); go_simp
 apply Exists.intro; apply And.intro; (focus (intro wk hk; go_simp; exact ⟨rfl, rfl⟩)); refine hK _ _ ?_; clear hK K
 refine stepN ?_
 refine hQ _ _ ?_
 intro w9 hT hG hF
 have x0 : Row w9 w.heap.size 107 (#[.int .i64 1, .bool false, .int .i64 1, .bool false, .int .i64 0, .bool false]) := hF 1 _ rfl rfl (by decide)
 have hl9 := Lib.hid (hl.trans (hT.below_of hl.size (by intro c hc; have hc' : c = w.heap.size := hc; omega)))
 clear hT hG hF hQ QQ L hl r0
 go_wp2_with fail
 refine bodyPost_ret (results_ct rfl aggT107 rfl x0 rfl) rfl ?_
 exact ⟨by kernel_rfl, hl9.out⟩
set_option maxRecDepth 100000 in
set_option maxHeartbeats 4000000 in
theorem of_8 (w : World) : Calls Try.prog 131 #[.int .i64 8] w (OfP w 8) := by
 go_enter Try.func131, Try.ntmps131
 go_upto_region 14 with (fail)
 refine wp_abs (Mem w [(w.heap.size, 107, #[.int .i64 0, .bool false, .int .i64 0, .bool false, .int .i64 0, .bool false])]) ⟨by go_grown, by (repeat (first | (refine Row.new_at ?_; simp; done) | refine Row.alloc ?_ _)), trivial⟩ ?_
 intro w0 hM
 obtain ⟨hl, r0, -⟩ := hM
 let L : List Sp := [sO 1 (w.heap.size) 107 [0] (fun g => aggOf g 0)]
 refine wp_region_six0 (shs L) (look6 L) (fun c => c = w.heap.size) (by kernel_rfl) (by kernel_rfl) (mk_St L [1] [1] (by kernel_rfl) (by kernel_rfl) ⟨ok_O aggOf_congr r0.lt (rfl), trivial⟩ (by simp)) ?_
 intro QQ hQ
 refine stepK rfl (by kernel_rfl) (fun K hK => ?_); go_simp
 apply Exists.intro; apply And.intro; (focus (intro wk hk; go_simp; exact ⟨rfl, rfl⟩)); refine hK _ _ ?_; clear hK K
 refine stepS _ rfl (by kernel_rfl) (fun K hK => ?_); go_simp
 refine ⟨?_, ?_⟩
 ·exact sStoreO rfl rfl rfl rfl rfl rfl r0 id (by kernel_rfl) rfl (by kernel_rfl) (by decide) aggOf_congr
 rintro ⟨v1, lo1, hi1⟩ - - (rfl : v1 = undef)
 refine hK _ _ ?_; clear hK K
 refine stepKz rfl (fun K hK => ?_); go_simp
 apply Exists.intro; apply And.intro; (focus (intro wk hk; go_simp; exact ⟨rfl, rfl⟩)); refine hK _ _ ?_; clear hK K
 refine stepN ?_
 refine hQ _ _ ?_
 intro w9 hT hG hF
 have x0 : Row w9 w.heap.size 107 (#[.int .i64 1, .bool false, .int .i64 0, .bool false, .int .i64 0, .bool false]) := hF 1 _ rfl rfl (by decide)
 have hl9 := Lib.hid (hl.trans (hT.below_of hl.size (by intro c hc; have hc' : c = w.heap.size := hc; omega)))
 clear hT hG hF hQ QQ L hl r0
 go_wp2_with fail
 refine bodyPost_ret (results_ct rfl aggT107 rfl x0 rfl) rfl ?_
 exact ⟨by kernel_rfl, hl9.out⟩
set_option maxRecDepth 100000 in
set_option maxHeartbeats 4000000 in
theorem of_9 (w : World) : Calls Try.prog 131 #[.int .i64 9] w (OfP w 9) := by
 go_enter Try.func131, Try.ntmps131
 go_upto_region 14 with (fail)
 refine wp_abs (Mem w [(w.heap.size, 107, #[.int .i64 0, .bool false, .int .i64 0, .bool false, .int .i64 0, .bool false])]) ⟨by go_grown, by (repeat (first | (refine Row.new_at ?_; simp; done) | refine Row.alloc ?_ _)), trivial⟩ ?_
 intro w0 hM
 obtain ⟨hl, r0, -⟩ := hM
 let L : List Sp := [sO 1 (w.heap.size) 107 [0] (fun g => aggOf g 0)]
 refine wp_region_six0 (shs L) (look6 L) (fun c => c = w.heap.size) (by kernel_rfl) (by kernel_rfl) (mk_St L [1] [1] (by kernel_rfl) (by kernel_rfl) ⟨ok_O aggOf_congr r0.lt (rfl), trivial⟩ (by simp)) ?_
 intro QQ hQ
 refine stepK rfl (by kernel_rfl) (fun K hK => ?_); go_simp
 apply Exists.intro; apply And.intro; (focus (intro wk hk; go_simp; exact ⟨rfl, rfl⟩)); refine hK _ _ ?_; clear hK K
 refine stepS _ rfl (by kernel_rfl) (fun K hK => ?_); go_simp
 refine ⟨?_, ?_⟩
 ·exact sStoreO rfl rfl rfl rfl rfl rfl r0 id (by kernel_rfl) rfl (by kernel_rfl) (by decide) aggOf_congr
 rintro ⟨v1, lo1, hi1⟩ - - (rfl : v1 = undef)
 refine hK _ _ ?_; clear hK K
 refine stepKz rfl (fun K hK => ?_); go_simp
 apply Exists.intro; apply And.intro; (focus (intro wk hk; go_simp; exact ⟨rfl, rfl⟩)); refine hK _ _ ?_; clear hK K
 refine stepN ?_
 refine hQ _ _ ?_
 intro w9 hT hG hF
 have x0 : Row w9 w.heap.size 107 (#[.int .i64 1, .bool false, .int .i64 0, .bool false, .int .i64 0, .bool false]) := hF 1 _ rfl rfl (by decide)
 have hl9 := Lib.hid (hl.trans (hT.below_of hl.size (by intro c hc; have hc' : c = w.heap.size := hc; omega)))
 clear hT hG hF hQ QQ L hl r0
 go_wp2_with fail
 refine bodyPost_ret (results_ct rfl aggT107 rfl x0 rfl) rfl ?_
 exact ⟨by kernel_rfl, hl9.out⟩
set_option maxRecDepth 100000 in
set_option maxHeartbeats 4000000 in
theorem of_10 (w : World) : Calls Try.prog 131 #[.int .i64 10] w (OfP w 10) := by
 go_enter Try.func131, Try.ntmps131
 go_upto_region 14 with (fail)
 refine wp_abs (Mem w [(w.heap.size, 107, #[.int .i64 0, .bool false, .int .i64 0, .bool false, .int .i64 0, .bool false])]) ⟨by go_grown, by (repeat (first | (refine Row.new_at ?_; simp; done) | refine Row.alloc ?_ _)), trivial⟩ ?_
 intro w0 hM
 obtain ⟨hl, r0, -⟩ := hM
 let L : List Sp := [sO 1 (w.heap.size) 107 [0] (fun g => aggOf g 0)]
 refine wp_region_six0 (shs L) (look6 L) (fun c => c = w.heap.size) (by kernel_rfl) (by kernel_rfl) (mk_St L [1] [1] (by kernel_rfl) (by kernel_rfl) ⟨ok_O aggOf_congr r0.lt (rfl), trivial⟩ (by simp)) ?_
 intro QQ hQ
 refine stepK rfl (by kernel_rfl) (fun K hK => ?_); go_simp
 apply Exists.intro; apply And.intro; (focus (intro wk hk; go_simp; exact ⟨rfl, rfl⟩)); refine hK _ _ ?_; clear hK K
 refine stepS _ rfl (by kernel_rfl) (fun K hK => ?_); go_simp
 refine ⟨?_, ?_⟩
 ·exact sStoreO rfl rfl rfl rfl rfl rfl r0 id (by kernel_rfl) rfl (by kernel_rfl) (by decide) aggOf_congr
 rintro ⟨v1, lo1, hi1⟩ - - (rfl : v1 = undef)
 refine hK _ _ ?_; clear hK K
 refine stepKz rfl (fun K hK => ?_); go_simp
 apply Exists.intro; apply And.intro; (focus (intro wk hk; go_simp; exact ⟨rfl, rfl⟩)); refine hK _ _ ?_; clear hK K
 refine stepN ?_
 refine hQ _ _ ?_
 intro w9 hT hG hF
 have x0 : Row w9 w.heap.size 107 (#[.int .i64 1, .bool false, .int .i64 0, .bool false, .int .i64 0, .bool false]) := hF 1 _ rfl rfl (by decide)
 have hl9 := Lib.hid (hl.trans (hT.below_of hl.size (by intro c hc; have hc' : c = w.heap.size := hc; omega)))
 clear hT hG hF hQ QQ L hl r0
 go_wp2_with fail
 refine bodyPost_ret (results_ct rfl aggT107 rfl x0 rfl) rfl ?_
 exact ⟨by kernel_rfl, hl9.out⟩
set_option maxRecDepth 100000 in
set_option maxHeartbeats 4000000 in
theorem of_11 (w : World) : Calls Try.prog 131 #[.int .i64 11] w (OfP w 11) := by
 go_enter Try.func131, Try.ntmps131
 go_upto_region 14 with (fail)
 refine wp_abs (Mem w [(w.heap.size, 107, #[.int .i64 0, .bool false, .int .i64 0, .bool false, .int .i64 0, .bool false])]) ⟨by go_grown, by (repeat (first | (refine Row.new_at ?_; simp; done) | refine Row.alloc ?_ _)), trivial⟩ ?_
 intro w0 hM
 obtain ⟨hl, r0, -⟩ := hM
 let L : List Sp := [sO 1 (w.heap.size) 107 [0] (fun g => aggOf g 0)]
 refine wp_region_six0 (shs L) (look6 L) (fun c => c = w.heap.size) (by kernel_rfl) (by kernel_rfl) (mk_St L [1] [1] (by kernel_rfl) (by kernel_rfl) ⟨ok_O aggOf_congr r0.lt (rfl), trivial⟩ (by simp)) ?_
 intro QQ hQ
 refine stepK rfl (by kernel_rfl) (fun K hK => ?_); go_simp
 apply Exists.intro; apply And.intro; (focus (intro wk hk; go_simp; exact ⟨rfl, rfl⟩)); refine hK _ _ ?_; clear hK K
 refine stepS _ rfl (by kernel_rfl) (fun K hK => ?_); go_simp
 refine ⟨?_, ?_⟩
 ·exact sStoreO rfl rfl rfl rfl rfl rfl r0 id (by kernel_rfl) rfl (by kernel_rfl) (by decide) aggOf_congr
 rintro ⟨v1, lo1, hi1⟩ - - (rfl : v1 = undef)
 refine hK _ _ ?_; clear hK K
 refine stepKz rfl (fun K hK => ?_); go_simp
 apply Exists.intro; apply And.intro; (focus (intro wk hk; go_simp; exact ⟨rfl, rfl⟩)); refine hK _ _ ?_; clear hK K
 refine stepN ?_
 refine hQ _ _ ?_
 intro w9 hT hG hF
 have x0 : Row w9 w.heap.size 107 (#[.int .i64 1, .bool false, .int .i64 0, .bool false, .int .i64 0, .bool false]) := hF 1 _ rfl rfl (by decide)
 have hl9 := Lib.hid (hl.trans (hT.below_of hl.size (by intro c hc; have hc' : c = w.heap.size := hc; omega)))
 clear hT hG hF hQ QQ L hl r0
 go_wp2_with fail
 refine bodyPost_ret (results_ct rfl aggT107 rfl x0 rfl) rfl ?_
 exact ⟨by kernel_rfl, hl9.out⟩
set_option maxRecDepth 100000 in
set_option maxHeartbeats 4000000 in
theorem of_12 (w : World) : Calls Try.prog 131 #[.int .i64 12] w (OfP w 12) := by
 go_enter Try.func131, Try.ntmps131
 go_upto_region 26 with (fail)
 refine wp_abs (Mem w [(w.heap.size, 107, #[.int .i64 0, .bool false, .int .i64 0, .bool false, .int .i64 0, .bool false])]) ⟨by go_grown, by (repeat (first | (refine Row.new_at ?_; simp; done) | refine Row.alloc ?_ _)), trivial⟩ ?_
 intro w0 hM
 obtain ⟨hl, r0, -⟩ := hM
 let L : List Sp := [sO 1 (w.heap.size) 107 [0] (fun g => aggOf g 0)]
 refine wp_region_six0 (shs L) (look6 L) (fun c => c = w.heap.size) (by kernel_rfl) (by kernel_rfl) (mk_St L [1] [1] (by kernel_rfl) (by kernel_rfl) ⟨ok_O aggOf_congr r0.lt (rfl), trivial⟩ (by simp)) ?_
 intro QQ hQ
 refine stepK rfl (by kernel_rfl) (fun K hK => ?_); go_simp
 apply Exists.intro; apply And.intro; (focus (intro wk hk; go_simp; exact ⟨rfl, rfl⟩)); refine hK _ _ ?_; clear hK K
 refine stepS _ rfl (by kernel_rfl) (fun K hK => ?_); go_simp
 refine ⟨?_, ?_⟩
 ·exact sStoreO rfl rfl rfl rfl rfl rfl r0 id (by kernel_rfl) rfl (by kernel_rfl) (by decide) aggOf_congr
 rintro ⟨v1, lo1, hi1⟩ - - (rfl : v1 = undef)
 refine hK _ _ ?_; clear hK K
 refine stepKz rfl (fun K hK => ?_); go_simp
 apply Exists.intro; apply And.intro; (focus (intro wk hk; go_simp; exact ⟨rfl, rfl⟩)); refine hK _ _ ?_; clear hK K
 refine stepN ?_
 refine hQ _ _ ?_
 intro w9 hT hG hF
 have x0 : Row w9 w.heap.size 107 (#[.int .i64 1, .bool false, .int .i64 1, .bool false, .int .i64 0, .bool false]) := hF 1 _ rfl rfl (by decide)
 have hl9 := Lib.hid (hl.trans (hT.below_of hl.size (by intro c hc; have hc' : c = w.heap.size := hc; omega)))
 clear hT hG hF hQ QQ L hl r0
 go_wp2_with fail
 refine bodyPost_ret (results_ct rfl aggT107 rfl x0 rfl) rfl ?_
 exact ⟨by kernel_rfl, hl9.out⟩
set_option maxRecDepth 100000 in
set_option maxHeartbeats 4000000 in
theorem of_13 (w : World) : Calls Try.prog 131 #[.int .i64 13] w (OfP w 13) := by
 go_enter Try.func131, Try.ntmps131
 go_upto_region 21 with (fail)
 refine wp_abs (Mem w [(w.heap.size, 107, #[.int .i64 0, .bool false, .int .i64 0, .bool false, .int .i64 0, .bool false])]) ⟨by go_grown, by (repeat (first | (refine Row.new_at ?_; simp; done) | refine Row.alloc ?_ _)), trivial⟩ ?_
 intro w0 hM
 obtain ⟨hl, r0, -⟩ := hM
 let L : List Sp := [sO 1 (w.heap.size) 107 [0] (fun g => aggOf g 0)]
 refine wp_region_six0 (shs L) (look6 L) (fun c => c = w.heap.size) (by kernel_rfl) (by kernel_rfl) (mk_St L [1] [1] (by kernel_rfl) (by kernel_rfl) ⟨ok_O aggOf_congr r0.lt (rfl), trivial⟩ (by simp)) ?_
 intro QQ hQ
 refine stepK rfl (by kernel_rfl) (fun K hK => ?_); go_simp
 apply Exists.intro; apply And.intro; (focus (intro wk hk; go_simp; exact ⟨rfl, rfl⟩)); refine hK _ _ ?_; clear hK K
 refine stepS _ rfl (by kernel_rfl) (fun K hK => ?_); go_simp
 refine ⟨?_, ?_⟩
 ·exact sStoreO rfl rfl rfl rfl rfl rfl r0 id (by kernel_rfl) rfl (by kernel_rfl) (by decide) aggOf_congr
 rintro ⟨v1, lo1, hi1⟩ - - (rfl : v1 = undef)
 refine hK _ _ ?_; clear hK K
 refine stepKz rfl (fun K hK => ?_); go_simp
 apply Exists.intro; apply And.intro; (focus (intro wk hk; go_simp; exact ⟨rfl, rfl⟩)); refine hK _ _ ?_; clear hK K
 refine stepN ?_
 refine hQ _ _ ?_
 intro w9 hT hG hF
 have x0 : Row w9 w.heap.size 107 (#[.int .i64 2, .bool false, .int .i64 0, .bool false, .int .i64 0, .bool false]) := hF 1 _ rfl rfl (by decide)
 have hl9 := Lib.hid (hl.trans (hT.below_of hl.size (by intro c hc; have hc' : c = w.heap.size := hc; omega)))
 clear hT hG hF hQ QQ L hl r0
 go_wp2_with fail
 refine bodyPost_ret (results_ct rfl aggT107 rfl x0 rfl) rfl ?_
 exact ⟨by kernel_rfl, hl9.out⟩
set_option maxRecDepth 100000 in
set_option maxHeartbeats 4000000 in
theorem of_14 (w : World) : Calls Try.prog 131 #[.int .i64 14] w (OfP w 14) := by
 go_enter Try.func131, Try.ntmps131
 go_upto_region 14 with (fail)
 refine wp_abs (Mem w [(w.heap.size, 107, #[.int .i64 0, .bool false, .int .i64 0, .bool false, .int .i64 0, .bool false])]) ⟨by go_grown, by (repeat (first | (refine Row.new_at ?_; simp; done) | refine Row.alloc ?_ _)), trivial⟩ ?_
 intro w0 hM
 obtain ⟨hl, r0, -⟩ := hM
 let L : List Sp := [sO 1 (w.heap.size) 107 [0] (fun g => aggOf g 0)]
 refine wp_region_six0 (shs L) (look6 L) (fun c => c = w.heap.size) (by kernel_rfl) (by kernel_rfl) (mk_St L [1] [1] (by kernel_rfl) (by kernel_rfl) ⟨ok_O aggOf_congr r0.lt (rfl), trivial⟩ (by simp)) ?_
 intro QQ hQ
 refine stepK rfl (by kernel_rfl) (fun K hK => ?_); go_simp
 apply Exists.intro; apply And.intro; (focus (intro wk hk; go_simp; exact ⟨rfl, rfl⟩)); refine hK _ _ ?_; clear hK K
 refine stepS _ rfl (by kernel_rfl) (fun K hK => ?_); go_simp
 refine ⟨?_, ?_⟩
 ·exact sStoreO rfl rfl rfl rfl rfl rfl r0 id (by kernel_rfl) rfl (by kernel_rfl) (by decide) aggOf_congr
 rintro ⟨v1, lo1, hi1⟩ - - (rfl : v1 = undef)
 refine hK _ _ ?_; clear hK K
 refine stepKz rfl (fun K hK => ?_); go_simp
 apply Exists.intro; apply And.intro; (focus (intro wk hk; go_simp; exact ⟨rfl, rfl⟩)); refine hK _ _ ?_; clear hK K
 refine stepN ?_
 refine hQ _ _ ?_
 intro w9 hT hG hF
 have x0 : Row w9 w.heap.size 107 (#[.int .i64 1, .bool false, .int .i64 0, .bool false, .int .i64 0, .bool false]) := hF 1 _ rfl rfl (by decide)
 have hl9 := Lib.hid (hl.trans (hT.below_of hl.size (by intro c hc; have hc' : c = w.heap.size := hc; omega)))
 clear hT hG hF hQ QQ L hl r0
 go_wp2_with fail
 refine bodyPost_ret (results_ct rfl aggT107 rfl x0 rfl) rfl ?_
 exact ⟨by kernel_rfl, hl9.out⟩
set_option maxRecDepth 100000 in
set_option maxHeartbeats 4000000 in
theorem of_15 (w : World) : Calls Try.prog 131 #[.int .i64 15] w (OfP w 15) := by
 go_enter Try.func131, Try.ntmps131
 go_upto_region 28 with (fail)
 refine wp_abs (Mem w [(w.heap.size, 107, #[.int .i64 0, .bool false, .int .i64 0, .bool false, .int .i64 0, .bool false])]) ⟨by go_grown, by (repeat (first | (refine Row.new_at ?_; simp; done) | refine Row.alloc ?_ _)), trivial⟩ ?_
 intro w0 hM
 obtain ⟨hl, r0, -⟩ := hM
 let L : List Sp := [sO 1 (w.heap.size) 107 [0] (fun g => aggOf g 0)]
 refine wp_region_six0 (shs L) (look6 L) (fun c => c = w.heap.size) (by kernel_rfl) (by kernel_rfl) (mk_St L [1] [1] (by kernel_rfl) (by kernel_rfl) ⟨ok_O aggOf_congr r0.lt (rfl), trivial⟩ (by simp)) ?_
 intro QQ hQ
 refine stepK rfl (by kernel_rfl) (fun K hK => ?_); go_simp
 apply Exists.intro; apply And.intro; (focus (intro wk hk; go_simp; exact ⟨rfl, rfl⟩)); refine hK _ _ ?_; clear hK K
 refine stepS _ rfl (by kernel_rfl) (fun K hK => ?_); go_simp
 refine ⟨?_, ?_⟩
 ·exact sStoreO rfl rfl rfl rfl rfl rfl r0 id (by kernel_rfl) rfl (by kernel_rfl) (by decide) aggOf_congr
 rintro ⟨v1, lo1, hi1⟩ - - (rfl : v1 = undef)
 refine hK _ _ ?_; clear hK K
 refine stepKz rfl (fun K hK => ?_); go_simp
 apply Exists.intro; apply And.intro; (focus (intro wk hk; go_simp; exact ⟨rfl, rfl⟩)); refine hK _ _ ?_; clear hK K
 refine stepN ?_
 refine hQ _ _ ?_
 intro w9 hT hG hF
 have x0 : Row w9 w.heap.size 107 (#[.int .i64 0, .bool false, .int .i64 0, .bool false, .int .i64 0, .bool false]) := hF 1 _ rfl rfl (by decide)
 have hl9 := Lib.hid (hl.trans (hT.below_of hl.size (by intro c hc; have hc' : c = w.heap.size := hc; omega)))
 clear hT hG hF hQ QQ L hl r0
 go_wp2_with fail
 refine bodyPost_ret (results_ct rfl aggT107 rfl x0 rfl) rfl ?_
 exact ⟨by kernel_rfl, hl9.out⟩
set_option maxRecDepth 100000 in
set_option maxHeartbeats 4000000 in
theorem of_16 (w : World) : Calls Try.prog 131 #[.int .i64 16] w (OfP w 16) := by
 go_enter Try.func131, Try.ntmps131
 go_upto_region 30 with (fail)
 refine wp_abs (Mem w [(w.heap.size, 107, #[.int .i64 0, .bool false, .int .i64 0, .bool false, .int .i64 0, .bool false])]) ⟨by go_grown, by (repeat (first | (refine Row.new_at ?_; simp; done) | refine Row.alloc ?_ _)), trivial⟩ ?_
 intro w0 hM
 obtain ⟨hl, r0, -⟩ := hM
 let L : List Sp := [sO 1 (w.heap.size) 107 [0] (fun g => aggOf g 0)]
 refine wp_region_six0 (shs L) (look6 L) (fun c => c = w.heap.size) (by kernel_rfl) (by kernel_rfl) (mk_St L [1] [1] (by kernel_rfl) (by kernel_rfl) ⟨ok_O aggOf_congr r0.lt (rfl), trivial⟩ (by simp)) ?_
 intro QQ hQ
 refine stepK rfl (by kernel_rfl) (fun K hK => ?_); go_simp
 apply Exists.intro; apply And.intro; (focus (intro wk hk; go_simp; exact ⟨rfl, rfl⟩)); refine hK _ _ ?_; clear hK K
 refine stepS _ rfl (by kernel_rfl) (fun K hK => ?_); go_simp
 refine ⟨?_, ?_⟩
 ·exact sStoreO rfl rfl rfl rfl rfl rfl r0 id (by kernel_rfl) rfl (by kernel_rfl) (by decide) aggOf_congr
 rintro ⟨v1, lo1, hi1⟩ - - (rfl : v1 = undef)
 refine hK _ _ ?_; clear hK K
 refine stepKz rfl (fun K hK => ?_); go_simp
 apply Exists.intro; apply And.intro; (focus (intro wk hk; go_simp; exact ⟨rfl, rfl⟩)); refine hK _ _ ?_; clear hK K
 refine stepN ?_
 refine hQ _ _ ?_
 intro w9 hT hG hF
 have x0 : Row w9 w.heap.size 107 (#[.int .i64 0, .bool true, .int .i64 0, .bool false, .int .i64 0, .bool false]) := hF 1 _ rfl rfl (by decide)
 have hl9 := Lib.hid (hl.trans (hT.below_of hl.size (by intro c hc; have hc' : c = w.heap.size := hc; omega)))
 clear hT hG hF hQ QQ L hl r0
 go_wp2_with fail
 refine bodyPost_ret (results_ct rfl aggT107 rfl x0 rfl) rfl ?_
 exact ⟨by kernel_rfl, hl9.out⟩
set_option maxRecDepth 100000 in
set_option maxHeartbeats 4000000 in
theorem of_17 (w : World) : Calls Try.prog 131 #[.int .i64 17] w (OfP w 17) := by
 go_enter Try.func131, Try.ntmps131
 go_upto_region 21 with (fail)
 refine wp_abs (Mem w [(w.heap.size, 107, #[.int .i64 0, .bool false, .int .i64 0, .bool false, .int .i64 0, .bool false])]) ⟨by go_grown, by (repeat (first | (refine Row.new_at ?_; simp; done) | refine Row.alloc ?_ _)), trivial⟩ ?_
 intro w0 hM
 obtain ⟨hl, r0, -⟩ := hM
 let L : List Sp := [sO 1 (w.heap.size) 107 [0] (fun g => aggOf g 0)]
 refine wp_region_six0 (shs L) (look6 L) (fun c => c = w.heap.size) (by kernel_rfl) (by kernel_rfl) (mk_St L [1] [1] (by kernel_rfl) (by kernel_rfl) ⟨ok_O aggOf_congr r0.lt (rfl), trivial⟩ (by simp)) ?_
 intro QQ hQ
 refine stepK rfl (by kernel_rfl) (fun K hK => ?_); go_simp
 apply Exists.intro; apply And.intro; (focus (intro wk hk; go_simp; exact ⟨rfl, rfl⟩)); refine hK _ _ ?_; clear hK K
 refine stepS _ rfl (by kernel_rfl) (fun K hK => ?_); go_simp
 refine ⟨?_, ?_⟩
 ·exact sStoreO rfl rfl rfl rfl rfl rfl r0 id (by kernel_rfl) rfl (by kernel_rfl) (by decide) aggOf_congr
 rintro ⟨v1, lo1, hi1⟩ - - (rfl : v1 = undef)
 refine hK _ _ ?_; clear hK K
 refine stepKz rfl (fun K hK => ?_); go_simp
 apply Exists.intro; apply And.intro; (focus (intro wk hk; go_simp; exact ⟨rfl, rfl⟩)); refine hK _ _ ?_; clear hK K
 refine stepN ?_
 refine hQ _ _ ?_
 intro w9 hT hG hF
 have x0 : Row w9 w.heap.size 107 (#[.int .i64 2, .bool false, .int .i64 0, .bool false, .int .i64 0, .bool false]) := hF 1 _ rfl rfl (by decide)
 have hl9 := Lib.hid (hl.trans (hT.below_of hl.size (by intro c hc; have hc' : c = w.heap.size := hc; omega)))
 clear hT hG hF hQ QQ L hl r0
 go_wp2_with fail
 refine bodyPost_ret (results_ct rfl aggT107 rfl x0 rfl) rfl ?_
 exact ⟨by kernel_rfl, hl9.out⟩
set_option maxRecDepth 100000 in
set_option maxHeartbeats 4000000 in
theorem of_18 (w : World) : Calls Try.prog 131 #[.int .i64 18] w (OfP w 18) := by
 go_enter Try.func131, Try.ntmps131
 go_upto_region 21 with (fail)
 refine wp_abs (Mem w [(w.heap.size, 107, #[.int .i64 0, .bool false, .int .i64 0, .bool false, .int .i64 0, .bool false])]) ⟨by go_grown, by (repeat (first | (refine Row.new_at ?_; simp; done) | refine Row.alloc ?_ _)), trivial⟩ ?_
 intro w0 hM
 obtain ⟨hl, r0, -⟩ := hM
 let L : List Sp := [sO 1 (w.heap.size) 107 [0] (fun g => aggOf g 0)]
 refine wp_region_six0 (shs L) (look6 L) (fun c => c = w.heap.size) (by kernel_rfl) (by kernel_rfl) (mk_St L [1] [1] (by kernel_rfl) (by kernel_rfl) ⟨ok_O aggOf_congr r0.lt (rfl), trivial⟩ (by simp)) ?_
 intro QQ hQ
 refine stepK rfl (by kernel_rfl) (fun K hK => ?_); go_simp
 apply Exists.intro; apply And.intro; (focus (intro wk hk; go_simp; exact ⟨rfl, rfl⟩)); refine hK _ _ ?_; clear hK K
 refine stepS _ rfl (by kernel_rfl) (fun K hK => ?_); go_simp
 refine ⟨?_, ?_⟩
 ·exact sStoreO rfl rfl rfl rfl rfl rfl r0 id (by kernel_rfl) rfl (by kernel_rfl) (by decide) aggOf_congr
 rintro ⟨v1, lo1, hi1⟩ - - (rfl : v1 = undef)
 refine hK _ _ ?_; clear hK K
 refine stepKz rfl (fun K hK => ?_); go_simp
 apply Exists.intro; apply And.intro; (focus (intro wk hk; go_simp; exact ⟨rfl, rfl⟩)); refine hK _ _ ?_; clear hK K
 refine stepN ?_
 refine hQ _ _ ?_
 intro w9 hT hG hF
 have x0 : Row w9 w.heap.size 107 (#[.int .i64 2, .bool false, .int .i64 0, .bool false, .int .i64 0, .bool false]) := hF 1 _ rfl rfl (by decide)
 have hl9 := Lib.hid (hl.trans (hT.below_of hl.size (by intro c hc; have hc' : c = w.heap.size := hc; omega)))
 clear hT hG hF hQ QQ L hl r0
 go_wp2_with fail
 refine bodyPost_ret (results_ct rfl aggT107 rfl x0 rfl) rfl ?_
 exact ⟨by kernel_rfl, hl9.out⟩
set_option maxRecDepth 100000 in
set_option maxHeartbeats 4000000 in
theorem of_19 (w : World) : Calls Try.prog 131 #[.int .i64 19] w (OfP w 19) := by
 go_enter Try.func131, Try.ntmps131
 go_upto_region 21 with (fail)
 refine wp_abs (Mem w [(w.heap.size, 107, #[.int .i64 0, .bool false, .int .i64 0, .bool false, .int .i64 0, .bool false])]) ⟨by go_grown, by (repeat (first | (refine Row.new_at ?_; simp; done) | refine Row.alloc ?_ _)), trivial⟩ ?_
 intro w0 hM
 obtain ⟨hl, r0, -⟩ := hM
 let L : List Sp := [sO 1 (w.heap.size) 107 [0] (fun g => aggOf g 0)]
 refine wp_region_six0 (shs L) (look6 L) (fun c => c = w.heap.size) (by kernel_rfl) (by kernel_rfl) (mk_St L [1] [1] (by kernel_rfl) (by kernel_rfl) ⟨ok_O aggOf_congr r0.lt (rfl), trivial⟩ (by simp)) ?_
 intro QQ hQ
 refine stepK rfl (by kernel_rfl) (fun K hK => ?_); go_simp
 apply Exists.intro; apply And.intro; (focus (intro wk hk; go_simp; exact ⟨rfl, rfl⟩)); refine hK _ _ ?_; clear hK K
 refine stepS _ rfl (by kernel_rfl) (fun K hK => ?_); go_simp
 refine ⟨?_, ?_⟩
 ·exact sStoreO rfl rfl rfl rfl rfl rfl r0 id (by kernel_rfl) rfl (by kernel_rfl) (by decide) aggOf_congr
 rintro ⟨v1, lo1, hi1⟩ - - (rfl : v1 = undef)
 refine hK _ _ ?_; clear hK K
 refine stepKz rfl (fun K hK => ?_); go_simp
 apply Exists.intro; apply And.intro; (focus (intro wk hk; go_simp; exact ⟨rfl, rfl⟩)); refine hK _ _ ?_; clear hK K
 refine stepN ?_
 refine hQ _ _ ?_
 intro w9 hT hG hF
 have x0 : Row w9 w.heap.size 107 (#[.int .i64 2, .bool false, .int .i64 0, .bool false, .int .i64 0, .bool false]) := hF 1 _ rfl rfl (by decide)
 have hl9 := Lib.hid (hl.trans (hT.below_of hl.size (by intro c hc; have hc' : c = w.heap.size := hc; omega)))
 clear hT hG hF hQ QQ L hl r0
 go_wp2_with fail
 refine bodyPost_ret (results_ct rfl aggT107 rfl x0 rfl) rfl ?_
 exact ⟨by kernel_rfl, hl9.out⟩
set_option maxRecDepth 100000 in
set_option maxHeartbeats 4000000 in
theorem of_20 (w : World) : Calls Try.prog 131 #[.int .i64 20] w (OfP w 20) := by
 go_enter Try.func131, Try.ntmps131
 go_upto_region 32 with (fail)
 refine wp_abs (Mem w [(w.heap.size, 107, #[.int .i64 0, .bool false, .int .i64 0, .bool false, .int .i64 0, .bool false])]) ⟨by go_grown, by (repeat (first | (refine Row.new_at ?_; simp; done) | refine Row.alloc ?_ _)), trivial⟩ ?_
 intro w0 hM
 obtain ⟨hl, r0, -⟩ := hM
 let L : List Sp := [sO 1 (w.heap.size) 107 [0] (fun g => aggOf g 0)]
 refine wp_region_six0 (shs L) (look6 L) (fun c => c = w.heap.size) (by kernel_rfl) (by kernel_rfl) (mk_St L [1] [1] (by kernel_rfl) (by kernel_rfl) ⟨ok_O aggOf_congr r0.lt (rfl), trivial⟩ (by simp)) ?_
 intro QQ hQ
 refine stepK rfl (by kernel_rfl) (fun K hK => ?_); go_simp
 apply Exists.intro; apply And.intro; (focus (intro wk hk; go_simp; exact ⟨rfl, rfl⟩)); refine hK _ _ ?_; clear hK K
 refine stepS _ rfl (by kernel_rfl) (fun K hK => ?_); go_simp
 refine ⟨?_, ?_⟩
 ·exact sStoreO rfl rfl rfl rfl rfl rfl r0 id (by kernel_rfl) rfl (by kernel_rfl) (by decide) aggOf_congr
 rintro ⟨v1, lo1, hi1⟩ - - (rfl : v1 = undef)
 refine hK _ _ ?_; clear hK K
 refine stepKz rfl (fun K hK => ?_); go_simp
 apply Exists.intro; apply And.intro; (focus (intro wk hk; go_simp; exact ⟨rfl, rfl⟩)); refine hK _ _ ?_; clear hK K
 refine stepN ?_
 refine hQ _ _ ?_
 intro w9 hT hG hF
 have x0 : Row w9 w.heap.size 107 (#[.int .i64 3, .bool false, .int .i64 0, .bool false, .int .i64 0, .bool false]) := hF 1 _ rfl rfl (by decide)
 have hl9 := Lib.hid (hl.trans (hT.below_of hl.size (by intro c hc; have hc' : c = w.heap.size := hc; omega)))
 clear hT hG hF hQ QQ L hl r0
 go_wp2_with fail
 refine bodyPost_ret (results_ct rfl aggT107 rfl x0 rfl) rfl ?_
 exact ⟨by kernel_rfl, hl9.out⟩
set_option maxRecDepth 100000 in
set_option maxHeartbeats 4000000 in
theorem of_21 (w : World) : Calls Try.prog 131 #[.int .i64 21] w (OfP w 21) := by
 go_enter Try.func131, Try.ntmps131
 go_upto_region 34 with (fail)
 refine wp_abs (Mem w [(w.heap.size, 107, #[.int .i64 0, .bool false, .int .i64 0, .bool false, .int .i64 0, .bool false])]) ⟨by go_grown, by (repeat (first | (refine Row.new_at ?_; simp; done) | refine Row.alloc ?_ _)), trivial⟩ ?_
 intro w0 hM
 obtain ⟨hl, r0, -⟩ := hM
 let L : List Sp := [sO 1 (w.heap.size) 107 [0] (fun g => aggOf g 0)]
 refine wp_region_six0 (shs L) (look6 L) (fun c => c = w.heap.size) (by kernel_rfl) (by kernel_rfl) (mk_St L [1] [1] (by kernel_rfl) (by kernel_rfl) ⟨ok_O aggOf_congr r0.lt (rfl), trivial⟩ (by simp)) ?_
 intro QQ hQ
 refine stepK rfl (by kernel_rfl) (fun K hK => ?_); go_simp
 apply Exists.intro; apply And.intro; (focus (intro wk hk; go_simp; exact ⟨rfl, rfl⟩)); refine hK _ _ ?_; clear hK K
 refine stepS _ rfl (by kernel_rfl) (fun K hK => ?_); go_simp
 refine ⟨?_, ?_⟩
 ·exact sStoreO rfl rfl rfl rfl rfl rfl r0 id (by kernel_rfl) rfl (by kernel_rfl) (by decide) aggOf_congr
 rintro ⟨v1, lo1, hi1⟩ - - (rfl : v1 = undef)
 refine hK _ _ ?_; clear hK K
 refine stepKz rfl (fun K hK => ?_); go_simp
 apply Exists.intro; apply And.intro; (focus (intro wk hk; go_simp; exact ⟨rfl, rfl⟩)); refine hK _ _ ?_; clear hK K
 refine stepN ?_
 refine hQ _ _ ?_
 intro w9 hT hG hF
 have x0 : Row w9 w.heap.size 107 (#[.int .i64 3, .bool false, .int .i64 1, .bool false, .int .i64 0, .bool false]) := hF 1 _ rfl rfl (by decide)
 have hl9 := Lib.hid (hl.trans (hT.below_of hl.size (by intro c hc; have hc' : c = w.heap.size := hc; omega)))
 clear hT hG hF hQ QQ L hl r0
 go_wp2_with fail
 refine bodyPost_ret (results_ct rfl aggT107 rfl x0 rfl) rfl ?_
 exact ⟨by kernel_rfl, hl9.out⟩
set_option maxRecDepth 100000 in
set_option maxHeartbeats 4000000 in
theorem of_22 (w : World) : Calls Try.prog 131 #[.int .i64 22] w (OfP w 22) := by
 go_enter Try.func131, Try.ntmps131
 go_upto_region 36 with (fail)
 refine wp_abs (Mem w [(w.heap.size, 107, #[.int .i64 0, .bool false, .int .i64 0, .bool false, .int .i64 0, .bool false])]) ⟨by go_grown, by (repeat (first | (refine Row.new_at ?_; simp; done) | refine Row.alloc ?_ _)), trivial⟩ ?_
 intro w0 hM
 obtain ⟨hl, r0, -⟩ := hM
 let L : List Sp := [sO 1 (w.heap.size) 107 [0] (fun g => aggOf g 0)]
 refine wp_region_six0 (shs L) (look6 L) (fun c => c = w.heap.size) (by kernel_rfl) (by kernel_rfl) (mk_St L [1] [1] (by kernel_rfl) (by kernel_rfl) ⟨ok_O aggOf_congr r0.lt (rfl), trivial⟩ (by simp)) ?_
 intro QQ hQ
 refine stepK rfl (by kernel_rfl) (fun K hK => ?_); go_simp
 apply Exists.intro; apply And.intro; (focus (intro wk hk; go_simp; exact ⟨rfl, rfl⟩)); refine hK _ _ ?_; clear hK K
 refine stepS _ rfl (by kernel_rfl) (fun K hK => ?_); go_simp
 refine ⟨?_, ?_⟩
 ·exact sStoreO rfl rfl rfl rfl rfl rfl r0 id (by kernel_rfl) rfl (by kernel_rfl) (by decide) aggOf_congr
 rintro ⟨v1, lo1, hi1⟩ - - (rfl : v1 = undef)
 refine hK _ _ ?_; clear hK K
 refine stepKz rfl (fun K hK => ?_); go_simp
 apply Exists.intro; apply And.intro; (focus (intro wk hk; go_simp; exact ⟨rfl, rfl⟩)); refine hK _ _ ?_; clear hK K
 refine stepN ?_
 refine hQ _ _ ?_
 intro w9 hT hG hF
 have x0 : Row w9 w.heap.size 107 (#[.int .i64 2, .bool true, .int .i64 0, .bool true, .int .i64 0, .bool false]) := hF 1 _ rfl rfl (by decide)
 have hl9 := Lib.hid (hl.trans (hT.below_of hl.size (by intro c hc; have hc' : c = w.heap.size := hc; omega)))
 clear hT hG hF hQ QQ L hl r0
 go_wp2_with fail
 refine bodyPost_ret (results_ct rfl aggT107 rfl x0 rfl) rfl ?_
 exact ⟨by kernel_rfl, hl9.out⟩
set_option maxRecDepth 100000 in
set_option maxHeartbeats 4000000 in
theorem of_23 (w : World) : Calls Try.prog 131 #[.int .i64 23] w (OfP w 23) := by
 go_enter Try.func131, Try.ntmps131
 go_upto_region 26 with (fail)
 refine wp_abs (Mem w [(w.heap.size, 107, #[.int .i64 0, .bool false, .int .i64 0, .bool false, .int .i64 0, .bool false])]) ⟨by go_grown, by (repeat (first | (refine Row.new_at ?_; simp; done) | refine Row.alloc ?_ _)), trivial⟩ ?_
 intro w0 hM
 obtain ⟨hl, r0, -⟩ := hM
 let L : List Sp := [sO 1 (w.heap.size) 107 [0] (fun g => aggOf g 0)]
 refine wp_region_six0 (shs L) (look6 L) (fun c => c = w.heap.size) (by kernel_rfl) (by kernel_rfl) (mk_St L [1] [1] (by kernel_rfl) (by kernel_rfl) ⟨ok_O aggOf_congr r0.lt (rfl), trivial⟩ (by simp)) ?_
 intro QQ hQ
 refine stepK rfl (by kernel_rfl) (fun K hK => ?_); go_simp
 apply Exists.intro; apply And.intro; (focus (intro wk hk; go_simp; exact ⟨rfl, rfl⟩)); refine hK _ _ ?_; clear hK K
 refine stepS _ rfl (by kernel_rfl) (fun K hK => ?_); go_simp
 refine ⟨?_, ?_⟩
 ·exact sStoreO rfl rfl rfl rfl rfl rfl r0 id (by kernel_rfl) rfl (by kernel_rfl) (by decide) aggOf_congr
 rintro ⟨v1, lo1, hi1⟩ - - (rfl : v1 = undef)
 refine hK _ _ ?_; clear hK K
 refine stepKz rfl (fun K hK => ?_); go_simp
 apply Exists.intro; apply And.intro; (focus (intro wk hk; go_simp; exact ⟨rfl, rfl⟩)); refine hK _ _ ?_; clear hK K
 refine stepN ?_
 refine hQ _ _ ?_
 intro w9 hT hG hF
 have x0 : Row w9 w.heap.size 107 (#[.int .i64 1, .bool false, .int .i64 1, .bool false, .int .i64 0, .bool false]) := hF 1 _ rfl rfl (by decide)
 have hl9 := Lib.hid (hl.trans (hT.below_of hl.size (by intro c hc; have hc' : c = w.heap.size := hc; omega)))
 clear hT hG hF hQ QQ L hl r0
 go_wp2_with fail
 refine bodyPost_ret (results_ct rfl aggT107 rfl x0 rfl) rfl ?_
 exact ⟨by kernel_rfl, hl9.out⟩
set_option maxRecDepth 100000 in
set_option maxHeartbeats 4000000 in
theorem of_24 (w : World) : Calls Try.prog 131 #[.int .i64 24] w (OfP w 24) := by
 go_enter Try.func131, Try.ntmps131
 go_upto_region 38 with (fail)
 refine wp_abs (Mem w [(w.heap.size, 107, #[.int .i64 0, .bool false, .int .i64 0, .bool false, .int .i64 0, .bool false])]) ⟨by go_grown, by (repeat (first | (refine Row.new_at ?_; simp; done) | refine Row.alloc ?_ _)), trivial⟩ ?_
 intro w0 hM
 obtain ⟨hl, r0, -⟩ := hM
 let L : List Sp := [sO 1 (w.heap.size) 107 [0] (fun g => aggOf g 0)]
 refine wp_region_six0 (shs L) (look6 L) (fun c => c = w.heap.size) (by kernel_rfl) (by kernel_rfl) (mk_St L [1] [1] (by kernel_rfl) (by kernel_rfl) ⟨ok_O aggOf_congr r0.lt (rfl), trivial⟩ (by simp)) ?_
 intro QQ hQ
 refine stepK rfl (by kernel_rfl) (fun K hK => ?_); go_simp
 apply Exists.intro; apply And.intro; (focus (intro wk hk; go_simp; exact ⟨rfl, rfl⟩)); refine hK _ _ ?_; clear hK K
 refine stepS _ rfl (by kernel_rfl) (fun K hK => ?_); go_simp
 refine ⟨?_, ?_⟩
 ·exact sStoreO rfl rfl rfl rfl rfl rfl r0 id (by kernel_rfl) rfl (by kernel_rfl) (by decide) aggOf_congr
 rintro ⟨v1, lo1, hi1⟩ - - (rfl : v1 = undef)
 refine hK _ _ ?_; clear hK K
 refine stepKz rfl (fun K hK => ?_); go_simp
 apply Exists.intro; apply And.intro; (focus (intro wk hk; go_simp; exact ⟨rfl, rfl⟩)); refine hK _ _ ?_; clear hK K
 refine stepN ?_
 refine hQ _ _ ?_
 intro w9 hT hG hF
 have x0 : Row w9 w.heap.size 107 (#[.int .i64 0, .bool false, .int .i64 0, .bool false, .int .i64 1, .bool false]) := hF 1 _ rfl rfl (by decide)
 have hl9 := Lib.hid (hl.trans (hT.below_of hl.size (by intro c hc; have hc' : c = w.heap.size := hc; omega)))
 clear hT hG hF hQ QQ L hl r0
 go_wp2_with fail
 refine bodyPost_ret (results_ct rfl aggT107 rfl x0 rfl) rfl ?_
 exact ⟨by kernel_rfl, hl9.out⟩
set_option maxRecDepth 100000 in
set_option maxHeartbeats 4000000 in
theorem of_25 (w : World) : Calls Try.prog 131 #[.int .i64 25] w (OfP w 25) := by
 go_enter Try.func131, Try.ntmps131
 go_upto_region 14 with (fail)
 refine wp_abs (Mem w [(w.heap.size, 107, #[.int .i64 0, .bool false, .int .i64 0, .bool false, .int .i64 0, .bool false])]) ⟨by go_grown, by (repeat (first | (refine Row.new_at ?_; simp; done) | refine Row.alloc ?_ _)), trivial⟩ ?_
 intro w0 hM
 obtain ⟨hl, r0, -⟩ := hM
 let L : List Sp := [sO 1 (w.heap.size) 107 [0] (fun g => aggOf g 0)]
 refine wp_region_six0 (shs L) (look6 L) (fun c => c = w.heap.size) (by kernel_rfl) (by kernel_rfl) (mk_St L [1] [1] (by kernel_rfl) (by kernel_rfl) ⟨ok_O aggOf_congr r0.lt (rfl), trivial⟩ (by simp)) ?_
 intro QQ hQ
 refine stepK rfl (by kernel_rfl) (fun K hK => ?_); go_simp
 apply Exists.intro; apply And.intro; (focus (intro wk hk; go_simp; exact ⟨rfl, rfl⟩)); refine hK _ _ ?_; clear hK K
 refine stepS _ rfl (by kernel_rfl) (fun K hK => ?_); go_simp
 refine ⟨?_, ?_⟩
 ·exact sStoreO rfl rfl rfl rfl rfl rfl r0 id (by kernel_rfl) rfl (by kernel_rfl) (by decide) aggOf_congr
 rintro ⟨v1, lo1, hi1⟩ - - (rfl : v1 = undef)
 refine hK _ _ ?_; clear hK K
 refine stepKz rfl (fun K hK => ?_); go_simp
 apply Exists.intro; apply And.intro; (focus (intro wk hk; go_simp; exact ⟨rfl, rfl⟩)); refine hK _ _ ?_; clear hK K
 refine stepN ?_
 refine hQ _ _ ?_
 intro w9 hT hG hF
 have x0 : Row w9 w.heap.size 107 (#[.int .i64 1, .bool false, .int .i64 0, .bool false, .int .i64 0, .bool false]) := hF 1 _ rfl rfl (by decide)
 have hl9 := Lib.hid (hl.trans (hT.below_of hl.size (by intro c hc; have hc' : c = w.heap.size := hc; omega)))
 clear hT hG hF hQ QQ L hl r0
 go_wp2_with fail
 refine bodyPost_ret (results_ct rfl aggT107 rfl x0 rfl) rfl ?_
 exact ⟨by kernel_rfl, hl9.out⟩
set_option maxRecDepth 100000 in
set_option maxHeartbeats 4000000 in
theorem of_26 (w : World) : Calls Try.prog 131 #[.int .i64 26] w (OfP w 26) := by
 go_enter Try.func131, Try.ntmps131
 go_upto_region 14 with (fail)
 refine wp_abs (Mem w [(w.heap.size, 107, #[.int .i64 0, .bool false, .int .i64 0, .bool false, .int .i64 0, .bool false])]) ⟨by go_grown, by (repeat (first | (refine Row.new_at ?_; simp; done) | refine Row.alloc ?_ _)), trivial⟩ ?_
 intro w0 hM
 obtain ⟨hl, r0, -⟩ := hM
 let L : List Sp := [sO 1 (w.heap.size) 107 [0] (fun g => aggOf g 0)]
 refine wp_region_six0 (shs L) (look6 L) (fun c => c = w.heap.size) (by kernel_rfl) (by kernel_rfl) (mk_St L [1] [1] (by kernel_rfl) (by kernel_rfl) ⟨ok_O aggOf_congr r0.lt (rfl), trivial⟩ (by simp)) ?_
 intro QQ hQ
 refine stepK rfl (by kernel_rfl) (fun K hK => ?_); go_simp
 apply Exists.intro; apply And.intro; (focus (intro wk hk; go_simp; exact ⟨rfl, rfl⟩)); refine hK _ _ ?_; clear hK K
 refine stepS _ rfl (by kernel_rfl) (fun K hK => ?_); go_simp
 refine ⟨?_, ?_⟩
 ·exact sStoreO rfl rfl rfl rfl rfl rfl r0 id (by kernel_rfl) rfl (by kernel_rfl) (by decide) aggOf_congr
 rintro ⟨v1, lo1, hi1⟩ - - (rfl : v1 = undef)
 refine hK _ _ ?_; clear hK K
 refine stepKz rfl (fun K hK => ?_); go_simp
 apply Exists.intro; apply And.intro; (focus (intro wk hk; go_simp; exact ⟨rfl, rfl⟩)); refine hK _ _ ?_; clear hK K
 refine stepN ?_
 refine hQ _ _ ?_
 intro w9 hT hG hF
 have x0 : Row w9 w.heap.size 107 (#[.int .i64 1, .bool false, .int .i64 0, .bool false, .int .i64 0, .bool false]) := hF 1 _ rfl rfl (by decide)
 have hl9 := Lib.hid (hl.trans (hT.below_of hl.size (by intro c hc; have hc' : c = w.heap.size := hc; omega)))
 clear hT hG hF hQ QQ L hl r0
 go_wp2_with fail
 refine bodyPost_ret (results_ct rfl aggT107 rfl x0 rfl) rfl ?_
 exact ⟨by kernel_rfl, hl9.out⟩
set_option maxRecDepth 100000 in
set_option maxHeartbeats 4000000 in
theorem of_27 (w : World) : Calls Try.prog 131 #[.int .i64 27] w (OfP w 27) := by
 go_enter Try.func131, Try.ntmps131
 go_upto_region 40 with (fail)
 refine wp_abs (Mem w [(w.heap.size, 107, #[.int .i64 0, .bool false, .int .i64 0, .bool false, .int .i64 0, .bool false])]) ⟨by go_grown, by (repeat (first | (refine Row.new_at ?_; simp; done) | refine Row.alloc ?_ _)), trivial⟩ ?_
 intro w0 hM
 obtain ⟨hl, r0, -⟩ := hM
 let L : List Sp := [sO 1 (w.heap.size) 107 [0] (fun g => aggOf g 0)]
 refine wp_region_six0 (shs L) (look6 L) (fun c => c = w.heap.size) (by kernel_rfl) (by kernel_rfl) (mk_St L [1] [1] (by kernel_rfl) (by kernel_rfl) ⟨ok_O aggOf_congr r0.lt (rfl), trivial⟩ (by simp)) ?_
 intro QQ hQ
 refine stepK rfl (by kernel_rfl) (fun K hK => ?_); go_simp
 apply Exists.intro; apply And.intro; (focus (intro wk hk; go_simp; exact ⟨rfl, rfl⟩)); refine hK _ _ ?_; clear hK K
 refine stepS _ rfl (by kernel_rfl) (fun K hK => ?_); go_simp
 refine ⟨?_, ?_⟩
 ·exact sStoreO rfl rfl rfl rfl rfl rfl r0 id (by kernel_rfl) rfl (by kernel_rfl) (by decide) aggOf_congr
 rintro ⟨v1, lo1, hi1⟩ - - (rfl : v1 = undef)
 refine hK _ _ ?_; clear hK K
 refine stepKz rfl (fun K hK => ?_); go_simp
 apply Exists.intro; apply And.intro; (focus (intro wk hk; go_simp; exact ⟨rfl, rfl⟩)); refine hK _ _ ?_; clear hK K
 refine stepN ?_
 refine hQ _ _ ?_
 intro w9 hT hG hF
 have x0 : Row w9 w.heap.size 107 (#[.int .i64 0, .bool false, .int .i64 0, .bool false, .int .i64 0, .bool true]) := hF 1 _ rfl rfl (by decide)
 have hl9 := Lib.hid (hl.trans (hT.below_of hl.size (by intro c hc; have hc' : c = w.heap.size := hc; omega)))
 clear hT hG hF hQ QQ L hl r0
 go_wp2_with fail
 refine bodyPost_ret (results_ct rfl aggT107 rfl x0 rfl) rfl ?_
 exact ⟨by kernel_rfl, hl9.out⟩
set_option maxRecDepth 100000 in
set_option maxHeartbeats 4000000 in
theorem of_28 (w : World) : Calls Try.prog 131 #[.int .i64 28] w (OfP w 28) := by
 go_enter Try.func131, Try.ntmps131
 go_upto_region 21 with (fail)
 refine wp_abs (Mem w [(w.heap.size, 107, #[.int .i64 0, .bool false, .int .i64 0, .bool false, .int .i64 0, .bool false])]) ⟨by go_grown, by (repeat (first | (refine Row.new_at ?_; simp; done) | refine Row.alloc ?_ _)), trivial⟩ ?_
 intro w0 hM
 obtain ⟨hl, r0, -⟩ := hM
 let L : List Sp := [sO 1 (w.heap.size) 107 [0] (fun g => aggOf g 0)]
 refine wp_region_six0 (shs L) (look6 L) (fun c => c = w.heap.size) (by kernel_rfl) (by kernel_rfl) (mk_St L [1] [1] (by kernel_rfl) (by kernel_rfl) ⟨ok_O aggOf_congr r0.lt (rfl), trivial⟩ (by simp)) ?_
 intro QQ hQ
 refine stepK rfl (by kernel_rfl) (fun K hK => ?_); go_simp
 apply Exists.intro; apply And.intro; (focus (intro wk hk; go_simp; exact ⟨rfl, rfl⟩)); refine hK _ _ ?_; clear hK K
 refine stepS _ rfl (by kernel_rfl) (fun K hK => ?_); go_simp
 refine ⟨?_, ?_⟩
 ·exact sStoreO rfl rfl rfl rfl rfl rfl r0 id (by kernel_rfl) rfl (by kernel_rfl) (by decide) aggOf_congr
 rintro ⟨v1, lo1, hi1⟩ - - (rfl : v1 = undef)
 refine hK _ _ ?_; clear hK K
 refine stepKz rfl (fun K hK => ?_); go_simp
 apply Exists.intro; apply And.intro; (focus (intro wk hk; go_simp; exact ⟨rfl, rfl⟩)); refine hK _ _ ?_; clear hK K
 refine stepN ?_
 refine hQ _ _ ?_
 intro w9 hT hG hF
 have x0 : Row w9 w.heap.size 107 (#[.int .i64 2, .bool false, .int .i64 0, .bool false, .int .i64 0, .bool false]) := hF 1 _ rfl rfl (by decide)
 have hl9 := Lib.hid (hl.trans (hT.below_of hl.size (by intro c hc; have hc' : c = w.heap.size := hc; omega)))
 clear hT hG hF hQ QQ L hl r0
 go_wp2_with fail
 refine bodyPost_ret (results_ct rfl aggT107 rfl x0 rfl) rfl ?_
 exact ⟨by kernel_rfl, hl9.out⟩
set_option maxRecDepth 100000 in
set_option maxHeartbeats 16000000 in
theorem of_no (k : Int) (hk : k < 1 ∨ 28 < k) (w : World) : Calls Try.prog 131 #[.int .i64 k] w (OfP w k) := by
 have h1 : shpOf k = shpZ := by unfold shpOf; rw [if_neg (by omega)]
 have h2 : okK k = false := by
  unfold okK
  rcases hk with h | h
  ·rw [decide_eq_false (by omega : ¬ 1 ≤ k), Bool.false_and]
  ·rw [decide_eq_false (by omega : ¬ k ≤ 28), Bool.and_false]
 have q1 : (k == 1) = false := by rw [beq_eq_false_iff_ne]; omega
 have q2 : (k == 2) = false := by rw [beq_eq_false_iff_ne]; omega
 have q3 : (k == 3) = false := by rw [beq_eq_false_iff_ne]; omega
 have q4 : (k == 4) = false := by rw [beq_eq_false_iff_ne]; omega
 have q5 : (k == 5) = false := by rw [beq_eq_false_iff_ne]; omega
 have q6 : (k == 6) = false := by rw [beq_eq_false_iff_ne]; omega
 have q7 : (k == 7) = false := by rw [beq_eq_false_iff_ne]; omega
 have q8 : (k == 8) = false := by rw [beq_eq_false_iff_ne]; omega
 have q9 : (k == 9) = false := by rw [beq_eq_false_iff_ne]; omega
 have q10 : (k == 10) = false := by rw [beq_eq_false_iff_ne]; omega
 have q11 : (k == 11) = false := by rw [beq_eq_false_iff_ne]; omega
 have q12 : (k == 12) = false := by rw [beq_eq_false_iff_ne]; omega
 have q13 : (k == 13) = false := by rw [beq_eq_false_iff_ne]; omega
 have q14 : (k == 14) = false := by rw [beq_eq_false_iff_ne]; omega
 have q15 : (k == 15) = false := by rw [beq_eq_false_iff_ne]; omega
 have q16 : (k == 16) = false := by rw [beq_eq_false_iff_ne]; omega
 have q17 : (k == 17) = false := by rw [beq_eq_false_iff_ne]; omega
 have q18 : (k == 18) = false := by rw [beq_eq_false_iff_ne]; omega
 have q19 : (k == 19) = false := by rw [beq_eq_false_iff_ne]; omega
 have q20 : (k == 20) = false := by rw [beq_eq_false_iff_ne]; omega
 have q21 : (k == 21) = false := by rw [beq_eq_false_iff_ne]; omega
 have q22 : (k == 22) = false := by rw [beq_eq_false_iff_ne]; omega
 have q23 : (k == 23) = false := by rw [beq_eq_false_iff_ne]; omega
 have q24 : (k == 24) = false := by rw [beq_eq_false_iff_ne]; omega
 have q25 : (k == 25) = false := by rw [beq_eq_false_iff_ne]; omega
 have q26 : (k == 26) = false := by rw [beq_eq_false_iff_ne]; omega
 have q27 : (k == 27) = false := by rw [beq_eq_false_iff_ne]; omega
 have q28 : (k == 28) = false := by rw [beq_eq_false_iff_ne]; omega
 have HH := Lib.hid (show _ ∧ _ from ⟨h1, h2⟩)
 clear h1 h2 hk
 go_enter Try.func131, Try.ntmps131
 go_upto_region 41 with (fail)
 refine wp_abs (Mem w [(w.heap.size, 107, #[.int .i64 0, .bool false, .int .i64 0, .bool false, .int .i64 0, .bool false])]) ⟨by go_grown, by (repeat (first | (refine Row.new_at ?_; simp; done) | refine Row.alloc ?_ _)), trivial⟩ ?_
 intro w0 hM
 obtain ⟨hl, r0, -⟩ := hM
 let L : List Sp := [sO 1 (w.heap.size) 107 [0] (fun g => aggOf g 0)]
 refine wp_region_six0 (shs L) (look6 L) (fun c => c = w.heap.size) (by kernel_rfl) (by kernel_rfl) (mk_St L [1] [1] (by kernel_rfl) (by kernel_rfl) ⟨ok_O aggOf_congr r0.lt (rfl), trivial⟩ (by simp)) ?_
 intro QQ hQ
 refine stepK rfl (by kernel_rfl) (fun K hK => ?_); go_simp
 apply Exists.intro; apply And.intro; (focus (intro wk hk; go_simp; exact ⟨rfl, rfl⟩)); refine hK _ _ ?_; clear hK K
 refine stepS _ rfl (by kernel_rfl) (fun K hK => ?_); go_simp
 refine ⟨?_, ?_⟩
 ·exact sStoreO rfl rfl rfl rfl rfl rfl r0 id (by kernel_rfl) rfl (by kernel_rfl) (by decide) aggOf_congr
 rintro ⟨v1, lo1, hi1⟩ - - (rfl : v1 = undef)
 refine hK _ _ ?_; clear hK K
 refine stepKz rfl (fun K hK => ?_); go_simp
 apply Exists.intro; apply And.intro; (focus (intro wk hk; go_simp; exact ⟨rfl, rfl⟩)); refine hK _ _ ?_; clear hK K
 refine stepN ?_
 refine hQ _ _ ?_
 intro w9 hT hG hF
 have x0 : Row w9 w.heap.size 107 (#[.int .i64 0, .bool false, .int .i64 0, .bool false, .int .i64 0, .bool false]) := hF 1 _ rfl rfl (by decide)
 have hl9 := Lib.hid (hl.trans (hT.below_of hl.size (by intro c hc; have hc' : c = w.heap.size := hc; omega)))
 clear hT hG hF hQ QQ L hl r0 q1 q2 q3 q4 q5 q6 q7 q8 q9 q10 q11 q12 q13 q14 q15 q16 q17 q18 q19 q20 q21 q22 q23 q24 q25 q26 q27 q28
 go_wp2_with fail
 refine bodyPost_ret (results_ct rfl aggT107 rfl x0 rfl) rfl ?_
 exact ⟨by rw [HH.out.1, HH.out.2]; rfl, hl9.out⟩
theorem txof_any (k : Int) (w : World) : Calls Try.prog 131 #[.int .i64 k] w (OfP w k) := by
 by_cases h : k < 1 ∨ 28 < k
 ·exact of_no k h w
 ·have h2 : k = 1 ∨ k = 2 ∨ k = 3 ∨ k = 4 ∨ k = 5 ∨ k = 6 ∨ k = 7 ∨ k = 8 ∨ k = 9 ∨ k = 10 ∨ k = 11 ∨ k = 12 ∨ k = 13 ∨ k = 14 ∨ k = 15 ∨ k = 16 ∨ k = 17 ∨ k = 18 ∨ k = 19 ∨ k = 20 ∨ k = 21 ∨ k = 22 ∨ k = 23 ∨ k = 24 ∨ k = 25 ∨ k = 26 ∨ k = 27 ∨ k = 28 := by omega
  rcases h2 with rfl | rfl | rfl | rfl | rfl | rfl | rfl | rfl | rfl | rfl | rfl | rfl | rfl | rfl | rfl | rfl | rfl | rfl | rfl | rfl | rfl | rfl | rfl | rfl | rfl | rfl | rfl | rfl
  ·exact of_1 w
  ·exact of_2 w
  ·exact of_3 w
  ·exact of_4 w
  ·exact of_5 w
  ·exact of_6 w
  ·exact of_7 w
  ·exact of_8 w
  ·exact of_9 w
  ·exact of_10 w
  ·exact of_11 w
  ·exact of_12 w
  ·exact of_13 w
  ·exact of_14 w
  ·exact of_15 w
  ·exact of_16 w
  ·exact of_17 w
  ·exact of_18 w
  ·exact of_19 w
  ·exact of_20 w
  ·exact of_21 w
  ·exact of_22 w
  ·exact of_23 w
  ·exact of_24 w
  ·exact of_25 w
  ·exact of_26 w
  ·exact of_27 w
  ·exact of_28 w
set_option maxRecDepth 100000 in
set_option maxHeartbeats 4000000 in
theorem within_at (n lo hi : Int) (w : World) : Calls Try.prog 207 #[.int .i64 n, .int .i64 lo, .int .i64 hi] w fun r w' => r = .returned (.bool (decide (lo ≤ n ∧ n ≤ hi))) ∧ Below w.heap.size w w' := by
 by_cases h1 : lo ≤ n
 ·by_cases h2 : n ≤ hi
  ·rw [decide_eq_true ⟨h1, h2⟩]
   go_enter Try.func207, Try.ntmps207
   go_wp2_with fail
   go_ret
   exact ⟨by first | rfl | (simp; done), Below.refl _ _⟩
  ·rw [decide_eq_false (fun h => h2 h.2)]
   go_enter Try.func207, Try.ntmps207
   go_wp2_with fail
   go_ret
   exact ⟨by first | rfl | (simp; done), Below.refl _ _⟩
 ·rw [decide_eq_false (fun h => h1 h.1)]
  go_enter Try.func207, Try.ntmps207
  go_wp2_with fail
  go_ret
  exact ⟨by first | rfl | (simp; done), Below.refl _ _⟩
set_option maxRecDepth 100000 in
set_option maxHeartbeats 4000000 in
theorem rwithin_at (n lo hi : Int) (w : World) : Calls Try.prog 242 #[.int .i64 n, .int .i64 lo, .int .i64 hi] w fun r w' => r = .returned (.bool (decide (lo ≤ n ∧ n ≤ hi))) ∧ Below w.heap.size w w' := by
 by_cases h1 : lo ≤ n
 ·by_cases h2 : n ≤ hi
  ·rw [decide_eq_true ⟨h1, h2⟩]
   go_enter Try.func242, Try.ntmps242
   go_wp2_with fail
   go_ret
   exact ⟨by first | rfl | (simp; done), Below.refl _ _⟩
  ·rw [decide_eq_false (fun h => h2 h.2)]
   go_enter Try.func242, Try.ntmps242
   go_wp2_with fail
   go_ret
   exact ⟨by first | rfl | (simp; done), Below.refl _ _⟩
 ·rw [decide_eq_false (fun h => h1 h.1)]
  go_enter Try.func242, Try.ntmps242
  go_wp2_with fail
  go_ret
  exact ⟨by first | rfl | (simp; done), Below.refl _ _⟩
end Go.Proofs.Ytpdenhmkpiafiaa
namespace Go.Proofs.Ytpdenhmkpiafiaa
open Go Go.RowKit K6
def M2 : Nat := 340282366920938463463374607431768211456
theorem amount_bits {a : Nat} (ha : a < M) : (bits .or .u64 (wordsOf a 2) (wordsOf a 3) == 0) = decide (a < M2) := by
 unfold wordsOf
 rw [u64_or_nat _ _ (Nat.mod_lt _ (by decide)) (Nat.mod_lt _ (by decide)), Bool.eq_iff_iff]
 simp only [beq_iff_eq, decide_eq_true_eq]
 have e : ((a / 2 ^ (64 * 2) % 2 ^ 64 ||| a / 2 ^ (64 * 3) % 2 ^ 64 : Nat) : Int) = 0 ↔ a / 2 ^ (64 * 2) % 2 ^ 64 = 0 ∧ a / 2 ^ (64 * 3) % 2 ^ 64 = 0 := by
  rw [Int.natCast_eq_zero, Nat.or_eq_zero_iff]
 rw [e]
 unfold M at ha
 unfold M2
 omega
set_option maxRecDepth 100000 in
set_option maxHeartbeats 4000000 in
theorem amountU {a : Nat} (ha : a < M) (w : World) : Calls Try.prog 105 #[.agg (W4 a)] w (Ret w (.bool (decide (a < M2)))) := by
 have hb := amount_bits ha
 obtain ⟨x2, h2⟩ : ∃ x, x = wordsOf a 2 := ⟨_, rfl⟩
 obtain ⟨x3, h3⟩ : ∃ x, x = wordsOf a 3 := ⟨_, rfl⟩
 rw [← h2, ← h3] at hb
 go_enter Try.func105, Try.ntmps105
 apply wp_seq_eq
 focus
  intro J hJ
  go_wp2_with fail
  exact hJ
 refine wp_abs (Mem w [(w.heap.size, 31, W4 a)]) ⟨by go_grown, ?_, trivial⟩ ?_
 ·repeat (first | (refine Row.new_at ?_; simp; done) | refine Row.alloc ?_ _)
 intro w0 hM
 obtain ⟨hl, ra, -⟩ := hM
 go_upto_region 1 with (fail)
 have c2 : w0.cell? ⟨w.heap.size, 2, none⟩ = some (.int .u64 x2) := by rw [h2]; exact ra.cell 2
 have c3 : w0.cell? ⟨w.heap.size, 3, none⟩ = some (.int .u64 x3) := by rw [h3]; exact ra.cell 3
 go_wp2_with fail
 go_ret
 exact ⟨by rw [← hb, h2, h3]; rfl, hl⟩
end Go.Proofs.Ytpdenhmkpiafiaa
namespace Go.Proofs.Ytpdenhmkpiafiaa
open Go Go.RowKit K6
def okA (a : Nat) : Bool := decide (a < M2)
def okLf (x : Lf) : Bool := decide (0 ≤ x.i ∧ x.i ≤ 4294967295) && (decide (0 ≤ x.t ∧ x.t ≤ 4294967295) && (decide (x.p.length ≤ 10) && okA x.a))
theorem all_not {α : Type} {f : α → Bool} {l : List α} {i : Nat} {x : α} (hx : l[i]? = some x) (h : f x = false) : l.all f = false := by
 cases hk : l.all f with
 | false => rfl
 | true =>
  have := List.all_eq_true.1 hk x (List.mem_of_getElem? hx)
  rw [h] at this
  cases this
theorem all_all {α : Type} {f : α → Bool} {l : List α} (hk : ∀ (j : Nat) (x : α), j < l.length → l[j]? = some x → f x = true) : l.all f = true := by
 refine List.all_eq_true.2 fun x hx => ?_
 obtain ⟨j, hj, rfl⟩ := List.mem_iff_getElem.1 hx
 exact hk j _ hj (List.getElem?_eq_getElem hj)
set_option maxRecDepth 100000 in
set_option maxHeartbeats 4000000 in
theorem good1_at (a : Nat) (ha : a < M) (w : World) : Calls Try.prog 210 #[.agg (W4 a)] w fun r w' => r = .returned (.bool (!okA a)) ∧ Below w.heap.size w w' := by
 have ka := fun wx => amountU ha wx
 unfold okA
 obtain ⟨b, hb⟩ : ∃ b, decide (a < M2) = b := ⟨_, rfl⟩
 obtain ⟨y0, y1, y2, y3, hW⟩ : ∃ y0 y1 y2 y3 : Int, W4 a = #[.int .u64 y0, .int .u64 y1, .int .u64 y2, .int .u64 y3] := ⟨_, _, _, _, rfl⟩
 simp only [hb, hW] at ka ⊢
 replace ka := Lib.hid ka
 clear ha hb hW
 go_enter Try.func210, Try.ntmps210
 go_upto_region 1 with (fail)
 refine wp_abs (Mem w [(w.heap.size, 31, #[.int .u64 y0, .int .u64 y1, .int .u64 y2, .int .u64 y3])]) ⟨by go_grown, by (repeat (first | (refine Row.new_at ?_; simp; done) | refine Row.alloc ?_ _)), trivial⟩ ?_
 intro w0 hM
 obtain ⟨hl, r1, -⟩ := hM
 have d0 := r1.cell 0
 have d1 := r1.cell 1
 have d2 := r1.cell 2
 have d3 := r1.cell 3
 have HL := Lib.hid hl
 clear hl r1
 go_wp2_with fail
 refine (ka.out _).mono ?_
 rintro e w1 ⟨rfl, hb⟩
 have H1 := Lib.hid (HL.out.trans (hb.mono HL.out.size))
 clear ka hb HL d0 d1 d2 d3
 cases b <;>
 ·go_wp2_with fail
  go_ret
  exact ⟨by first | rfl | (simp; done), H1.out⟩
set_option maxRecDepth 100000 in
set_option maxHeartbeats 16000000 in
theorem goodA_idx (v : Value) (l : List Nat) (w : World) (h : Us w v l) (hM : ∀ a ∈ l, a < M) (hE : l.length ≤ 1000) :
  Calls Try.prog 236 #[v, .func (.func 210) #[] #[]] w (IdxP (l.all okA) w) := by
 have HC := Lib.hid h
 obtain ⟨q, c, rfl, -⟩ := h
 obtain ⟨m, hm⟩ : ∃ m, l.length = m := ⟨_, rfl⟩
 rw [hm] at HC ⊢
 have hmi : (m : Int) ≤ 1000 := by omega
 go_enter Try.func236, Try.ntmps236
 go_wp2_with fail
 go_loopg [5, 8] m (fun gg s5 s8 wr => ∃ i : Nat, i + gg = m ∧ s8 = .int .i64 (i : Int) ∧ Hid (∀ (j : Nat) (x : Nat), j < i → l[j]? = some x → okA x = true) ∧ Hid (Below w.heap.size w wr))
 case atStart => exact ⟨0, by omega, rfl, Lib.hid (fun j e h => absurd h (Nat.not_lt_zero j)), Lib.hid (Below.refl _ _)⟩
 case round =>
  obtain ⟨i, him, rfl, hall, hinv⟩ := hrel
  by_cases hi : i < m
  ·obtain ⟨x, hx⟩ : ∃ x, l[i]? = some x := ⟨_, List.getElem?_eq_getElem (by omega)⟩
   obtain ⟨g, o, c', hu, hg, hcs⟩ := (HC.out.below hinv.out).elem hx
   simp only [Value.slice.injEq] at hu
   obtain ⟨rfl, -, -⟩ := hu
   have kb := fun wx (hbw : Below w.heap.size w wx) => good1_at x (hM x (List.mem_of_getElem? hx)) wx
   obtain ⟨b, hb⟩ : ∃ b, okA x = b := ⟨_, rfl⟩
   simp only [hb] at kb
   replace kb := Lib.hid kb
   have he' := Lib.hid (show _ ∧ _ from ⟨hx, hb⟩)
   clear hx hb
   have hlt : (i : Int) < (m : Int) := by omega
   go_upto_region 4 with (fail)
   let L : List Sp := [sV 5 [] [] (fun u => u = .bool (!b))]
   refine wp_region_six0 (shs L) (look6 L) (None_) (by kernel_rfl) (by kernel_rfl) (mk_St L [] [] (by kernel_rfl) (by kernel_rfl) ⟨ok_V ⟨_, rfl⟩, trivial⟩ (by simp)) ?_
   intro QQ hQ
   iterate 4 (refine stepK rfl (by kernel_rfl) (fun K hK => ?_); go_simp; apply Exists.intro; apply And.intro; (focus (intro wk hk; go_simp; exact ⟨rfl, rfl⟩)); refine hK _ _ ?_; clear hK K)
   refine stepK rfl (by kernel_rfl) (fun K hK => ?_); go_simp
   apply Exists.intro; apply And.intro; (focus exact kLoadE rfl rfl aggT31 hcs rfl hg id); refine hK _ _ ?_; clear hK K
   refine stepS _ rfl (by kernel_rfl) (fun K hK => ?_); go_simp
   refine ⟨?_, ?_⟩
   ·intro wk hk hg hu; go_simp; refine upon_enter ((kb.out _ (hinv.out.trans (hk.below.mono hinv.out.size))).mono ?_); rintro e w' ⟨rfl, hb⟩; exact ⟨_, rfl, left_V (p := fun u => u = .bool (!b)) rfl (hb) rfl⟩
   rintro ⟨v5, lo5, hi5⟩ - - (rfl : v5 = _)
   refine hK _ _ ?_; clear hK K
   refine stepN ?_
   refine hQ _ _ ?_
   intro w1 hT hG hF
   have hl1 := Lib.hid (hinv.out.trans (hT.below.mono hinv.out.size))
   clear hT hG hF hQ QQ L hinv hcs kb
   cases b
   ·go_wp2_with fail
    go_ret
    unfold IdxP
    exact ⟨_, rfl, (fun h => by rw [all_not he'.out.1 he'.out.2] at h; cases h), (fun _ => by omega), hl1.out⟩
   ·go_wp2_with fail
    go_roundg (gk - 1)
    case measure => omega
    case rel =>
     refine ⟨i + 1, by omega, by go_num, Lib.hid fun j e hj hje => ?_, hl1⟩
     rcases Nat.lt_or_ge j i with h | h
     ·exact hall.out j e h hje
     ·obtain rfl : j = i := by omega
      have h1 := he'.out.1.symm.trans hje
      injection h1 with h1
      rw [← h1]
      exact he'.out.2
  ·obtain rfl : i = m := by omega
   have hlt : ¬ (i : Int) < (i : Int) := by omega
   go_wp2_with fail
   go_ret
   unfold IdxP
   exact ⟨-1, rfl, (fun _ => rfl), (fun h => by rw [all_all (fun j e hj hje => hall.out j e (by omega) hje)] at h; cases h), hinv.out⟩
set_option maxRecDepth 100000 in
set_option maxHeartbeats 16000000 in
theorem goodA_cont (v : Value) (l : List Nat) (w : World) (h : Us w v l) (hM : ∀ a ∈ l, a < M) (hE : l.length ≤ 1000) :
  Calls Try.prog 209 #[v, .func (.func 210) #[] #[]] w fun r w' => r = .returned (.bool (!l.all okA)) ∧ Below w.heap.size w w' := by
 have K := Lib.hid (goodA_idx v l w h hM hE)
 obtain ⟨b, hb⟩ : ∃ b, l.all okA = b := ⟨_, rfl⟩
 rw [hb] at K ⊢
 clear h hE hb
 go_enter Try.func209, Try.ntmps209
 go_wp2_with fail
 refine K.out.mono ?_
 rintro e w1 ⟨n, rfl, hn, hn', hb⟩
 clear K
 cases b
 ·have hge : (0 : Int) ≤ n := hn' rfl
  clear hn hn'
  go_wp2_with fail
  go_ret
  exact ⟨by first | rfl | (simp; done), hb⟩
 ·obtain rfl : n = -1 := hn rfl
  clear hn hn'
  go_wp2_with fail
  go_ret
  exact ⟨by first | rfl | (simp; done), hb⟩
set_option maxRecDepth 100000 in
set_option maxHeartbeats 16000000 in
theorem goodLeaf_at (x : Lf) (w : World) (hx : x.a < M) (hL : x.p.length ≤ 140737488355328) :
  Calls Try.prog 239 #[.agg (lfc x).toArray] w fun r w' => r = .returned (.bool (okLf x)) ∧ Below w.heap.size w w' := by
 have ka := fun wx => amountU hx wx
 have k1 := fun wx => within_at x.i 0 4294967295 wx
 have k2 := fun wx => within_at x.t 0 4294967295 wx
 have hok : okLf x = (decide (0 ≤ x.i ∧ x.i ≤ 4294967295) && (decide (0 ≤ x.t ∧ x.t ≤ 4294967295) && (decide (x.p.length ≤ 10) && decide (x.a < M2)))) := rfl
 obtain ⟨b1, hb1⟩ : ∃ b, decide (0 ≤ x.i ∧ x.i ≤ 4294967295) = b := ⟨_, rfl⟩
 obtain ⟨b2, hb2⟩ : ∃ b, decide (0 ≤ x.t ∧ x.t ≤ 4294967295) = b := ⟨_, rfl⟩
 obtain ⟨b4, hb4⟩ : ∃ b, decide (x.a < M2) = b := ⟨_, rfl⟩
 simp only [hb1] at k1
 simp only [hb2] at k2
 simp only [hb4] at ka
 rw [hb1, hb2, hb4] at hok
 obtain ⟨y0, y1, y2, y3, hW⟩ : ∃ y0 y1 y2 y3 : Int, W4 x.a = #[.int .u64 y0, .int .u64 y1, .int .u64 y2, .int .u64 y3] := ⟨_, _, _, _, rfl⟩
 have hcsW : (lfc x).toArray = #[.int .i64 x.i, .int .i64 x.t, .int .u64 y0, .int .u64 y1, .int .u64 y2, .int .u64 y3, .slice x.pq x.p.length x.pc] := by unfold lfc Lf.pv; rw [hW]; rfl
 simp only [hW] at ka
 rw [hcsW, hok]
 obtain ⟨xi, hxi⟩ : ∃ n, x.i = n := ⟨_, rfl⟩
 obtain ⟨xt, hxt⟩ : ∃ n, x.t = n := ⟨_, rfl⟩
 obtain ⟨np, hnp⟩ : ∃ n, x.p.length = n := ⟨_, rfl⟩
 obtain ⟨pq, hpq⟩ : ∃ n, x.pq = n := ⟨_, rfl⟩
 obtain ⟨pc, hpc⟩ : ∃ n, x.pc = n := ⟨_, rfl⟩
 simp only [hxi] at k1
 simp only [hxt] at k2
 rw [hxi, hxt, hnp, hpq, hpc]
 rw [hnp] at hL
 replace ka := Lib.hid ka
 replace k1 := Lib.hid k1
 replace k2 := Lib.hid k2
 clear hx hok hb1 hb2 hb4 hW hcsW hxi hxt hnp hpq hpc
 have hcase : ((np : Int) ≤ 10 ∧ decide (np ≤ 10) = true) ∨ (¬ (np : Int) ≤ 10 ∧ decide (np ≤ 10) = false) := by
  by_cases h : np ≤ 10
  ·exact .inl ⟨by omega, decide_eq_true h⟩
  ·exact .inr ⟨by omega, decide_eq_false h⟩
 have hni : (np : Int) ≤ 140737488355328 := by omega
 clear hL
 go_enter Try.func239, Try.ntmps239
 go_upto_region 1 with (fail)
 refine wp_abs (Mem w [(w.heap.size, 198, #[.int .i64 xi, .int .i64 xt, .int .u64 y0, .int .u64 y1, .int .u64 y2, .int .u64 y3, .slice pq np pc])]) ⟨by go_grown, by (repeat (first | (refine Row.new_at ?_; simp; done) | refine Row.alloc ?_ _)), trivial⟩ ?_
 intro w0 hM
 obtain ⟨hl, r1, -⟩ := hM
 have HL := Lib.hid (show _ ∧ _ from ⟨hl, r1⟩)
 have d0 := r1.cell 0
 clear hl r1
 go_wp2_with fail
 refine (k1.out _).mono ?_
 rintro e w1 ⟨rfl, hb⟩
 have H1 := Lib.hid (show _ ∧ _ from ⟨HL.out.1.trans (hb.mono HL.out.1.size), HL.out.2.below hb HL.out.2.lt⟩)
 clear k1 hb HL d0
 cases b1
 ·clear ka k2 hcase
  go_wp2_with fail
  go_ret
  exact ⟨by first | rfl | (simp; done), H1.out.1⟩
 have d1 := H1.out.2.cell 1
 go_wp2_with fail
 refine (k2.out _).mono ?_
 rintro e w2 ⟨rfl, hb⟩
 have H2 := Lib.hid (show _ ∧ _ from ⟨H1.out.1.trans (hb.mono H1.out.1.size), H1.out.2.below hb H1.out.2.lt⟩)
 clear k2 hb H1 d1
 cases b2
 ·clear ka hcase
  go_wp2_with fail
  go_ret
  exact ⟨by first | rfl | (simp; done), H2.out.1⟩
 have d6 := H2.out.2.cell 6
 rcases hcase with ⟨h10, hd⟩ | ⟨h10, hd⟩
 ·have d2 := H2.out.2.cell 2
  have d3 := H2.out.2.cell 3
  have d4 := H2.out.2.cell 4
  have d5 := H2.out.2.cell 5
  have HD := Lib.hid hd
  clear hd
  go_wp2_with fail
  refine (ka.out _).mono ?_
  rintro e w3 ⟨rfl, hb⟩
  have H3 := Lib.hid (H2.out.1.trans (hb.mono H2.out.1.size))
  clear ka hb H2 d2 d3 d4 d5 d6
  go_wp2_with fail
  go_ret
  exact ⟨by rw [HD.out]; cases b4 <;> rfl, H3.out⟩
 ·have HD := Lib.hid hd
  clear hd ka
  go_wp2_with fail
  go_ret
  exact ⟨by rw [HD.out]; rfl, H2.out.1⟩
set_option maxRecDepth 100000 in
set_option maxHeartbeats 16000000 in
theorem goodLf1_at (x : Lf) (w : World) (hx : x.a < M) (hL : x.p.length ≤ 140737488355328) :
  Calls Try.prog 238 #[.agg (lfc x).toArray] w fun r w' => r = .returned (.bool (!okLf x)) ∧ Below w.heap.size w w' := by
 have ka := Lib.hid fun wx => goodLeaf_at x wx hx hL
 obtain ⟨b, hb⟩ : ∃ b, okLf x = b := ⟨_, rfl⟩
 rw [hb] at ka ⊢
 clear hb hx hL
 go_enter Try.func238, Try.ntmps238
 go_upto_region 1 with (fail)
 refine wp_abs (Mem w [(w.heap.size, 198, (lfc x).toArray)]) ⟨by go_grown, by (repeat (first | (refine Row.new_at ?_; simp; done) | refine Row.alloc ?_ _)), trivial⟩ ?_
 intro w0 hM
 obtain ⟨hl, r1, -⟩ := hM
 let L : List Sp := [sV 1 [] [] (fun u => u = .bool b)]
 refine wp_region_six0 (shs L) (look6 L) (None_) (by kernel_rfl) (by kernel_rfl) (mk_St L [] [] (by kernel_rfl) (by kernel_rfl) ⟨ok_V ⟨_, rfl⟩, trivial⟩ (by simp)) ?_
 intro QQ hQ
 refine stepK rfl (by kernel_rfl) (fun K hK => ?_); go_simp
 apply Exists.intro; apply And.intro; (focus exact kLoad rfl rfl aggT198 r1 (lfc_len x) id); refine hK _ _ ?_; clear hK K
 refine stepS _ rfl (by kernel_rfl) (fun K hK => ?_); go_simp
 refine ⟨?_, ?_⟩
 ·intro wk hk hg hu; go_simp; refine upon_enter ((ka.out _).mono ?_); rintro e w' ⟨rfl, hb⟩; exact ⟨_, rfl, left_V (p := fun u => u = .bool b) rfl (hb) rfl⟩
 rintro ⟨v1, lo1, hi1⟩ - - (rfl : v1 = _)
 refine hK _ _ ?_; clear hK K
 iterate 2 (refine stepK rfl (by kernel_rfl) (fun K hK => ?_); go_simp; apply Exists.intro; apply And.intro; (focus (intro wk hk; go_simp; exact ⟨rfl, rfl⟩)); refine hK _ _ ?_; clear hK K)
 refine stepN ?_
 refine hQ _ _ ?_
 intro w9 hT hG hF
 have H9 := Lib.hid (hl.trans (hT.below.mono hl.size))
 clear hT hG hF hQ QQ L hl r1 ka
 go_wp2_with fail
 go_ret
 exact ⟨by first | rfl | (simp; done), H9.out⟩
set_option maxRecDepth 100000 in
set_option maxHeartbeats 16000000 in
theorem goodL_idx (v : Value) (l : List Lf) (w : World) (h : Ls w v l) (hpl : ∀ x ∈ l, x.p.length ≤ 140737488355328) (hE : l.length ≤ 1000) :
  Calls Try.prog 255 #[v, .func (.func 238) #[] #[]] w (IdxP (l.all okLf) w) := by
 have HC := Lib.hid h
 obtain ⟨q, c, rfl, -⟩ := h.1
 obtain ⟨m, hm⟩ : ∃ m, l.length = m := ⟨_, rfl⟩
 rw [hm] at HC ⊢
 have hmi : (m : Int) ≤ 1000 := by omega
 go_enter Try.func255, Try.ntmps255
 go_wp2_with fail
 go_loopg [5, 8] m (fun gg s5 s8 wr => ∃ i : Nat, i + gg = m ∧ s8 = .int .i64 (i : Int) ∧ Hid (∀ (j : Nat) (x : Lf), j < i → l[j]? = some x → okLf x = true) ∧ Hid (Below w.heap.size w wr))
 case atStart => exact ⟨0, by omega, rfl, Lib.hid (fun j e h => absurd h (Nat.not_lt_zero j)), Lib.hid (Below.refl _ _)⟩
 case round =>
  obtain ⟨i, him, rfl, hall, hinv⟩ := hrel
  by_cases hi : i < m
  ·obtain ⟨x, hx⟩ : ∃ x, l[i]? = some x := ⟨_, List.getElem?_eq_getElem (by omega)⟩
   obtain ⟨g, o, c', hu, hg, hcs⟩ := (HC.out.below hinv.out).1.get hx
   simp only [Value.slice.injEq] at hu
   obtain ⟨rfl, -, -⟩ := hu
   have kb := fun wx (hbw : Below w.heap.size w wx) => goodLf1_at x wx (HC.out.2 x (List.mem_of_getElem? hx)).a (hpl x (List.mem_of_getElem? hx))
   obtain ⟨b, hb⟩ : ∃ b, okLf x = b := ⟨_, rfl⟩
   simp only [hb] at kb
   replace kb := Lib.hid kb
   have he' := Lib.hid (show _ ∧ _ from ⟨hx, hb⟩)
   clear hx hb
   have hlt : (i : Int) < (m : Int) := by omega
   go_upto_region 4 with (fail)
   let L : List Sp := [sV 5 [] [] (fun u => u = .bool (!b))]
   refine wp_region_six0 (shs L) (look6 L) (None_) (by kernel_rfl) (by kernel_rfl) (mk_St L [] [] (by kernel_rfl) (by kernel_rfl) ⟨ok_V ⟨_, rfl⟩, trivial⟩ (by simp)) ?_
   intro QQ hQ
   iterate 4 (refine stepK rfl (by kernel_rfl) (fun K hK => ?_); go_simp; apply Exists.intro; apply And.intro; (focus (intro wk hk; go_simp; exact ⟨rfl, rfl⟩)); refine hK _ _ ?_; clear hK K)
   refine stepK rfl (by kernel_rfl) (fun K hK => ?_); go_simp
   apply Exists.intro; apply And.intro; (focus exact kLoadE rfl rfl aggT198 hcs (lfc_len x) hg id); refine hK _ _ ?_; clear hK K
   refine stepS _ rfl (by kernel_rfl) (fun K hK => ?_); go_simp
   refine ⟨?_, ?_⟩
   ·intro wk hk hg hu; go_simp; refine upon_enter ((kb.out _ (hinv.out.trans (hk.below.mono hinv.out.size))).mono ?_); rintro e w' ⟨rfl, hb⟩; exact ⟨_, rfl, left_V (p := fun u => u = .bool (!b)) rfl (hb) rfl⟩
   rintro ⟨v5, lo5, hi5⟩ - - (rfl : v5 = _)
   refine hK _ _ ?_; clear hK K
   refine stepN ?_
   refine hQ _ _ ?_
   intro w1 hT hG hF
   have hl1 := Lib.hid (hinv.out.trans (hT.below.mono hinv.out.size))
   clear hT hG hF hQ QQ L hinv hcs kb
   cases b
   ·go_wp2_with fail
    go_ret
    unfold IdxP
    exact ⟨_, rfl, (fun h => by rw [all_not he'.out.1 he'.out.2] at h; cases h), (fun _ => by omega), hl1.out⟩
   ·go_wp2_with fail
    go_roundg (gk - 1)
    case measure => omega
    case rel =>
     refine ⟨i + 1, by omega, by go_num, Lib.hid fun j e hj hje => ?_, hl1⟩
     rcases Nat.lt_or_ge j i with h | h
     ·exact hall.out j e h hje
     ·obtain rfl : j = i := by omega
      have h1 := he'.out.1.symm.trans hje
      injection h1 with h1
      rw [← h1]
      exact he'.out.2
  ·obtain rfl : i = m := by omega
   have hlt : ¬ (i : Int) < (i : Int) := by omega
   go_wp2_with fail
   go_ret
   unfold IdxP
   exact ⟨-1, rfl, (fun _ => rfl), (fun h => by rw [all_all (fun j e hj hje => hall.out j e (by omega) hje)] at h; cases h), hinv.out⟩
set_option maxRecDepth 100000 in
set_option maxHeartbeats 16000000 in
theorem goodL_cont (v : Value) (l : List Lf) (w : World) (h : Ls w v l) (hpl : ∀ x ∈ l, x.p.length ≤ 140737488355328) (hE : l.length ≤ 1000) :
  Calls Try.prog 237 #[v, .func (.func 238) #[] #[]] w fun r w' => r = .returned (.bool (!l.all okLf)) ∧ Below w.heap.size w w' := by
 have K := Lib.hid (goodL_idx v l w h hpl hE)
 obtain ⟨b, hb⟩ : ∃ b, l.all okLf = b := ⟨_, rfl⟩
 rw [hb] at K ⊢
 clear h hE hb
 go_enter Try.func237, Try.ntmps237
 go_wp2_with fail
 refine K.out.mono ?_
 rintro e w1 ⟨n, rfl, hn, hn', hb⟩
 clear K
 cases b
 ·have hge : (0 : Int) ≤ n := hn' rfl
  clear hn hn'
  go_wp2_with fail
  go_ret
  exact ⟨by first | rfl | (simp; done), hb⟩
 ·obtain rfl : n = -1 := hn rfl
  clear hn hn'
  go_wp2_with fail
  go_ret
  exact ⟨by first | rfl | (simp; done), hb⟩
end Go.Proofs.Ytpdenhmkpiafiaa
namespace Go.Proofs.Ytpdenhmkpiafiaa
open Go Go.RowKit K6
def cntB (s : Shp) (n a h : Nat) : Bool := (if s.t then decide (1 ≤ (n : Int) - s.n ∧ (n : Int) - s.n ≤ 8) else decide ((n : Int) - s.n = 0)) && (decide ((a : Int) = if s.e then (n : Int) - s.n else s.a) && decide ((h : Int) = s.h))
def numsB (xn : Int) (l : List Int) : Bool := decide (∀ i, i < l.length → (0 ≤ l.getD i 0 ∧ l.getD i 0 ≤ 1099511627776) ∧ (xn < (i : Int) → l.getD (i - 1) 0 < l.getD i 0))
def okLfK (y : LfK) : Bool := decide (0 ≤ y.1 ∧ y.1 ≤ 4294967295) && (decide (0 ≤ y.2.1 ∧ y.2.1 ≤ 4294967295) && (decide (y.2.2.2.length ≤ 10) && okA y.2.2.1))
theorem all_key (l : List Lf) : l.all okLf = (l.map Lf.key).all okLfK := by
 rw [List.all_map]; rfl
def headB (c : CmK) : Bool := decide (0 ≤ c.1 ∧ c.1 ≤ 4294967295) && (decide (0 ≤ c.2.1 ∧ c.2.1 ≤ 4294967295) && (decide (1 ≤ c.2.2.1 ∧ c.2.2.1 ≤ 4294967295) && decide (1 ≤ c.2.2.2.2.1 ∧ c.2.2.2.2.1 ≤ 4294967295)))
def goodCK (c : CmK) : Bool := headB c && (decide (c.2.2.2.2.2.1.length ≤ 10) && (decide (1 ≤ (c.2.2.2.2.2.2.length : Int) ∧ (c.2.2.2.2.2.2.length : Int) ≤ 8) && c.2.2.2.2.2.2.all okLfK))
def goodK (t : TxK) : Bool := okK t.1 && (decide (1 ≤ t.2.1 ∧ t.2.1 ≤ 4294967295) && (cntB (shpOf t.1) t.2.2.1.length t.2.2.2.1.length t.2.2.2.2.1.length && (numsB (shpOf t.1).n t.2.2.1 && (t.2.2.2.1.all okA && (if (shpOf t.1).c = true then goodCK t.2.2.2.2.2 else decide (t.2.2.2.2.2 = cm0.key))))))
def prfB (l : List (List Int)) : List Int := enc l.length ++ l.flatMap fun y => y
def lfKB (y : LfK) : List Int := enc y.1.toNat ++ (enc y.2.1.toNat ++ (amtL y.2.2.1 ++ prfB y.2.2.2))
def clKB (c : CmK) : List Int := enc c.1.toNat ++ (enc c.2.1.toNat ++ (enc c.2.2.1.toNat ++ (enc c.2.2.2.2.1.toNat ++ (c.2.2.2.1 ++ (prfB c.2.2.2.2.2.1 ++ (enc c.2.2.2.2.2.2.length ++ c.2.2.2.2.2.2.flatMap lfKB))))))
def nst (s : Shp) (l : List Int) (i : Nat) : List Int := (if s.t = true ∧ (i : Int) = s.n then enc ((l.length : Int) - s.n).toNat else []) ++ enc (l.getD i 0).toNat
def numB (s : Shp) (l : List Int) (i : Nat) : List Int := (List.range i).flatMap (nst s l)
def putK (t : TxK) : List Int := enc t.1.toNat ++ (enc t.2.1.toNat ++ (numB (shpOf t.1) t.2.2.1 t.2.2.1.length ++ (t.2.2.2.1.flatMap amtL ++ (t.2.2.2.2.1.flatMap (fun y => y) ++ (if (shpOf t.1).c = true then clKB t.2.2.2.2.2 else [])))))
def bytK (t : TxK) : List Int := if goodK t = true then (if (putK t).length ≤ 4096 then putK t else []) else []
theorem flat_step {α : Type} (f : α → List Int) {l : List α} {i : Nat} {x : α} (hx : l[i]? = some x) (P : List Int) : (P ++ (l.take i).flatMap f) ++ f x = P ++ (l.take (i + 1)).flatMap f := by
 rw [List.take_add_one, hx, Option.toList_some, List.flatMap_append, List.append_assoc]
 have : [x].flatMap f = f x := List.append_nil _
 rw [this]
theorem numB_step (s : Shp) (l : List Int) (i : Nat) (P : List Int) : (P ++ numB s l i) ++ nst s l i = P ++ numB s l (i + 1) := by
 unfold numB
 rw [List.range_succ, List.flatMap_append, List.append_assoc]
 have : [i].flatMap (nst s l) = nst s l i := List.append_nil _
 rw [this]
theorem flat_le {α : Type} {f : α → List Int} {c : Nat} : ∀ {l : List α}, (∀ x ∈ l, (f x).length ≤ c) → (l.flatMap f).length ≤ c * l.length
 | [], _ => Nat.zero_le _
 | x :: l, h => by
  rw [List.flatMap_cons, List.length_append, List.length_cons, Nat.mul_succ]
  have h1 := h x (List.mem_cons_self ..)
  have h2 := flat_le fun y hy => h y (List.mem_cons_of_mem x hy)
  omega
theorem amtL_le (a : Nat) : (amtL a).length ≤ 33 := by
 unfold amtL
 rw [List.length_cons, List.length_drop, BL32_len]
 omega
theorem prf_le {l : List (List Int)} (h : ∀ y ∈ l, y.length = 32) (hl : l.length ≤ 1000) : (prfB l).length ≤ 9 + 32 * l.length := by
 unfold prfB
 rw [List.length_append]
 have h1 := enc_len9 (m := l.length) (by omega)
 have h2 := flat_le (f := fun y : List Int => y) (c := 32) (l := l) fun y hy => Nat.le_of_eq (h y hy)
 omega
theorem shp_n (k : Int) : 0 ≤ (shpOf k).n ∧ (shpOf k).n ≤ 3 := by
 unfold shpOf
 split
 ·rename_i h
  have h2 : k = 1 ∨ k = 2 ∨ k = 3 ∨ k = 4 ∨ k = 5 ∨ k = 6 ∨ k = 7 ∨ k = 8 ∨ k = 9 ∨ k = 10 ∨ k = 11 ∨ k = 12 ∨ k = 13 ∨ k = 14 ∨ k = 15 ∨ k = 16 ∨ k = 17 ∨ k = 18 ∨ k = 19 ∨ k = 20 ∨ k = 21 ∨ k = 22 ∨ k = 23 ∨ k = 24 ∨ k = 25 ∨ k = 26 ∨ k = 27 ∨ k = 28 := by omega
  rcases h2 with rfl | rfl | rfl | rfl | rfl | rfl | rfl | rfl | rfl | rfl | rfl | rfl | rfl | rfl | rfl | rfl | rfl | rfl | rfl | rfl | rfl | rfl | rfl | rfl | rfl | rfl | rfl | rfl <;> exact ⟨by decide, by decide⟩
 ·exact ⟨by decide, by decide⟩
end Go.Proofs.Ytpdenhmkpiafiaa
namespace Go.Proofs.Ytpdenhmkpiafiaa
open Go Go.RowKit K6
def gPr (s : St) : List (List Int) × St := gMany gH (gV 10 s).1 (gV 10 s).2
def gLf : St → LfK × St := rSeq (gN 4294967295) fun _ => rSeq (gN 4294967295) fun _ => rSeq gA fun _ => gPr
def gLs (s : St) : List LfK × St := gMany gLf (gV 8 s).1 (gV 8 s).2
abbrev ClX := Int × Int × Int × Int × List Int × List (List Int) × List LfK
def gClX : St → ClX × St := rSeq (gN 4294967295) fun _ => rSeq (gN 4294967295) fun _ => rSeq (gN 4294967295) fun _ => rSeq (gN 4294967295) fun _ => rSeq gH fun _ => rSeq gPr fun _ => gLs
def clOf (x : ClX) : CmK := (x.1, x.2.1, x.2.2.1, x.2.2.2.2.1, x.2.2.2.1, x.2.2.2.2.2)
def gCl (s : St) : CmK × St := (clOf (gClX s).1, (gClX s).2)
def gTail (c : Bool) : St → Int × St := if c = true then gN 8 else fun s => (0, s)
abbrev NumX := List Int × Int × List Int
def gNums (s : Shp) : St → NumX × St := rSeq (gMany (gN 1099511627776) s.n.toNat) fun _ => rSeq (gTail s.t) fun tl => gMany (gN 1099511627776) tl.toNat
def gCo (c : Bool) : St → CmK × St := if c = true then gCl else fun s => (cm0.key, s)
abbrev TxX := Int × Int × NumX × List Nat × List (List Int) × CmK
def gTxX : St → TxX × St := rSeq (gN 28) fun k => rSeq (gN 4294967295) fun _ => rSeq (gNums (shpOf k)) fun nt => rSeq (gMany gA (if (shpOf k).e = true then nt.2.1 else (shpOf k).a).toNat) fun _ => rSeq (gMany gH (shpOf k).h.toNat) fun _ => gCo (shpOf k).c
def txF (x : TxX) : TxK := (x.1, x.2.1, x.2.2.1.1 ++ x.2.2.1.2.2, x.2.2.2)
def gTx (s : St) : TxK × St := (txF (gTxX s).1, (gTxX s).2)
end Go.Proofs.Ytpdenhmkpiafiaa
namespace Go.Proofs.Ytpdenhmkpiafiaa
open Go Go.RowKit K6
theorem app_step {ts te z : Nat} (T : AppT ts te z) {w : World} {B n : Nat} {v : Value} {zs : List Value} {cs : Array Value} (own : w.ownsRow B te z v n zs) (hs : cs.size = z) (h1 : cs.all (·.oneCell') = true) (hL : n ≤ 1000000) (hB : B ≤ w.heap.size) :
  ∃ v' w', (Builtin.append_ #[ts, ts] ts #[v, .slice (some ⟨w.heap.size, 0, none⟩) 1 1]).run Try.prog (w.alloc (.cells cs te)) = .ok v' w' ∧ w'.ownsRow B te z v' (n + 1) (zs ++ cs.toList) ∧ Tr (fun b => v.ownBlock = some b) w w' ∧ (v'.ownBlock = v.ownBlock ∨ v'.ownBlock = some (w.heap.size + 1)) := by
 have hA : Below w.heap.size w (w.alloc (.cells cs te)) := (Below.refl _ _).alloc (Nat.le_refl _) _
 have own' : (w.alloc (.cells cs te)).ownsRow B te z v n zs := own_tr own (X := None_) (Tr.of hA) (fun _ _ => id)
 obtain ⟨v', w', hrun, ho, hg, hw⟩ := append1 T own' (Row.new_at rfl) hs h1 hL (Nat.le_trans hB hA.size)
 refine ⟨v', w', hrun, ho, ?_, by simpa using hw⟩
 exact (Tr.of hA : Tr (fun b => v.ownBlock = some b) w _).trans ⟨hg.os, hg.tape, hg.output, hg.size, fun b hb hx => hg.block b hb (fun e => hx (by first | exact e | exact e.symm))⟩
structure ManyI {α : Type} (one : St → α × St) (Own : World → Nat → Value → List α → Prop) (w wr : World) (lo hi g B : Nat) (v : Value) (i gg : Nat) (LX : List α) (e3 : Int) (x3 : List Int) (es : Int) (ys : List Int) (K : List α) : Prop where
 own : Own wr B v K
 src : SA wr lo hi g es ys
 tr : Tr (fun b => b = g) w wr
 mi : MI one gg es ys K LX e3 x3
 len : K.length = i
 sz : B ≤ wr.heap.size
def ManP {α : Type} (Own : World → Nat → Value → List α → Prop) (w : World) (lo hi g : Nat) (LX : List α) (e3 : Int) (x3 : List Int) (r : Ending) (w' : World) : Prop := ∃ v, r = .returned v ∧ Own w' w.heap.size v LX ∧ SA w' lo hi g e3 x3 ∧ Tr (fun b => b = g) w w'
theorem tr_old {w w' : World} {g b : Nat} {v : Value} (hT : Tr (fun b => b = g) w w') (hb : b < w.heap.size) (hg : b ≠ g) (h : w.cell? ⟨b, 0, none⟩ = some v) : w'.cell? ⟨b, 0, none⟩ = some v := (World.cell?_of_block (hT.block b hb hg)).trans h
theorem gH_len (s : St) : (gH s).1.length = 32 := by
 unfold gH gT tkE tkO
 simp only
 by_cases h : s.1 = 0
 ·by_cases h1 : 32 ≤ s.2.length
  ·simp only [if_pos h, if_pos h1, if_true, List.length_take]; omega
  ·simp [h, h1]
 ·simp [h]
theorem gH_byO {s : St} (hb : By s.2) : By (gH s).1 := by
 unfold gH gT tkE tkO
 simp only
 by_cases h : s.1 = 0
 ·by_cases h1 : 32 ≤ s.2.length
  ·simp only [if_pos h, if_pos h1, if_true]; exact hb.take _
  ·simp only [if_pos h, if_neg h1]
   rw [if_neg (by decide)]
   exact fun x hx => by rw [(List.mem_replicate.1 hx).2]; omega
 ·simp only [if_neg h]
  exact fun x hx => by rw [(List.mem_replicate.1 hx).2]; omega
theorem gHs_ok (n : Nat) : ∀ {s : St}, By s.2 → HsOk (gMany gH n s).1 := by
 induction n with
 | zero => intro s _ y hy; cases hy
 | succ n ih =>
  intro s h
  by_cases h0 : s.1 = 0
  ·rw [gMany_go _ _ h0]
   intro y hy
   rcases List.mem_cons.1 hy with rfl | hy
   ·exact ⟨gH_len s, gH_byO h⟩
   ·exact ih (gH_by h) y hy
  ·rw [gMany_stop _ _ h0]; intro y hy; cases hy
theorem list32 {l : List Int} (h : l.length = 32) : ∃ z0 z1 z2 z3 z4 z5 z6 z7 z8 z9 z10 z11 z12 z13 z14 z15 z16 z17 z18 z19 z20 z21 z22 z23 z24 z25 z26 z27 z28 z29 z30 z31 : Int, l = [z0, z1, z2, z3, z4, z5, z6, z7, z8, z9, z10, z11, z12, z13, z14, z15, z16, z17, z18, z19, z20, z21, z22, z23, z24, z25, z26, z27, z28, z29, z30, z31] := by
 match l, h with
 | [z0, z1, z2, z3, z4, z5, z6, z7, z8, z9, z10, z11, z12, z13, z14, z15, z16, z17, z18, z19, z20, z21, z22, z23, z24, z25, z26, z27, z28, z29, z30, z31], _ => exact ⟨z0, z1, z2, z3, z4, z5, z6, z7, z8, z9, z10, z11, z12, z13, z14, z15, z16, z17, z18, z19, z20, z21, z22, z23, z24, z25, z26, z27, z28, z29, z30, z31, rfl⟩
theorem clos247_at {w : World} {lo hi g bx k : Nat} {e e1 : Int} {xs x1 : List Int} (h : SA w lo hi g e xs) (hc : w.cell? ⟨bx, 0, none⟩ = some (.pointer (some ⟨g, 0, none⟩))) (hg : gV 1099511627776 (e, xs) = (k, e1, x1)) :
  Calls Try.prog 247 #[.pointer (some ⟨bx, 0, none⟩)] w (GotV w lo hi g (.int .i64 (k : Int)) e1 x1) := by
 have kv := Lib.hid (svar_V h hg)
 clear h hg
 go_enter Try.func247, Try.ntmps247
 go_wp2_with fail
 refine kv.out.mono ?_
 rintro r w1 ⟨rfl, hs, ht⟩
 have H1 := Lib.hid (show _ ∧ _ from ⟨hs, ht⟩)
 clear kv hs ht hc
 go_wp2_with fail
 go_ret
 exact ⟨rfl, H1.out.1, H1.out.2⟩
set_option maxRecDepth 100000 in
set_option maxHeartbeats 64000000 in
theorem manyI_at {w : World} {lo hi g : Nat} {e : Int} {xs : List Int} (h : SA w lo hi g e xs) (hhi : hi ≤ w.heap.size) (n : Nat) (hn : n ≤ 1000) {bx : Nat} (hbx : bx < w.heap.size) (hbg : bx ≠ g) (hc : w.cell? ⟨bx, 0, none⟩ = some (.pointer (some ⟨g, 0, none⟩))) {LX : List Int} {e3 : Int} {x3 : List Int} (hg : gMany (gN 1099511627776) n (e, xs) = (LX, e3, x3)) :
  Calls Try.prog 246 #[.pointer (some ⟨g, 0, none⟩), .int .i64 (n : Int), .func (.func 247) #[] #[.pointer (some ⟨bx, 0, none⟩)]] w (ManP Oi w lo hi g LX e3 x3) := by
 have hgh : g < hi := h.2.1
 obtain ⟨B, hB⟩ : ∃ B, w.heap.size = B := ⟨_, rfl⟩
 have H0 : ManyI (gN 1099511627776) Oi w w lo hi g B (.slice none 0 0) 0 n LX e3 x3 e xs [] := ⟨Oi.nil _ _, h, Tr.refl _ _, MI.start hg, rfl, by omega⟩
 replace H0 := Lib.hid H0
 clear h hg
 go_enter Try.func246, Try.ntmps246
 go_wp2_with fail
 go_loopg [7, 9] n (fun gg s7 s9 wr => ∃ (i : Nat) (es : Int) (ys : List Int) (K : List Int), i + gg = n ∧ s9 = .int .i64 (i : Int) ∧ Hid (ManyI (gN 1099511627776) Oi w wr lo hi g B s7 i gg LX e3 x3 es ys K))
 case atStart => exact ⟨0, e, xs, [], by omega, rfl, H0⟩
 case round =>
  clear H0
  obtain ⟨i, es, ys, K, him, rfl, hinv⟩ := hrel
  obtain ⟨q0, c0, hv0⟩ := own_sl (show wr.ownsRow B 3 1 u7 _ _ from hinv.out.own)
  rw [hinv.out.len] at hv0
  subst hv0
  by_cases hi' : i < n
  ·obtain ⟨gn, rfl⟩ : ∃ gn, gk = gn + 1 := ⟨gk - 1, by omega⟩
   have hlt : (i : Int) < (n : Int) := by omega
   have er := Lib.hid (err_at hinv.out.src)
   by_cases hes : es = 0
   ·subst hes
    obtain ⟨own, src, tr, mi, hlen, hsz⟩ := hinv.out
    clear hinv
    obtain ⟨a, e4, y4, hg4⟩ := tri (gV 1099511627776 (0, ys))
    have hgo : gN 1099511627776 (0, ys) = ((a : Int), e4, y4) := by unfold gN; rw [hg4]
    have ka := Lib.hid (clos247_at src (tr_old tr hbx hbg hc) hg4)
    have mi' := Lib.hid (mi.step hgo)
    have HO := Lib.hid (show _ ∧ _ ∧ _ ∧ _ from ⟨own, tr, hlen, hsz⟩)
    clear own src tr mi hlen hsz hg4 hgo
    go_wp2_with fail
    refine er.out.mono ?_
    rintro r w8 ⟨rfl, rfl⟩
    clear er
    go_wp2_with fail
    refine ka.out.mono ?_
    rintro r w9 ⟨rfl, hs9, ht9⟩
    obtain ⟨own, tr, hlen, hsz⟩ := HO.out
    clear HO ka
    have own' := own_tr (show w8.ownsRow B 3 1 _ _ _ from own) ht9 (fun b hb hc => by have h1 := (own_lt (show w8.ownsRow B 3 1 _ _ _ from own) b hb).1; have hc' : b = g := hc; omega)
    rw [hlen] at own'
    have hsz9 := Nat.le_trans hsz ht9.size
    obtain ⟨v', w', hrun, ho, hT, -⟩ := app_step appT22 (cs := #[.int .i64 (a : Int)]) own' rfl (by kernel_rfl) (by omega) hsz9
    have hlt9 := fun b hb => (own_lt own' b hb).1
    have H := Lib.hid (show ManyI (gN 1099511627776) Oi w w' lo hi g B v' (i + 1) gn LX e3 x3 e4 y4 (K ++ [(a : Int)]) from ⟨by unfold Oi; rw [List.length_append, flat_snoc, hlen]; exact ho, hs9.keep hT (fun b h1 h2 hx => by have := hlt9 b hx; omega), (tr.trans ht9).trans_new hT (fun b hc hlt => by have := hlt9 b hc; omega), mi'.out, by rw [List.length_append, hlen]; rfl, Nat.le_trans hsz9 hT.size⟩)
    clear own own' ho hT hs9 ht9 tr mi' hlt9 hlen hsz hsz9
    go_wp2_with (at_builtin; refine wpList_app rfl rfl rfl rfl hrun ?_)
    go_roundg gn
    case measure => omega
    case rel => exact ⟨i + 1, e4, y4, K ++ [(a : Int)], by omega, by go_num, H⟩
   ·have hq : (es != 0) = true := by rw [bne_iff_ne]; exact hes
    obtain ⟨rfl, rfl, rfl⟩ := hinv.out.mi.stop (.inl hes)
    go_wp2_with fail
    refine er.out.mono ?_
    rintro r w8 ⟨rfl, rfl⟩
    clear er
    go_wp2_with fail
    go_ret
    exact ⟨_, rfl, by first | exact hinv.out.own | (rw [hB]; exact hinv.out.own), hinv.out.src, hinv.out.tr⟩
  ·obtain rfl : gk = 0 := by omega
   obtain rfl : i = n := by omega
   have hlt : ¬ (i : Int) < (i : Int) := by omega
   obtain ⟨rfl, rfl, rfl⟩ := hinv.out.mi.stop (.inr rfl)
   go_wp2_with fail
   go_ret
   exact ⟨_, rfl, by first | exact hinv.out.own | (rw [hB]; exact hinv.out.own), hinv.out.src, hinv.out.tr⟩
set_option maxRecDepth 100000 in
set_option maxHeartbeats 64000000 in
theorem manyU_at {w : World} {lo hi g : Nat} {e : Int} {xs : List Int} (h : SA w lo hi g e xs) (hhi : hi ≤ w.heap.size) (n : Nat) (hn : n ≤ 1000) {LX : List Nat} {e3 : Int} {x3 : List Int} (hg : gMany gA n (e, xs) = (LX, e3, x3)) :
  Calls Try.prog 225 #[.pointer (some ⟨g, 0, none⟩), .int .i64 (n : Int), .func (.func 62) #[.pointer (some ⟨g, 0, none⟩)] #[]] w (ManP Oe w lo hi g LX e3 x3) := by
 have hgh : g < hi := h.2.1
 obtain ⟨B, hB⟩ : ∃ B, w.heap.size = B := ⟨_, rfl⟩
 have H0 : ManyI gA Oe w w lo hi g B (.slice none 0 0) 0 n LX e3 x3 e xs [] := ⟨Oe.nil _ _, h, Tr.refl _ _, MI.start hg, rfl, by omega⟩
 replace H0 := Lib.hid H0
 clear h hg
 go_enter Try.func225, Try.ntmps225
 go_wp2_with fail
 go_loopg [7, 9] n (fun gg s7 s9 wr => ∃ (i : Nat) (es : Int) (ys : List Int) (K : List Nat), i + gg = n ∧ s9 = .int .i64 (i : Int) ∧ Hid (ManyI gA Oe w wr lo hi g B s7 i gg LX e3 x3 es ys K))
 case atStart => exact ⟨0, e, xs, [], by omega, rfl, H0⟩
 case round =>
  clear H0
  obtain ⟨i, es, ys, K, him, rfl, hinv⟩ := hrel
  obtain ⟨q0, c0, hv0⟩ := own_sl (show wr.ownsRow B 31 4 u7 _ _ from hinv.out.own)
  rw [hinv.out.len] at hv0
  subst hv0
  by_cases hi' : i < n
  ·obtain ⟨gn, rfl⟩ : ∃ gn, gk = gn + 1 := ⟨gk - 1, by omega⟩
   have hlt : (i : Int) < (n : Int) := by omega
   have er := Lib.hid (err_at hinv.out.src)
   by_cases hes : es = 0
   ·subst hes
    obtain ⟨own, src, tr, mi, hlen, hsz⟩ := hinv.out
    clear hinv
    obtain ⟨a, e4, y4, hg4⟩ := tri (gA (0, ys))
    have hgo := hg4
    have ka0 := samt_V src (by omega) hg4
    obtain ⟨y0, y1, y2, y3, hW⟩ : ∃ y0 y1 y2 y3 : Int, W4 a = #[.int .u64 y0, .int .u64 y1, .int .u64 y2, .int .u64 y3] := ⟨_, _, _, _, rfl⟩
    rw [hW] at ka0
    have ka := Lib.hid ka0
    replace hW := Lib.hid hW
    clear ka0
    have mi' := Lib.hid (mi.step hgo)
    have HO := Lib.hid (show _ ∧ _ ∧ _ ∧ _ from ⟨own, tr, hlen, hsz⟩)
    clear own src tr mi hlen hsz hg4 hgo
    go_wp2_with fail
    refine er.out.mono ?_
    rintro r w8 ⟨rfl, rfl⟩
    clear er
    go_wp2_with fail
    refine ka.out.mono ?_
    rintro r w9 ⟨rfl, hs9, ht9⟩
    obtain ⟨own, tr, hlen, hsz⟩ := HO.out
    clear HO ka
    have own' := own_tr (show w8.ownsRow B 31 4 _ _ _ from own) ht9 (fun b hb hc => by have h1 := (own_lt (show w8.ownsRow B 31 4 _ _ _ from own) b hb).1; have hc' : b = g := hc; omega)
    rw [hlen] at own'
    have hsz9 := Nat.le_trans hsz ht9.size
    obtain ⟨v', w', hrun, ho, hT, -⟩ := app_step appT23 (cs := #[.int .u64 y0, .int .u64 y1, .int .u64 y2, .int .u64 y3]) own' rfl (by kernel_rfl) (by omega) hsz9
    have hlt9 := fun b hb => (own_lt own' b hb).1
    have H := Lib.hid (show ManyI gA Oe w w' lo hi g B v' (i + 1) gn LX e3 x3 e4 y4 (K ++ [a]) from ⟨by unfold Oe; rw [List.length_append, uw_snoc, hW.out, hlen]; exact ho, hs9.keep hT (fun b h1 h2 hx => by have := hlt9 b hx; omega), (tr.trans ht9).trans_new hT (fun b hc hlt => by have := hlt9 b hc; omega), mi'.out, by rw [List.length_append, hlen]; rfl, Nat.le_trans hsz9 hT.size⟩)
    clear own own' ho hT hs9 ht9 tr mi' hlt9 hlen hsz hsz9
    go_wp2_with (at_builtin; refine wpList_app rfl rfl rfl rfl hrun ?_)
    go_roundg gn
    case measure => omega
    case rel => exact ⟨i + 1, e4, y4, K ++ [a], by omega, by go_num, H⟩
   ·have hq : (es != 0) = true := by rw [bne_iff_ne]; exact hes
    obtain ⟨rfl, rfl, rfl⟩ := hinv.out.mi.stop (.inl hes)
    go_wp2_with fail
    refine er.out.mono ?_
    rintro r w8 ⟨rfl, rfl⟩
    clear er
    go_wp2_with fail
    go_ret
    exact ⟨_, rfl, by first | exact hinv.out.own | (rw [hB]; exact hinv.out.own), hinv.out.src, hinv.out.tr⟩
  ·obtain rfl : gk = 0 := by omega
   obtain rfl : i = n := by omega
   have hlt : ¬ (i : Int) < (i : Int) := by omega
   obtain ⟨rfl, rfl, rfl⟩ := hinv.out.mi.stop (.inr rfl)
   go_wp2_with fail
   go_ret
   exact ⟨_, rfl, by first | exact hinv.out.own | (rw [hB]; exact hinv.out.own), hinv.out.src, hinv.out.tr⟩
set_option maxRecDepth 100000 in
set_option maxHeartbeats 64000000 in
theorem manyH_at {w : World} {lo hi g : Nat} {e : Int} {xs : List Int} (h : SA w lo hi g e xs) (hhi : hi ≤ w.heap.size) (n : Nat) (hn : n ≤ 1000) {LX : List (List Int)} {e3 : Int} {x3 : List Int} (hg : gMany gH n (e, xs) = (LX, e3, x3)) :
  Calls Try.prog 226 #[.pointer (some ⟨g, 0, none⟩), .int .i64 (n : Int), .func (.func 68) #[.pointer (some ⟨g, 0, none⟩)] #[]] w (ManP Oh w lo hi g LX e3 x3) := by
 have hgh : g < hi := h.2.1
 obtain ⟨B, hB⟩ : ∃ B, w.heap.size = B := ⟨_, rfl⟩
 have H0 : ManyI gH Oh w w lo hi g B (.slice none 0 0) 0 n LX e3 x3 e xs [] := ⟨Oh.nil _ _, h, Tr.refl _ _, MI.start hg, rfl, by omega⟩
 replace H0 := Lib.hid H0
 clear h hg
 go_enter Try.func226, Try.ntmps226
 go_wp2_with fail
 go_loopg [7, 9] n (fun gg s7 s9 wr => ∃ (i : Nat) (es : Int) (ys : List Int) (K : List (List Int)), i + gg = n ∧ s9 = .int .i64 (i : Int) ∧ Hid (ManyI gH Oh w wr lo hi g B s7 i gg LX e3 x3 es ys K))
 case atStart => exact ⟨0, e, xs, [], by omega, rfl, H0⟩
 case round =>
  clear H0
  obtain ⟨i, es, ys, K, him, rfl, hinv⟩ := hrel
  obtain ⟨q0, c0, hv0⟩ := own_sl (show wr.ownsRow B 35 32 u7 _ _ from hinv.out.own)
  rw [hinv.out.len] at hv0
  subst hv0
  by_cases hi' : i < n
  ·obtain ⟨gn, rfl⟩ : ∃ gn, gk = gn + 1 := ⟨gk - 1, by omega⟩
   have hlt : (i : Int) < (n : Int) := by omega
   have er := Lib.hid (err_at hinv.out.src)
   by_cases hes : es = 0
   ·subst hes
    obtain ⟨own, src, tr, mi, hlen, hsz⟩ := hinv.out
    clear hinv
    obtain ⟨a, e4, y4, hg4⟩ := tri (gH (0, ys))
    have hgo := hg4
    have ka0 := shash_at src (by omega)
    have ha32 : a.length = 32 := by have h := gH_len (0, ys); rw [hg4] at h; exact h
    rw [hg4] at ka0
    simp only at ka0
    obtain ⟨z0, z1, z2, z3, z4, z5, z6, z7, z8, z9, z10, z11, z12, z13, z14, z15, z16, z17, z18, z19, z20, z21, z22, z23, z24, z25, z26, z27, z28, z29, z30, z31, rfl⟩ := list32 ha32
    have ka := Lib.hid (show Calls Try.prog 68 #[.pointer (some ⟨g, 0, none⟩)] wr (GotV wr lo hi g (.agg #[.int .u8 z0, .int .u8 z1, .int .u8 z2, .int .u8 z3, .int .u8 z4, .int .u8 z5, .int .u8 z6, .int .u8 z7, .int .u8 z8, .int .u8 z9, .int .u8 z10, .int .u8 z11, .int .u8 z12, .int .u8 z13, .int .u8 z14, .int .u8 z15, .int .u8 z16, .int .u8 z17, .int .u8 z18, .int .u8 z19, .int .u8 z20, .int .u8 z21, .int .u8 z22, .int .u8 z23, .int .u8 z24, .int .u8 z25, .int .u8 z26, .int .u8 z27, .int .u8 z28, .int .u8 z29, .int .u8 z30, .int .u8 z31]) e4 y4) from ka0)
    clear ka0 ha32
    have mi' := Lib.hid (mi.step hgo)
    have HO := Lib.hid (show _ ∧ _ ∧ _ ∧ _ from ⟨own, tr, hlen, hsz⟩)
    clear own src tr mi hlen hsz hg4 hgo
    go_wp2_with fail
    refine er.out.mono ?_
    rintro r w8 ⟨rfl, rfl⟩
    clear er
    go_wp2_with fail
    refine ka.out.mono ?_
    rintro r w9 ⟨rfl, hs9, ht9⟩
    obtain ⟨own, tr, hlen, hsz⟩ := HO.out
    clear HO ka
    have own' := own_tr (show w8.ownsRow B 35 32 _ _ _ from own) ht9 (fun b hb hc => by have h1 := (own_lt (show w8.ownsRow B 35 32 _ _ _ from own) b hb).1; have hc' : b = g := hc; omega)
    rw [hlen] at own'
    have hsz9 := Nat.le_trans hsz ht9.size
    obtain ⟨v', w', hrun, ho, hT, -⟩ := app_step appT111 (cs := #[.int .u8 z0, .int .u8 z1, .int .u8 z2, .int .u8 z3, .int .u8 z4, .int .u8 z5, .int .u8 z6, .int .u8 z7, .int .u8 z8, .int .u8 z9, .int .u8 z10, .int .u8 z11, .int .u8 z12, .int .u8 z13, .int .u8 z14, .int .u8 z15, .int .u8 z16, .int .u8 z17, .int .u8 z18, .int .u8 z19, .int .u8 z20, .int .u8 z21, .int .u8 z22, .int .u8 z23, .int .u8 z24, .int .u8 z25, .int .u8 z26, .int .u8 z27, .int .u8 z28, .int .u8 z29, .int .u8 z30, .int .u8 z31]) own' rfl (by kernel_rfl) (by omega) hsz9
    have hlt9 := fun b hb => (own_lt own' b hb).1
    have H := Lib.hid (show ManyI gH Oh w w' lo hi g B v' (i + 1) gn LX e3 x3 e4 y4 (K ++ [[z0, z1, z2, z3, z4, z5, z6, z7, z8, z9, z10, z11, z12, z13, z14, z15, z16, z17, z18, z19, z20, z21, z22, z23, z24, z25, z26, z27, z28, z29, z30, z31]]) from ⟨by unfold Oh; rw [List.length_append, flat_snoc, hlen]; exact ho, hs9.keep hT (fun b h1 h2 hx => by have := hlt9 b hx; omega), (tr.trans ht9).trans_new hT (fun b hc hlt => by have := hlt9 b hc; omega), mi'.out, by rw [List.length_append, hlen]; rfl, Nat.le_trans hsz9 hT.size⟩)
    clear own own' ho hT hs9 ht9 tr mi' hlt9 hlen hsz hsz9
    go_wp2_with (at_builtin; refine wpList_app rfl rfl rfl rfl hrun ?_)
    go_roundg gn
    case measure => omega
    case rel => exact ⟨i + 1, e4, y4, K ++ [[z0, z1, z2, z3, z4, z5, z6, z7, z8, z9, z10, z11, z12, z13, z14, z15, z16, z17, z18, z19, z20, z21, z22, z23, z24, z25, z26, z27, z28, z29, z30, z31]], by omega, by go_num, H⟩
   ·have hq : (es != 0) = true := by rw [bne_iff_ne]; exact hes
    obtain ⟨rfl, rfl, rfl⟩ := hinv.out.mi.stop (.inl hes)
    go_wp2_with fail
    refine er.out.mono ?_
    rintro r w8 ⟨rfl, rfl⟩
    clear er
    go_wp2_with fail
    go_ret
    exact ⟨_, rfl, by first | exact hinv.out.own | (rw [hB]; exact hinv.out.own), hinv.out.src, hinv.out.tr⟩
  ·obtain rfl : gk = 0 := by omega
   obtain rfl : i = n := by omega
   have hlt : ¬ (i : Int) < (i : Int) := by omega
   obtain ⟨rfl, rfl, rfl⟩ := hinv.out.mi.stop (.inr rfl)
   go_wp2_with fail
   go_ret
   exact ⟨_, rfl, by first | exact hinv.out.own | (rw [hB]; exact hinv.out.own), hinv.out.src, hinv.out.tr⟩
end Go.Proofs.Ytpdenhmkpiafiaa
namespace Go.Proofs.Ytpdenhmkpiafiaa
open Go Go.RowKit K6
theorem tr_cells4 {X : Nat → Prop} {w : World} {b i j k l : Nat} {u0 u1 u2 u3 : Value} (h : X b) : Tr X w ((((w.setCell ⟨b, i, none⟩ u0).setCell ⟨b, j, none⟩ u1).setCell ⟨b, k, none⟩ u2).setCell ⟨b, l, none⟩ u3) :=
 (tr_cell (p := ⟨b, i, none⟩) h).trans ((tr_cell (p := ⟨b, j, none⟩) h).trans ((tr_cell (p := ⟨b, k, none⟩) h).trans (tr_cell (p := ⟨b, l, none⟩) h)))
structure GI (w wx : World) (lo hi g : Nat) (es : Int) (ys : List Int) (ty : TypeId) (Z C : Array Value) : Prop where
 src : SA wx lo hi g es ys
 tr : Tr (fun b => b = g) w wx
 r0 : Row wx w.heap.size ty Z
 r1 : Row wx (w.heap.size + 1) ty C
 gh : g < w.heap.size
theorem GI.call {w wx wy : World} {lo hi g : Nat} {es e1 : Int} {ys x1 : List Int} {ty : TypeId} {Z C : Array Value} (h : GI w wx lo hi g es ys ty Z C) (hs : SA wy lo hi g e1 x1) (ht : Tr (fun b => b = g) wx wy) : GI w wy lo hi g e1 x1 ty Z C :=
 ⟨hs, h.tr.trans ht, K6.Row.tr h.r0 ht (by have := h.gh; omega), K6.Row.tr h.r1 ht (by have := h.gh; omega), h.gh⟩
theorem GI.put {w wx wy : World} {lo hi g : Nat} {es : Int} {ys : List Int} {ty : TypeId} {Z C C' : Array Value} (h : GI w wx lo hi g es ys ty Z C) (hhi : hi ≤ w.heap.size) (ht : Tr (fun b => b = w.heap.size + 1) wx wy) (hr : Row wy (w.heap.size + 1) ty C') : GI w wy lo hi g es ys ty Z C' :=
 ⟨h.src.keep ht fun b _ h2 hx => by have hx' : b = w.heap.size + 1 := hx; omega, h.tr.trans_new ht fun b hb hlt => by have hb' : b = w.heap.size + 1 := hb; omega, K6.Row.tr h.r0 ht (by omega), hr, h.gh⟩
set_option maxRecDepth 100000 in
set_option maxHeartbeats 16000000 in
theorem numbers_at {w : World} {lo hi g : Nat} {e : Int} {xs : List Int} (h : SA w lo hi g e xs) (hhi : hi ≤ w.heap.size) (n : Nat) (hn : n ≤ 1000) {LX : List Int} {e3 : Int} {x3 : List Int} (hg : gMany (gN 1099511627776) n (e, xs) = (LX, e3, x3)) :
  Calls Try.prog 224 #[.pointer (some ⟨g, 0, none⟩), .int .i64 (n : Int)] w (ManP Oi w lo hi g LX e3 x3) := by
 have hA : Below w.heap.size w (w.alloc (.cells #[.pointer (some ⟨g, 0, none⟩)] 50)) := (Below.refl _ _).alloc (Nat.le_refl _) _
 have r0 : Row (w.alloc (.cells #[.pointer (some ⟨g, 0, none⟩)] 50)) w.heap.size 50 #[.pointer (some ⟨g, 0, none⟩)] := Row.new_at rfl
 have hgh : g < w.heap.size := Nat.lt_of_lt_of_le h.2.1 hhi
 have k1 := manyI_at (h.below hA) (Nat.le_trans hhi hA.size) n hn r0.lt (by omega) (r0.cell 0) hg
 have c0 := r0.cell 0
 have H0 := Lib.hid hA
 replace k1 := Lib.hid k1
 clear h hhi hg hA r0
 go_enter Try.func224, Try.ntmps224
 go_wp2_with fail
 refine k1.out.mono ?_
 rintro r w1 ⟨v, rfl, ho, hs, ht⟩
 have H1 := Lib.hid (show _ ∧ _ ∧ _ from ⟨own_base ho H0.out.size, hs, (Tr.of H0.out : Tr (fun b => b = g) w _).trans ht⟩)
 clear k1 ho hs ht H0 c0
 go_wp2_with fail
 go_ret
 exact ⟨_, rfl, H1.out.1, H1.out.2.1, H1.out.2.2⟩
set_option maxRecDepth 100000 in
set_option maxHeartbeats 16000000 in
theorem getProof_at {w : World} {lo hi g : Nat} {e : Int} {xs : List Int} (h : SA w lo hi g e xs) (hhi : hi ≤ w.heap.size) {LX : List (List Int)} {e3 : Int} {x3 : List Int} (hg : gPr (e, xs) = (LX, e3, x3)) :
  Calls Try.prog 248 #[.pointer (some ⟨g, 0, none⟩)] w (ManP Oh w lo hi g LX e3 x3) := by
 obtain ⟨n, e1, x1, hg1⟩ := tri (gV 10 (e, xs))
 unfold gPr at hg
 rw [hg1] at hg
 simp only at hg
 have hn : n ≤ 1000 := by
  have h1 := gV_most (most := 10) (s := (e, xs)) (by decide)
  rw [hg1] at h1
  simp only at h1
  omega
 have k0 := Lib.hid (svar_V h hg1)
 have hg := Lib.hid hg
 clear h hg1
 go_enter Try.func248, Try.ntmps248
 go_wp2_with fail
 refine k0.out.mono ?_
 rintro r w1 ⟨rfl, hs, ht⟩
 have k1 := Lib.hid (manyH_at hs (Nat.le_trans hhi ht.size) n hn hg.out)
 have H0 := Lib.hid ht
 clear k0 hs ht
 go_wp2_with fail
 refine k1.out.mono ?_
 rintro r w2 ⟨v, rfl, ho, hs, ht⟩
 have H1 := Lib.hid (show _ ∧ _ ∧ _ from ⟨own_base ho H0.out.size, hs, H0.out.trans ht⟩)
 clear k1 ho hs ht H0
 go_wp2_with fail
 go_ret
 exact ⟨_, rfl, H1.out.1, H1.out.2.1, H1.out.2.2⟩
def LfP (w : World) (lo hi g : Nat) (X : LfK) (e3 : Int) (x3 : List Int) (r : Ending) (w' : World) : Prop := ∃ x : Lf, x.key = X ∧ r = .returned (.agg (lfc x).toArray) ∧ Oh w' w.heap.size x.pv x.p ∧ SA w' lo hi g e3 x3 ∧ Tr (fun b => b = g) w w'
set_option maxRecDepth 100000 in
set_option maxHeartbeats 64000000 in
theorem getLeaf_at {w : World} {lo hi g : Nat} {e : Int} {xs : List Int} (h : SA w lo hi g e xs) (hhi : hi ≤ w.heap.size) {X : LfK} {e4 : Int} {x4 : List Int} (hg : gLf (e, xs) = (X, e4, x4)) :
  Calls Try.prog 251 #[.pointer (some ⟨g, 0, none⟩)] w (LfP w lo hi g X e4 x4) := by
 obtain ⟨n1, e1, x1, hg1⟩ := tri (gV 4294967295 (e, xs))
 obtain ⟨n2, e2, x2, hg2⟩ := tri (gV 4294967295 (e1, x1))
 obtain ⟨a, e3, x3, hg3⟩ := tri (gA (e2, x2))
 obtain ⟨P, e5, x5, hg4⟩ := tri (gPr (e3, x3))
 unfold gLf rSeq gN at hg
 simp only [hg1, hg2, hg3, hg4, Prod.mk.injEq] at hg
 obtain ⟨rfl, rfl, rfl⟩ := hg
 have hgh : g < w.heap.size := Nat.lt_of_lt_of_le h.2.1 hhi
 have hA : Below w.heap.size w ((w.alloc (.cells #[.int .i64 0, .int .i64 0, .int .u64 0, .int .u64 0, .int .u64 0, .int .u64 0, .slice none 0 0] 198)).alloc (.cells #[.int .i64 0, .int .i64 0, .int .u64 0, .int .u64 0, .int .u64 0, .int .u64 0, .slice none 0 0] 198)) := ((Below.refl _ _).alloc (Nat.le_refl _) _).alloc (by simp) _
 have G0 : GI w ((w.alloc (.cells #[.int .i64 0, .int .i64 0, .int .u64 0, .int .u64 0, .int .u64 0, .int .u64 0, .slice none 0 0] 198)).alloc (.cells #[.int .i64 0, .int .i64 0, .int .u64 0, .int .u64 0, .int .u64 0, .int .u64 0, .slice none 0 0] 198)) lo hi g e xs 198 (#[.int .i64 0, .int .i64 0, .int .u64 0, .int .u64 0, .int .u64 0, .int .u64 0, .slice none 0 0]) (#[.int .i64 0, .int .i64 0, .int .u64 0, .int .u64 0, .int .u64 0, .int .u64 0, .slice none 0 0]) := ⟨h.below hA, Tr.of hA, Row.alloc (Row.new_at rfl) _, Row.new_at (by simp), hgh⟩
 have k1 := Lib.hid (svar_V G0.src hg1)
 obtain ⟨y0, y1, y2, y3, hW⟩ : ∃ y0 y1 y2 y3 : Int, W4 a = #[.int .u64 y0, .int .u64 y1, .int .u64 y2, .int .u64 y3] := ⟨_, _, _, _, rfl⟩
 replace G0 := Lib.hid G0
 have HG := Lib.hid (show _ ∧ _ ∧ _ from ⟨hg2, hg3, hg4⟩)
 clear h hA hg1 hg2 hg3 hg4
 go_enter Try.func251, Try.ntmps251
 go_wp2_with fail
 refine k1.out.mono ?_
 rintro r w1 ⟨rfl, hs, ht⟩
 have G1 := G0.out.call hs ht
 have c0 := G1.r1.cell 0
 have f0 := G1.r1.frozen 0
 have HG1 := Lib.hid G1
 clear k1 G0 hs ht G1
 go_upto_region 3 with (fail)
 refine wp_abs (fun wx => GI w wx lo hi g e1 x1 198 (#[.int .i64 0, .int .i64 0, .int .u64 0, .int .u64 0, .int .u64 0, .int .u64 0, .slice none 0 0]) (#[.int .i64 (n1 : Int), .int .i64 0, .int .u64 0, .int .u64 0, .int .u64 0, .int .u64 0, .slice none 0 0])) (HG1.out.put hhi (tr_cell rfl) (Row.congr (Row.set HG1.out.r1 0 _) rfl)) ?_
 intro w2 G2
 have k2 := Lib.hid (svar_V G2.src HG.out.1)
 replace G2 := Lib.hid G2
 clear HG1 c0 f0
 go_wp2_with fail
 refine k2.out.mono ?_
 rintro r w3 ⟨rfl, hs, ht⟩
 have G3 := G2.out.call hs ht
 have c0 := G3.r1.cell 1
 have f0 := G3.r1.frozen 1
 have HG3 := Lib.hid G3
 clear k2 G2 hs ht G3
 go_upto_region 4 with (fail)
 refine wp_abs (fun wx => GI w wx lo hi g e2 x2 198 (#[.int .i64 0, .int .i64 0, .int .u64 0, .int .u64 0, .int .u64 0, .int .u64 0, .slice none 0 0]) (#[.int .i64 (n1 : Int), .int .i64 (n2 : Int), .int .u64 0, .int .u64 0, .int .u64 0, .int .u64 0, .slice none 0 0])) (HG3.out.put hhi (tr_cell rfl) (Row.congr (Row.set HG3.out.r1 1 _) rfl)) ?_
 intro w4 G4
 have k3 := samt_V G4.src (Nat.le_trans hhi G4.tr.size) HG.out.2.1
 rw [hW] at k3
 replace k3 := Lib.hid k3
 replace G4 := Lib.hid G4
 clear HG3 c0 f0
 go_wp2_with fail
 refine k3.out.mono ?_
 rintro r w5 ⟨rfl, hs, ht⟩
 have G5 := G4.out.call hs ht
 have c2 := G5.r1.cell 2
 have c3 := G5.r1.cell 3
 have c4 := G5.r1.cell 4
 have c5 := G5.r1.cell 5
 have f2 := G5.r1.frozen 2
 have f3 := G5.r1.frozen 3
 have f4 := G5.r1.frozen 4
 have f5 := G5.r1.frozen 5
 have HG5 := Lib.hid G5
 clear k3 G4 hs ht G5
 go_upto_region 5 with (fail)
 refine wp_abs (fun wx => GI w wx lo hi g e3 x3 198 (#[.int .i64 0, .int .i64 0, .int .u64 0, .int .u64 0, .int .u64 0, .int .u64 0, .slice none 0 0]) (#[.int .i64 (n1 : Int), .int .i64 (n2 : Int), .int .u64 y0, .int .u64 y1, .int .u64 y2, .int .u64 y3, .slice none 0 0])) (HG5.out.put hhi (tr_cells4 (X := fun b => b = w.heap.size + 1) rfl) (Row.congr ((((Row.set HG5.out.r1 2 _).set 3 _).set 4 _).set 5 _) rfl)) ?_
 intro w6 G6
 have k4 := Lib.hid (getProof_at G6.src (Nat.le_trans hhi G6.tr.size) HG.out.2.2)
 replace G6 := Lib.hid G6
 clear HG5 c2 c3 c4 c5 f2 f3 f4 f5
 go_wp2_with fail
 refine k4.out.mono ?_
 rintro r w7 ⟨v, rfl, ho, hs, ht⟩
 obtain ⟨q, c, hv⟩ := own_sl ho
 obtain ⟨np, hnp⟩ : ∃ n, P.length = n := ⟨_, rfl⟩
 rw [hnp] at hv
 subst hv
 have G7 := G6.out.call hs ht
 have c6 := G7.r1.cell 6
 have f6 := G7.r1.frozen 6
 have HO := Lib.hid (show Oh w7 (w.heap.size + 2) _ _ ∧ _ from ⟨own_base ho (by have := G6.out.r1.lt; omega), hnp⟩)
 have HG7 := Lib.hid G7
 clear k4 G6 hs ht G7 ho hnp
 go_upto_region 6 with (fail)
 refine wp_abs (fun wx => GI w wx lo hi g e5 x5 198 (#[.int .i64 0, .int .i64 0, .int .u64 0, .int .u64 0, .int .u64 0, .int .u64 0, .slice none 0 0]) (#[.int .i64 (n1 : Int), .int .i64 (n2 : Int), .int .u64 y0, .int .u64 y1, .int .u64 y2, .int .u64 y3, .slice q np c]) ∧ Tr (fun b => b = w.heap.size + 1) w7 wx) ⟨HG7.out.put hhi (tr_cell rfl) (Row.congr (Row.set HG7.out.r1 6 _) rfl), tr_cell rfl⟩ ?_
 rintro w8 ⟨G8, hT8⟩
 have r0 := G8.r0
 have r1 := G8.r1
 clear HG7 c6 f6 HG
 let L : List Sp := [sO 1 (w.heap.size) 198 [0] (fun g => aggOf g 0)]
 refine wp_region_six0 (shs L) (look6 L) (fun c => c = w.heap.size) (by kernel_rfl) (by kernel_rfl) (mk_St L [1] [1] (by kernel_rfl) (by kernel_rfl) ⟨ok_O aggOf_congr r0.lt (rfl), trivial⟩ (by simp)) ?_
 intro QQ hQ
 refine stepK rfl (by kernel_rfl) (fun K hK => ?_); go_simp
 apply Exists.intro; apply And.intro; (focus exact kLoad rfl rfl aggT198 r1 rfl id); refine hK _ _ ?_; clear hK K
 refine stepS _ rfl (by kernel_rfl) (fun K hK => ?_); go_simp
 refine ⟨?_, ?_⟩
 ·exact sStoreO rfl rfl rfl rfl rfl rfl r0 id (by kernel_rfl) rfl (by kernel_rfl) (by decide) aggOf_congr
 rintro ⟨v1, lo1, hi1⟩ - - (rfl : v1 = undef)
 refine hK _ _ ?_; clear hK K
 refine stepN ?_
 refine hQ _ _ ?_
 intro w9 hT hG hF
 have x0 : Row w9 w.heap.size 198 (#[.int .i64 (n1 : Int), .int .i64 (n2 : Int), .int .u64 y0, .int .u64 y1, .int .u64 y2, .int .u64 y3, .slice q np c]) := hF 1 _ rfl rfl (by decide)
 have hs9 := G8.src.keep hT (fun b _ h2 hx => by have hx' : b = w.heap.size := hx; omega)
 have ht9 := G8.tr.trans_new hT (fun b hb hlt => by have hb' : b = w.heap.size := hb; omega)
 have ho9 : Oh w9 w.heap.size (.slice q np c) P := own_base (own_tr (own_tr HO.out.1 hT8 (fun b hb hx => by have hx' : b = w.heap.size + 1 := hx; have h1 := (own_lt HO.out.1 b hb).1; omega)) hT (fun b hb hx => by have hx' : b = w.heap.size := hx; have h1 := (own_lt HO.out.1 b hb).1; omega)) (by omega)
 have H9 := Lib.hid (show _ ∧ _ ∧ _ from ⟨ho9, hs9, ht9⟩)
 clear hT hG hF hQ QQ L r0 r1 G8 hT8 ho9 hs9 ht9
 go_wp2_with fail
 refine bodyPost_ret (results_c rfl aggT198 rfl x0 rfl) rfl ?_
 have hL : (lfc ⟨(n1 : Int), (n2 : Int), a, q, c, P⟩).toArray = #[.int .i64 (n1 : Int), .int .i64 (n2 : Int), .int .u64 y0, .int .u64 y1, .int .u64 y2, .int .u64 y3, .slice q np c] := by unfold lfc Lf.pv; rw [hW]; simp only [HO.out.2]; rfl
 exact ⟨⟨(n1 : Int), (n2 : Int), a, q, c, P⟩, rfl, by rw [hL], by show Oh w9 w.heap.size (.slice q P.length c) P; rw [HO.out.2]; exact H9.out.1, H9.out.2.1, H9.out.2.2⟩
end Go.Proofs.Ytpdenhmkpiafiaa
namespace Go.Proofs.Ytpdenhmkpiafiaa
open Go Go.RowKit K6
def setL (cs : Array Value) (o : Nat) : List Value → Array Value
 | [] => cs
 | v :: r => setL (cs.setIfInBounds o v) (o + 1) r
theorem setL_get : ∀ (l : List Value) (cs : Array Value) (o j : Nat), o + l.length ≤ cs.size → (setL cs o l)[j]? = if o ≤ j ∧ j < o + l.length then l[j - o]? else cs[j]?
 | [], cs, o, j, _ => by
  show cs[j]? = _
  rw [if_neg (by rintro ⟨h1, h2⟩; simp at h2; omega)]
 | v :: r, cs, o, j, h => by
  show (setL (cs.setIfInBounds o v) (o + 1) r)[j]? = _
  rw [List.length_cons] at h ⊢
  rw [setL_get r _ _ j (by rw [Array.size_setIfInBounds]; omega)]
  by_cases h1 : o + 1 ≤ j ∧ j < o + 1 + r.length
  ·rw [if_pos h1, if_pos (by omega), show j - o = (j - (o + 1)) + 1 by omega, List.getElem?_cons_succ]
  ·rw [if_neg h1]
   by_cases h2 : j = o
   ·subst h2
    rw [if_pos (by omega), Nat.sub_self, Array.getElem?_setIfInBounds_self_of_lt (by omega)]
    rfl
   ·rw [if_neg (by omega), Array.getElem?_setIfInBounds_ne (by omega)]
theorem row_setL : ∀ (l : List Value) {w : World} {b t : Nat} {cs : Array Value} (o : Nat), Row w b t cs → Row (w.setCells b o l) b t (setL cs o l)
 | [], _, _, _, _, _, h => h
 | v :: r, w, b, t, cs, o, h => by
  rw [World.setCells]
  exact row_setL r (o + 1) (h.set o v)
theorem heap_setCells {w : World} {b o c : Nat} {vs : List Value} (h : c ≠ b) : (w.setCells b o vs).heap[c]? = w.heap[c]? := by
 induction vs generalizing w o with
 | nil => rfl
 | cons v r ih => rw [World.setCells, ih]; exact Below.heap_setCell _ _ _ _ h
theorem size_setCells' {w : World} {b o : Nat} {vs : List Value} : (w.setCells b o vs).heap.size = w.heap.size := by
 induction vs generalizing w o with
 | nil => rfl
 | cons v r ih => rw [World.setCells, ih]; simp
theorem tape_setCells' {w : World} {b o : Nat} {vs : List Value} : (w.setCells b o vs).tape = w.tape := by
 induction vs generalizing w o with
 | nil => rfl
 | cons v r ih => rw [World.setCells, ih]; rfl
theorem there_row {w : World} {b t o n : Nat} {cs : Array Value} (hr : Row w b t cs) (h : o + n ≤ cs.size) : w.there b o n := fun j hj => by
 refine ⟨?_, hr.frozen _⟩
 rw [hr.cell, Array.getElem?_eq_getElem (by omega)]
 rfl
theorem sStoreMid {P : Program} {o : Oper} {a : Act} {w1 : World} {sh : List Sh} {g : Ghost} {X : Nat → Prop} {l : List Sp} {i b t off : Nat} {D : List Nat} {old vs : Array Value} {cells : Ghost → Array Value} {s : Sh} (hl : look6 l s.i = (sO i b t D cells).2) (hs : s = (sO i b t D cells).1)
  {ty : TypeId} {x y : Operand} (ho : o.op = .store ty x y) (hx : a.eval x = .pointer (some ⟨b, off, none⟩)) (hy : a.eval y = .agg vs) (hr : Row w1 b t old) (hX : ¬ X b) (hcs : cells g = setL old off vs.toList) (hoff : off + vs.size ≤ old.size)
  (hi : (P.info? ty).map (·.size) = some vs.size) (h1 : vs.all (·.oneCell') = true) (hik : i ∉ D) (hc : ∀ g g', (∀ x ∈ D, g' x = g x) → cells g' = cells g) : sOut P w1 sh (look6 l) X o a s g := by
 intro w hT hg hu
 have hr' := K6.Row.tr hr hT hX
 have hrun : (execOp a.eval o).run P w = .ok .skip (w.setCells b off vs.toList) := by
  unfold execOp
  simp only [ho, hx, hy, Sem.run_bind, Sem.run_pure, Result.andThen_ok, run_storeAt_mid w b off ty vs (there_row hr' hoff) hi h1]
 rw [hrun]
 exact left_O hl hs hik hc (fun b hb => heap_setCells hb) (World.os_setCells _ _ _ _) tape_setCells' (World.output_setCells _ _ _ _) size_setCells' (hcs ▸ row_setL _ _ hr')
theorem Cm.size {c : Cm} (h : c.tok.length = 32) : c.cs.toArray.size = 38 := by rw [List.size_toArray]; exact Cm.len h
theorem arr_eq {a b : Array Value} (h : ∀ j : Nat, a[j]? = b[j]?) : a = b := Array.ext_getElem? h
theorem Cm.get {c : Cm} (h : c.tok.length = 32) (j : Nat) : c.cs.toArray[j]? = if j < 3 then [Value.int .i64 c.r, .int .i64 c.x, .int .i64 c.e][j]? else if j < 35 then (bv c.tok)[j - 3]? else [c.pv, c.lv, .int .i64 c.z][j - 35]? := by
 rw [List.getElem?_toArray]
 unfold Cm.cs
 by_cases h1 : j < 3
 ·rw [if_pos h1, List.getElem?_append_left (by show j < 3; exact h1)]
 ·rw [if_neg h1, List.getElem?_append_right (by show 3 ≤ j; omega)]
  by_cases h2 : j < 35
  ·rw [if_pos h2, List.getElem?_append_left (by rw [bv_len, h]; show j - 3 < 32; omega)]
   rfl
  ·rw [if_neg h2, List.getElem?_append_right (by rw [bv_len, h]; show 32 ≤ j - 3; omega), bv_len, h]
   congr 1
theorem Cm.setLow {c d : Cm} (hc : c.tok.length = 32) (ht : d.tok = c.tok) (hp : d.pv = c.pv) (hl : d.lv = c.lv) (hz : d.z = c.z) {o : Nat} {v : Value} (ho : o < 3) (hv : [Value.int .i64 d.r, .int .i64 d.x, .int .i64 d.e][o]? = some v) (hr : ∀ j, j < 3 → j ≠ o → [Value.int .i64 d.r, .int .i64 d.x, .int .i64 d.e][j]? = [Value.int .i64 c.r, .int .i64 c.x, .int .i64 c.e][j]?) : c.cs.toArray.setIfInBounds o v = d.cs.toArray := by
 refine arr_eq fun j => ?_
 have hd : d.tok.length = 32 := by rw [ht]; exact hc
 rw [Cm.get hd]
 by_cases h : j = o
 ·subst h
  rw [Array.getElem?_setIfInBounds_self_of_lt (by rw [Cm.size hc]; omega), if_pos ho, hv]
 ·rw [Array.getElem?_setIfInBounds_ne (by omega), Cm.get hc]
  by_cases h1 : j < 3
  ·rw [if_pos h1, if_pos h1, hr j h1 h]
  ·rw [if_neg h1, if_neg h1, ht, hp, hl, hz]
theorem Cm.setHigh {c d : Cm} (hc : c.tok.length = 32) (ht : d.tok = c.tok) (hr : d.r = c.r) (hx : d.x = c.x) (he : d.e = c.e) {o : Nat} {v : Value} (ho : o < 3) (hv : [d.pv, d.lv, .int .i64 d.z][o]? = some v) (hn : ∀ j, j ≠ o → [d.pv, d.lv, Value.int .i64 d.z][j]? = [c.pv, c.lv, Value.int .i64 c.z][j]?) : c.cs.toArray.setIfInBounds (35 + o) v = d.cs.toArray := by
 refine arr_eq fun j => ?_
 have hd : d.tok.length = 32 := by rw [ht]; exact hc
 rw [Cm.get hd]
 by_cases h : j = 35 + o
 ·subst h
  rw [Array.getElem?_setIfInBounds_self_of_lt (by rw [Cm.size hc]; omega), if_neg (by omega), if_neg (by omega), show 35 + o - 35 = o by omega, hv]
 ·rw [Array.getElem?_setIfInBounds_ne (by omega), Cm.get hc]
  by_cases h1 : j < 3
  ·rw [if_pos h1, if_pos h1, hr, hx, he]
  ·rw [if_neg h1, if_neg h1]
   by_cases h2 : j < 35
   ·rw [if_pos h2, if_pos h2, ht]
   ·rw [if_neg h2, if_neg h2, hn _ (by omega)]
theorem Cm.setTok {c d : Cm} (hc : c.tok.length = 32) (hd : d.tok.length = 32) (hr : d.r = c.r) (hx : d.x = c.x) (he : d.e = c.e) (hp : d.pv = c.pv) (hl : d.lv = c.lv) (hz : d.z = c.z) : setL c.cs.toArray 3 (bv d.tok).toArray.toList = d.cs.toArray := by
 refine arr_eq fun j => ?_
 have hlen : (bv d.tok).toArray.toList.length = 32 := by show (bv d.tok).length = 32; rw [bv_len]; exact hd
 rw [setL_get _ _ _ _ (by rw [hlen, Cm.size hc]; omega), hlen, Cm.get hd, Cm.get hc]
 by_cases h1 : j < 3
 ·rw [if_neg (by omega), if_pos h1, if_pos h1, hr, hx, he]
 ·by_cases h2 : j < 35
  ·rw [if_pos (by omega), if_neg h1, if_pos h2]
  ·rw [if_neg (by omega), if_neg h1, if_neg h2, if_neg h1, if_neg h2, hp, hl, hz]
theorem Txv.size {t : Txv} (h : t.c.tok.length = 32) : t.cs.toArray.size = 43 := by rw [List.size_toArray]; exact Txv.len h
theorem Txv.get {t : Txv} (j : Nat) : t.cs.toArray[j]? = if j < 5 then [Value.int .i64 t.k, .int .i64 t.f, t.nv, t.av, t.hv][j]? else t.c.cs.toArray[j - 5]? := by
 rw [List.getElem?_toArray, List.getElem?_toArray]
 unfold Txv.cs
 by_cases h1 : j < 5
 ·rw [if_pos h1, List.getElem?_append_left (by show j < 5; exact h1)]
 ·rw [if_neg h1, List.getElem?_append_right (by show 5 ≤ j; omega)]
  rfl
theorem Txv.setLow {t u : Txv} (ht : t.c.tok.length = 32) (hcu : u.c = t.c) {o : Nat} {v : Value} (ho : o < 5) (hv : [Value.int .i64 u.k, .int .i64 u.f, u.nv, u.av, u.hv][o]? = some v) (hn : ∀ j, j < 5 → j ≠ o → [Value.int .i64 u.k, .int .i64 u.f, u.nv, u.av, u.hv][j]? = [Value.int .i64 t.k, .int .i64 t.f, t.nv, t.av, t.hv][j]?) : t.cs.toArray.setIfInBounds o v = u.cs.toArray := by
 refine arr_eq fun j => ?_
 rw [Txv.get (t := u)]
 by_cases h : j = o
 ·subst h
  rw [Array.getElem?_setIfInBounds_self_of_lt (by rw [Txv.size ht]; omega), if_pos ho, hv]
 ·rw [Array.getElem?_setIfInBounds_ne (by omega), Txv.get]
  by_cases h1 : j < 5
  ·rw [if_pos h1, if_pos h1, hn j h1 h]
  ·rw [if_neg h1, if_neg h1, hcu]
theorem Txv.setC {t u : Txv} (ht : t.c.tok.length = 32) (hu : u.c.tok.length = 32) (hk : u.k = t.k) (hf : u.f = t.f) (hn : u.nv = t.nv) (ha : u.av = t.av) (hh : u.hv = t.hv) : setL t.cs.toArray 5 u.c.cs.toArray.toList = u.cs.toArray := by
 refine arr_eq fun j => ?_
 have hlen : u.c.cs.toArray.toList.length = 38 := by show u.c.cs.length = 38; exact Cm.len hu
 rw [setL_get _ _ _ _ (by rw [hlen, Txv.size ht]; omega), hlen, Txv.get (t := u), Txv.get]
 by_cases h1 : j < 5
 ·rw [if_neg (by omega), if_pos h1, if_pos h1, hk, hf, hn, ha, hh]
 ·by_cases h2 : j < 43
  ·rw [if_pos (by omega), if_neg h1, ← Array.getElem?_toList]
  ·rw [if_neg (by omega), if_neg h1, if_neg h1, List.getElem?_toArray, List.getElem?_toArray, List.getElem?_eq_none (by rw [Cm.len ht]; omega), List.getElem?_eq_none (by rw [Cm.len hu]; omega)]
end Go.Proofs.Ytpdenhmkpiafiaa
