/-
  What the statement rests on, part 8: TxOf Amt3 TxGood TxDef TxForm TxMany.
-/
import Derived.Test.YtpdenhmkpiafiaaQTC1
import Derived.Test.YtpdenhmkpiafiaaQTC3
import Derived.Test.YtpdenhmkpiafiaaQTC4
import Derived.Test.YtpdenhmkpiafiaaQTC6
namespace Go.Proofs.Ytpdenhmkpiafiaa
open Go Go.RowKit K6
structure Shp where
  n : Int
  t : Bool
  a : Int
  e : Bool
  h : Int
  c : Bool
def Shp.cs (s : Shp) : Array Value := #[.int .i64 s.n, .bool s.t, .int .i64 s.a, .bool s.e, .int .i64 s.h, .bool s.c]
def shpL : List Shp := [⟨2, false, 1, false, 0, false⟩, ⟨1, false, 0, false, 0, false⟩, ⟨1, false, 0, false, 0, false⟩, ⟨2, false, 0, false, 0, false⟩, ⟨2, false, 1, false, 0, false⟩, ⟨1, false, 1, false, 0, false⟩, ⟨1, false, 1, false, 0, false⟩, ⟨1, false, 0, false, 0, false⟩, ⟨1, false, 0, false, 0, false⟩, ⟨1, false, 0, false, 0, false⟩, ⟨1, false, 0, false, 0, false⟩, ⟨1, false, 1, false, 0, false⟩, ⟨2, false, 0, false, 0, false⟩, ⟨1, false, 0, false, 0, false⟩, ⟨0, false, 0, false, 0, false⟩, ⟨0, true, 0, false, 0, false⟩, ⟨2, false, 0, false, 0, false⟩, ⟨2, false, 0, false, 0, false⟩, ⟨2, false, 0, false, 0, false⟩, ⟨3, false, 0, false, 0, false⟩, ⟨3, false, 1, false, 0, false⟩, ⟨2, true, 0, true, 0, false⟩, ⟨1, false, 1, false, 0, false⟩, ⟨0, false, 0, false, 1, false⟩, ⟨1, false, 0, false, 0, false⟩, ⟨1, false, 0, false, 0, false⟩, ⟨0, false, 0, false, 0, true⟩, ⟨2, false, 0, false, 0, false⟩]
def shpZ : Shp := ⟨0, false, 0, false, 0, false⟩
def shpOf (k : Int) : Shp := if 1 ≤ k ∧ k ≤ 28 then shpL.getD (k - 1).toNat shpZ else shpZ
def okK (k : Int) : Bool := decide (1 ≤ k) && decide (k ≤ 28)
def OfP (w : World) (k : Int) (r : Ending) (w' : World) : Prop := r = .returned (.tuple #[.agg (shpOf k).cs, .bool (okK k)]) ∧ Below w.heap.size w w'
theorem aggT107 : AggT Try.prog 107 6 := ⟨⟨_, Try.underlying107, rfl⟩, by kernel_rfl⟩
set_option maxRecDepth 100000 in
set_option maxHeartbeats 4000000 in
theorem of_1 (w : World) : Calls Try.prog 131 #[.int .i64 1] w (OfP w 1) := by
  go_enter Try.func131, Try.ntmps131
  go_upto_region 4 with (fail)
  refine wp_abs (Mem w [(w.heap.size, 107, #[.int .i64 0, .bool false, .int .i64 0, .bool false, .int .i64 0, .bool false])]) ⟨by go_grown, by (repeat (first | (refine Row.new_at ?_; simp; done) | refine Row.alloc ?_ _)), trivial⟩ ?_
  intro w0 hM
  obtain ⟨hl, r0, -⟩ := hM
  let L : List Sp := [sO 1 (w.heap.size) 107 [0] (fun g => aggOf g 0)]
  refine wp_region_six0 (shs L) (look6 L) (fun c => c = w.heap.size) (by kernel_rfl) (by kernel_rfl) (mk_St L [1] [1] (by kernel_rfl) (by kernel_rfl) ⟨ok_O aggOf_congr r0.lt (rfl), trivial⟩ (by simp)) ?_
  intro QQ hQ
  refine stepK rfl (by kernel_rfl) (fun K hK => ?_); go_simp
  apply Exists.intro; apply And.intro; (focus (intro wk hk; go_simp; exact ⟨rfl, rfl⟩)); refine hK _ _ ?_; clear hK K
  refine stepS _ rfl (by kernel_rfl) (fun K hK => ?_); go_simp
  refine ⟨?_, ?_⟩
  · exact sStoreO rfl rfl rfl rfl rfl rfl r0 id (by kernel_rfl) rfl (by kernel_rfl) (by decide) aggOf_congr
  rintro ⟨v1, lo1, hi1⟩ - - (rfl : v1 = undef)
  refine hK _ _ ?_; clear hK K
  refine stepKz rfl (fun K hK => ?_); go_simp
  apply Exists.intro; apply And.intro; (focus (intro wk hk; go_simp; exact ⟨rfl, rfl⟩)); refine hK _ _ ?_; clear hK K
  refine stepN ?_
  refine hQ _ _ ?_
  intro w9 hT hG hF
  have x0 : Row w9 w.heap.size 107 (#[.int .i64 2, .bool false, .int .i64 1, .bool false, .int .i64 0, .bool false]) := hF 1 _ rfl rfl (by decide)
  have hl9 := Lib.hid (hl.trans (hT.below_of hl.size (by intro c hc; have hc' : c = w.heap.size := hc; omega)))
  clear hT hG hF hQ QQ L hl r0
  go_wp2_with fail
  refine bodyPost_ret (results_ct rfl aggT107 rfl x0 rfl) rfl ?_
  exact ⟨by kernel_rfl, hl9.out⟩
set_option maxRecDepth 100000 in
set_option maxHeartbeats 4000000 in
theorem of_2 (w : World) : Calls Try.prog 131 #[.int .i64 2] w (OfP w 2) := by
  go_enter Try.func131, Try.ntmps131
  go_upto_region 14 with (fail)
  refine wp_abs (Mem w [(w.heap.size, 107, #[.int .i64 0, .bool false, .int .i64 0, .bool false, .int .i64 0, .bool false])]) ⟨by go_grown, by (repeat (first | (refine Row.new_at ?_; simp; done) | refine Row.alloc ?_ _)), trivial⟩ ?_
  intro w0 hM
  obtain ⟨hl, r0, -⟩ := hM
  let L : List Sp := [sO 1 (w.heap.size) 107 [0] (fun g => aggOf g 0)]
  refine wp_region_six0 (shs L) (look6 L) (fun c => c = w.heap.size) (by kernel_rfl) (by kernel_rfl) (mk_St L [1] [1] (by kernel_rfl) (by kernel_rfl) ⟨ok_O aggOf_congr r0.lt (rfl), trivial⟩ (by simp)) ?_
  intro QQ hQ
  refine stepK rfl (by kernel_rfl) (fun K hK => ?_); go_simp
  apply Exists.intro; apply And.intro; (focus (intro wk hk; go_simp; exact ⟨rfl, rfl⟩)); refine hK _ _ ?_; clear hK K
  refine stepS _ rfl (by kernel_rfl) (fun K hK => ?_); go_simp
  refine ⟨?_, ?_⟩
  · exact sStoreO rfl rfl rfl rfl rfl rfl r0 id (by kernel_rfl) rfl (by kernel_rfl) (by decide) aggOf_congr
  rintro ⟨v1, lo1, hi1⟩ - - (rfl : v1 = undef)
  refine hK _ _ ?_; clear hK K
  refine stepKz rfl (fun K hK => ?_); go_simp
  apply Exists.intro; apply And.intro; (focus (intro wk hk; go_simp; exact ⟨rfl, rfl⟩)); refine hK _ _ ?_; clear hK K
  refine stepN ?_
  refine hQ _ _ ?_
  intro w9 hT hG hF
  have x0 : Row w9 w.heap.size 107 (#[.int .i64 1, .bool false, .int .i64 0, .bool false, .int .i64 0, .bool false]) := hF 1 _ rfl rfl (by decide)
  have hl9 := Lib.hid (hl.trans (hT.below_of hl.size (by intro c hc; have hc' : c = w.heap.size := hc; omega)))
  clear hT hG hF hQ QQ L hl r0
  go_wp2_with fail
  refine bodyPost_ret (results_ct rfl aggT107 rfl x0 rfl) rfl ?_
  exact ⟨by kernel_rfl, hl9.out⟩
set_option maxRecDepth 100000 in
set_option maxHeartbeats 4000000 in
theorem of_3 (w : World) : Calls Try.prog 131 #[.int .i64 3] w (OfP w 3) := by
  go_enter Try.func131, Try.ntmps131
  go_upto_region 14 with (fail)
  refine wp_abs (Mem w [(w.heap.size, 107, #[.int .i64 0, .bool false, .int .i64 0, .bool false, .int .i64 0, .bool false])]) ⟨by go_grown, by (repeat (first | (refine Row.new_at ?_; simp; done) | refine Row.alloc ?_ _)), trivial⟩ ?_
  intro w0 hM
  obtain ⟨hl, r0, -⟩ := hM
  let L : List Sp := [sO 1 (w.heap.size) 107 [0] (fun g => aggOf g 0)]
  refine wp_region_six0 (shs L) (look6 L) (fun c => c = w.heap.size) (by kernel_rfl) (by kernel_rfl) (mk_St L [1] [1] (by kernel_rfl) (by kernel_rfl) ⟨ok_O aggOf_congr r0.lt (rfl), trivial⟩ (by simp)) ?_
  intro QQ hQ
  refine stepK rfl (by kernel_rfl) (fun K hK => ?_); go_simp
  apply Exists.intro; apply And.intro; (focus (intro wk hk; go_simp; exact ⟨rfl, rfl⟩)); refine hK _ _ ?_; clear hK K
  refine stepS _ rfl (by kernel_rfl) (fun K hK => ?_); go_simp
  refine ⟨?_, ?_⟩
  · exact sStoreO rfl rfl rfl rfl rfl rfl r0 id (by kernel_rfl) rfl (by kernel_rfl) (by decide) aggOf_congr
  rintro ⟨v1, lo1, hi1⟩ - - (rfl : v1 = undef)
  refine hK _ _ ?_; clear hK K
  refine stepKz rfl (fun K hK => ?_); go_simp
  apply Exists.intro; apply And.intro; (focus (intro wk hk; go_simp; exact ⟨rfl, rfl⟩)); refine hK _ _ ?_; clear hK K
  refine stepN ?_
  refine hQ _ _ ?_
  intro w9 hT hG hF
  have x0 : Row w9 w.heap.size 107 (#[.int .i64 1, .bool false, .int .i64 0, .bool false, .int .i64 0, .bool false]) := hF 1 _ rfl rfl (by decide)
  have hl9 := Lib.hid (hl.trans (hT.below_of hl.size (by intro c hc; have hc' : c = w.heap.size := hc; omega)))
  clear hT hG hF hQ QQ L hl r0
  go_wp2_with fail
  refine bodyPost_ret (results_ct rfl aggT107 rfl x0 rfl) rfl ?_
  exact ⟨by kernel_rfl, hl9.out⟩
set_option maxRecDepth 100000 in
set_option maxHeartbeats 4000000 in
theorem of_4 (w : World) : Calls Try.prog 131 #[.int .i64 4] w (OfP w 4) := by
  go_enter Try.func131, Try.ntmps131
  go_upto_region 21 with (fail)
  refine wp_abs (Mem w [(w.heap.size, 107, #[.int .i64 0, .bool false, .int .i64 0, .bool false, .int .i64 0, .bool false])]) ⟨by go_grown, by (repeat (first | (refine Row.new_at ?_; simp; done) | refine Row.alloc ?_ _)), trivial⟩ ?_
  intro w0 hM
  obtain ⟨hl, r0, -⟩ := hM
  let L : List Sp := [sO 1 (w.heap.size) 107 [0] (fun g => aggOf g 0)]
  refine wp_region_six0 (shs L) (look6 L) (fun c => c = w.heap.size) (by kernel_rfl) (by kernel_rfl) (mk_St L [1] [1] (by kernel_rfl) (by kernel_rfl) ⟨ok_O aggOf_congr r0.lt (rfl), trivial⟩ (by simp)) ?_
  intro QQ hQ
  refine stepK rfl (by kernel_rfl) (fun K hK => ?_); go_simp
  apply Exists.intro; apply And.intro; (focus (intro wk hk; go_simp; exact ⟨rfl, rfl⟩)); refine hK _ _ ?_; clear hK K
  refine stepS _ rfl (by kernel_rfl) (fun K hK => ?_); go_simp
  refine ⟨?_, ?_⟩
  · exact sStoreO rfl rfl rfl rfl rfl rfl r0 id (by kernel_rfl) rfl (by kernel_rfl) (by decide) aggOf_congr
  rintro ⟨v1, lo1, hi1⟩ - - (rfl : v1 = undef)
  refine hK _ _ ?_; clear hK K
  refine stepKz rfl (fun K hK => ?_); go_simp
  apply Exists.intro; apply And.intro; (focus (intro wk hk; go_simp; exact ⟨rfl, rfl⟩)); refine hK _ _ ?_; clear hK K
  refine stepN ?_
  refine hQ _ _ ?_
  intro w9 hT hG hF
  have x0 : Row w9 w.heap.size 107 (#[.int .i64 2, .bool false, .int .i64 0, .bool false, .int .i64 0, .bool false]) := hF 1 _ rfl rfl (by decide)
  have hl9 := Lib.hid (hl.trans (hT.below_of hl.size (by intro c hc; have hc' : c = w.heap.size := hc; omega)))
  clear hT hG hF hQ QQ L hl r0
  go_wp2_with fail
  refine bodyPost_ret (results_ct rfl aggT107 rfl x0 rfl) rfl ?_
  exact ⟨by kernel_rfl, hl9.out⟩
set_option maxRecDepth 100000 in
set_option maxHeartbeats 4000000 in
theorem of_5 (w : World) : Calls Try.prog 131 #[.int .i64 5] w (OfP w 5) := by
  go_enter Try.func131, Try.ntmps131
  go_upto_region 4 with (fail)
  refine wp_abs (Mem w [(w.heap.size, 107, #[.int .i64 0, .bool false, .int .i64 0, .bool false, .int .i64 0, .bool false])]) ⟨by go_grown, by (repeat (first | (refine Row.new_at ?_; simp; done) | refine Row.alloc ?_ _)), trivial⟩ ?_
  intro w0 hM
  obtain ⟨hl, r0, -⟩ := hM
  let L : List Sp := [sO 1 (w.heap.size) 107 [0] (fun g => aggOf g 0)]
  refine wp_region_six0 (shs L) (look6 L) (fun c => c = w.heap.size) (by kernel_rfl) (by kernel_rfl) (mk_St L [1] [1] (by kernel_rfl) (by kernel_rfl) ⟨ok_O aggOf_congr r0.lt (rfl), trivial⟩ (by simp)) ?_
  intro QQ hQ
  refine stepK rfl (by kernel_rfl) (fun K hK => ?_); go_simp
  apply Exists.intro; apply And.intro; (focus (intro wk hk; go_simp; exact ⟨rfl, rfl⟩)); refine hK _ _ ?_; clear hK K
  refine stepS _ rfl (by kernel_rfl) (fun K hK => ?_); go_simp
  refine ⟨?_, ?_⟩
  · exact sStoreO rfl rfl rfl rfl rfl rfl r0 id (by kernel_rfl) rfl (by kernel_rfl) (by decide) aggOf_congr
  rintro ⟨v1, lo1, hi1⟩ - - (rfl : v1 = undef)
  refine hK _ _ ?_; clear hK K
  refine stepKz rfl (fun K hK => ?_); go_simp
  apply Exists.intro; apply And.intro; (focus (intro wk hk; go_simp; exact ⟨rfl, rfl⟩)); refine hK _ _ ?_; clear hK K
  refine stepN ?_
  refine hQ _ _ ?_
  intro w9 hT hG hF
  have x0 : Row w9 w.heap.size 107 (#[.int .i64 2, .bool false, .int .i64 1, .bool false, .int .i64 0, .bool false]) := hF 1 _ rfl rfl (by decide)
  have hl9 := Lib.hid (hl.trans (hT.below_of hl.size (by intro c hc; have hc' : c = w.heap.size := hc; omega)))
  clear hT hG hF hQ QQ L hl r0
  go_wp2_with fail
  refine bodyPost_ret (results_ct rfl aggT107 rfl x0 rfl) rfl ?_
  exact ⟨by kernel_rfl, hl9.out⟩
set_option maxRecDepth 100000 in
set_option maxHeartbeats 4000000 in
theorem of_6 (w : World) : Calls Try.prog 131 #[.int .i64 6] w (OfP w 6) := by
  go_enter Try.func131, Try.ntmps131
  go_upto_region 26 with (fail)
  refine wp_abs (Mem w [(w.heap.size, 107, #[.int .i64 0, .bool false, .int .i64 0, .bool false, .int .i64 0, .bool false])]) ⟨by go_grown, by (repeat (first | (refine Row.new_at ?_; simp; done) | refine Row.alloc ?_ _)), trivial⟩ ?_
  intro w0 hM
  obtain ⟨hl, r0, -⟩ := hM
  let L : List Sp := [sO 1 (w.heap.size) 107 [0] (fun g => aggOf g 0)]
  refine wp_region_six0 (shs L) (look6 L) (fun c => c = w.heap.size) (by kernel_rfl) (by kernel_rfl) (mk_St L [1] [1] (by kernel_rfl) (by kernel_rfl) ⟨ok_O aggOf_congr r0.lt (rfl), trivial⟩ (by simp)) ?_
  intro QQ hQ
  refine stepK rfl (by kernel_rfl) (fun K hK => ?_); go_simp
  apply Exists.intro; apply And.intro; (focus (intro wk hk; go_simp; exact ⟨rfl, rfl⟩)); refine hK _ _ ?_; clear hK K
  refine stepS _ rfl (by kernel_rfl) (fun K hK => ?_); go_simp
  refine ⟨?_, ?_⟩
  · exact sStoreO rfl rfl rfl rfl rfl rfl r0 id (by kernel_rfl) rfl (by kernel_rfl) (by decide) aggOf_congr
  rintro ⟨v1, lo1, hi1⟩ - - (rfl : v1 = undef)
  refine hK _ _ ?_; clear hK K
  refine stepKz rfl (fun K hK => ?_); go_simp
  apply Exists.intro; apply And.intro; (focus (intro wk hk; go_simp; exact ⟨rfl, rfl⟩)); refine hK _ _ ?_; clear hK K
  refine stepN ?_
  refine hQ _ _ ?_
  intro w9 hT hG hF
  have x0 : Row w9 w.heap.size 107 (#[.int .i64 1, .bool false, .int .i64 1, .bool false, .int .i64 0, .bool false]) := hF 1 _ rfl rfl (by decide)
  have hl9 := Lib.hid (hl.trans (hT.below_of hl.size (by intro c hc; have hc' : c = w.heap.size := hc; omega)))
  clear hT hG hF hQ QQ L hl r0
  go_wp2_with fail
  refine bodyPost_ret (results_ct rfl aggT107 rfl x0 rfl) rfl ?_
  exact ⟨by kernel_rfl, hl9.out⟩
set_option maxRecDepth 100000 in
set_option maxHeartbeats 4000000 in
theorem of_7 (w : World) : Calls Try.prog 131 #[.int .i64 7] w (OfP w 7) := by
  go_enter Try.func131, Try.ntmps131
  go_upto_region 26 with (fail)
  refine wp_abs (Mem w [(w.heap.size, 107, #[.int .i64 0, .bool false, .int .i64 0, .bool false, .int .i64 0, .bool false])]) ⟨by go_grown, by (repeat (first | (refine Row.new_at ?_; simp; done) | refine Row.alloc ?_ _)), trivial⟩ ?_
  intro w0 hM
  obtain ⟨hl, r0, -⟩ := hM
  let L : List Sp := [sO 1 (w.heap.size) 107 [0] (fun g => aggOf g 0)]
  refine wp_region_six0 (shs L) (look6 L) (fun c => c = w.heap.size) (by kernel_rfl) (by kernel_rfl) (mk_St L [1] [1] (by kernel_rfl) (by kernel_rfl) ⟨ok_O aggOf_congr r0.lt (rfl), trivial⟩ (by simp)) ?_
  intro QQ hQ
  refine stepK rfl (by kernel_rfl) (fun K hK => ?_); go_simp
  apply Exists.intro; apply And.intro; (focus (intro wk hk; go_simp; exact ⟨rfl, rfl⟩)); refine hK _ _ ?_; clear hK K
  refine stepS _ rfl (by kernel_rfl) (fun K hK => ?_); go_simp
  refine ⟨?_, ?_⟩
  · exact sStoreO rfl rfl rfl rfl rfl rfl r0 id (by kernel_rfl) rfl (by kernel_rfl) (by decide) aggOf_congr
  rintro ⟨v1, lo1, hi1⟩ - - (rfl : v1 = undef)
  refine hK _ _ ?_; clear hK K
  refine stepKz rfl (fun K hK => ?_); go_simp
  apply Exists.intro; apply And.intro; (focus (intro wk hk; go_simp; exact ⟨rfl, rfl⟩)); refine hK _ _ ?_; clear hK K
  refine stepN ?_
  refine hQ _ _ ?_
  intro w9 hT hG hF
  have x0 : Row w9 w.heap.size 107 (#[.int .i64 1, .bool false, .int .i64 1, .bool false, .int .i64 0, .bool false]) := hF 1 _ rfl rfl (by decide)
  have hl9 := Lib.hid (hl.trans (hT.below_of hl.size (by intro c hc; have hc' : c = w.heap.size := hc; omega)))
  clear hT hG hF hQ QQ L hl r0
  go_wp2_with fail
  refine bodyPost_ret (results_ct rfl aggT107 rfl x0 rfl) rfl ?_
  exact ⟨by kernel_rfl, hl9.out⟩
set_option maxRecDepth 100000 in
set_option maxHeartbeats 4000000 in
theorem of_8 (w : World) : Calls Try.prog 131 #[.int .i64 8] w (OfP w 8) := by
  go_enter Try.func131, Try.ntmps131
  go_upto_region 14 with (fail)
  refine wp_abs (Mem w [(w.heap.size, 107, #[.int .i64 0, .bool false, .int .i64 0, .bool false, .int .i64 0, .bool false])]) ⟨by go_grown, by (repeat (first | (refine Row.new_at ?_; simp; done) | refine Row.alloc ?_ _)), trivial⟩ ?_
  intro w0 hM
  obtain ⟨hl, r0, -⟩ := hM
  let L : List Sp := [sO 1 (w.heap.size) 107 [0] (fun g => aggOf g 0)]
  refine wp_region_six0 (shs L) (look6 L) (fun c => c = w.heap.size) (by kernel_rfl) (by kernel_rfl) (mk_St L [1] [1] (by kernel_rfl) (by kernel_rfl) ⟨ok_O aggOf_congr r0.lt (rfl), trivial⟩ (by simp)) ?_
  intro QQ hQ
  refine stepK rfl (by kernel_rfl) (fun K hK => ?_); go_simp
  apply Exists.intro; apply And.intro; (focus (intro wk hk; go_simp; exact ⟨rfl, rfl⟩)); refine hK _ _ ?_; clear hK K
  refine stepS _ rfl (by kernel_rfl) (fun K hK => ?_); go_simp
  refine ⟨?_, ?_⟩
  · exact sStoreO rfl rfl rfl rfl rfl rfl r0 id (by kernel_rfl) rfl (by kernel_rfl) (by decide) aggOf_congr
  rintro ⟨v1, lo1, hi1⟩ - - (rfl : v1 = undef)
  refine hK _ _ ?_; clear hK K
  refine stepKz rfl (fun K hK => ?_); go_simp
  apply Exists.intro; apply And.intro; (focus (intro wk hk; go_simp; exact ⟨rfl, rfl⟩)); refine hK _ _ ?_; clear hK K
  refine stepN ?_
  refine hQ _ _ ?_
  intro w9 hT hG hF
  have x0 : Row w9 w.heap.size 107 (#[.int .i64 1, .bool false, .int .i64 0, .bool false, .int .i64 0, .bool false]) := hF 1 _ rfl rfl (by decide)
  have hl9 := Lib.hid (hl.trans (hT.below_of hl.size (by intro c hc; have hc' : c = w.heap.size := hc; omega)))
  clear hT hG hF hQ QQ L hl r0
  go_wp2_with fail
  refine bodyPost_ret (results_ct rfl aggT107 rfl x0 rfl) rfl ?_
  exact ⟨by kernel_rfl, hl9.out⟩
set_option maxRecDepth 100000 in
set_option maxHeartbeats 4000000 in
theorem of_9 (w : World) : Calls Try.prog 131 #[.int .i64 9] w (OfP w 9) := by
  go_enter Try.func131, Try.ntmps131
  go_upto_region 14 with (fail)
  refine wp_abs (Mem w [(w.heap.size, 107, #[.int .i64 0, .bool false, .int .i64 0, .bool false, .int .i64 0, .bool false])]) ⟨by go_grown, by (repeat (first | (refine Row.new_at ?_; simp; done) | refine Row.alloc ?_ _)), trivial⟩ ?_
  intro w0 hM
  obtain ⟨hl, r0, -⟩ := hM
  let L : List Sp := [sO 1 (w.heap.size) 107 [0] (fun g => aggOf g 0)]
  refine wp_region_six0 (shs L) (look6 L) (fun c => c = w.heap.size) (by kernel_rfl) (by kernel_rfl) (mk_St L [1] [1] (by kernel_rfl) (by kernel_rfl) ⟨ok_O aggOf_congr r0.lt (rfl), trivial⟩ (by simp)) ?_
  intro QQ hQ
  refine stepK rfl (by kernel_rfl) (fun K hK => ?_); go_simp
  apply Exists.intro; apply And.intro; (focus (intro wk hk; go_simp; exact ⟨rfl, rfl⟩)); refine hK _ _ ?_; clear hK K
  refine stepS _ rfl (by kernel_rfl) (fun K hK => ?_); go_simp
  refine ⟨?_, ?_⟩
  · exact sStoreO rfl rfl rfl rfl rfl rfl r0 id (by kernel_rfl) rfl (by kernel_rfl) (by decide) aggOf_congr
  rintro ⟨v1, lo1, hi1⟩ - - (rfl : v1 = undef)
  refine hK _ _ ?_; clear hK K
  refine stepKz rfl (fun K hK => ?_); go_simp
  apply Exists.intro; apply And.intro; (focus (intro wk hk; go_simp; exact ⟨rfl, rfl⟩)); refine hK _ _ ?_; clear hK K
  refine stepN ?_
  refine hQ _ _ ?_
  intro w9 hT hG hF
  have x0 : Row w9 w.heap.size 107 (#[.int .i64 1, .bool false, .int .i64 0, .bool false, .int .i64 0, .bool false]) := hF 1 _ rfl rfl (by decide)
  have hl9 := Lib.hid (hl.trans (hT.below_of hl.size (by intro c hc; have hc' : c = w.heap.size := hc; omega)))
  clear hT hG hF hQ QQ L hl r0
  go_wp2_with fail
  refine bodyPost_ret (results_ct rfl aggT107 rfl x0 rfl) rfl ?_
  exact ⟨by kernel_rfl, hl9.out⟩
set_option maxRecDepth 100000 in
set_option maxHeartbeats 4000000 in
theorem of_10 (w : World) : Calls Try.prog 131 #[.int .i64 10] w (OfP w 10) := by
  go_enter Try.func131, Try.ntmps131
  go_upto_region 14 with (fail)
  refine wp_abs (Mem w [(w.heap.size, 107, #[.int .i64 0, .bool false, .int .i64 0, .bool false, .int .i64 0, .bool false])]) ⟨by go_grown, by (repeat (first | (refine Row.new_at ?_; simp; done) | refine Row.alloc ?_ _)), trivial⟩ ?_
  intro w0 hM
  obtain ⟨hl, r0, -⟩ := hM
  let L : List Sp := [sO 1 (w.heap.size) 107 [0] (fun g => aggOf g 0)]
  refine wp_region_six0 (shs L) (look6 L) (fun c => c = w.heap.size) (by kernel_rfl) (by kernel_rfl) (mk_St L [1] [1] (by kernel_rfl) (by kernel_rfl) ⟨ok_O aggOf_congr r0.lt (rfl), trivial⟩ (by simp)) ?_
  intro QQ hQ
  refine stepK rfl (by kernel_rfl) (fun K hK => ?_); go_simp
  apply Exists.intro; apply And.intro; (focus (intro wk hk; go_simp; exact ⟨rfl, rfl⟩)); refine hK _ _ ?_; clear hK K
  refine stepS _ rfl (by kernel_rfl) (fun K hK => ?_); go_simp
  refine ⟨?_, ?_⟩
  · exact sStoreO rfl rfl rfl rfl rfl rfl r0 id (by kernel_rfl) rfl (by kernel_rfl) (by decide) aggOf_congr
  rintro ⟨v1, lo1, hi1⟩ - - (rfl : v1 = undef)
  refine hK _ _ ?_; clear hK K
  refine stepKz rfl (fun K hK => ?_); go_simp
  apply Exists.intro; apply And.intro; (focus (intro wk hk; go_simp; exact ⟨rfl, rfl⟩)); refine hK _ _ ?_; clear hK K
  refine stepN ?_
  refine hQ _ _ ?_
  intro w9 hT hG hF
  have x0 : Row w9 w.heap.size 107 (#[.int .i64 1, .bool false, .int .i64 0, .bool false, .int .i64 0, .bool false]) := hF 1 _ rfl rfl (by decide)
  have hl9 := Lib.hid (hl.trans (hT.below_of hl.size (by intro c hc; have hc' : c = w.heap.size := hc; omega)))
  clear hT hG hF hQ QQ L hl r0
  go_wp2_with fail
  refine bodyPost_ret (results_ct rfl aggT107 rfl x0 rfl) rfl ?_
  exact ⟨by kernel_rfl, hl9.out⟩
set_option maxRecDepth 100000 in
set_option maxHeartbeats 4000000 in
theorem of_11 (w : World) : Calls Try.prog 131 #[.int .i64 11] w (OfP w 11) := by
  go_enter Try.func131, Try.ntmps131
  go_upto_region 14 with (fail)
  refine wp_abs (Mem w [(w.heap.size, 107, #[.int .i64 0, .bool false, .int .i64 0, .bool false, .int .i64 0, .bool false])]) ⟨by go_grown, by (repeat (first | (refine Row.new_at ?_; simp; done) | refine Row.alloc ?_ _)), trivial⟩ ?_
  intro w0 hM
  obtain ⟨hl, r0, -⟩ := hM
  let L : List Sp := [sO 1 (w.heap.size) 107 [0] (fun g => aggOf g 0)]
  refine wp_region_six0 (shs L) (look6 L) (fun c => c = w.heap.size) (by kernel_rfl) (by kernel_rfl) (mk_St L [1] [1] (by kernel_rfl) (by kernel_rfl) ⟨ok_O aggOf_congr r0.lt (rfl), trivial⟩ (by simp)) ?_
  intro QQ hQ
  refine stepK rfl (by kernel_rfl) (fun K hK => ?_); go_simp
  apply Exists.intro; apply And.intro; (focus (intro wk hk; go_simp; exact ⟨rfl, rfl⟩)); refine hK _ _ ?_; clear hK K
  refine stepS _ rfl (by kernel_rfl) (fun K hK => ?_); go_simp
  refine ⟨?_, ?_⟩
  · exact sStoreO rfl rfl rfl rfl rfl rfl r0 id (by kernel_rfl) rfl (by kernel_rfl) (by decide) aggOf_congr
  rintro ⟨v1, lo1, hi1⟩ - - (rfl : v1 = undef)
  refine hK _ _ ?_; clear hK K
  refine stepKz rfl (fun K hK => ?_); go_simp
  apply Exists.intro; apply And.intro; (focus (intro wk hk; go_simp; exact ⟨rfl, rfl⟩)); refine hK _ _ ?_; clear hK K
  refine stepN ?_
  refine hQ _ _ ?_
  intro w9 hT hG hF
  have x0 : Row w9 w.heap.size 107 (#[.int .i64 1, .bool false, .int .i64 0, .bool false, .int .i64 0, .bool false]) := hF 1 _ rfl rfl (by decide)
  have hl9 := Lib.hid (hl.trans (hT.below_of hl.size (by intro c hc; have hc' : c = w.heap.size := hc; omega)))
  clear hT hG hF hQ QQ L hl r0
  go_wp2_with fail
  refine bodyPost_ret (results_ct rfl aggT107 rfl x0 rfl) rfl ?_
  exact ⟨by kernel_rfl, hl9.out⟩
set_option maxRecDepth 100000 in
set_option maxHeartbeats 4000000 in
theorem of_12 (w : World) : Calls Try.prog 131 #[.int .i64 12] w (OfP w 12) := by
  go_enter Try.func131, Try.ntmps131
  go_upto_region 26 with (fail)
  refine wp_abs (Mem w [(w.heap.size, 107, #[.int .i64 0, .bool false, .int .i64 0, .bool false, .int .i64 0, .bool false])]) ⟨by go_grown, by (repeat (first | (refine Row.new_at ?_; simp; done) | refine Row.alloc ?_ _)), trivial⟩ ?_
  intro w0 hM
  obtain ⟨hl, r0, -⟩ := hM
  let L : List Sp := [sO 1 (w.heap.size) 107 [0] (fun g => aggOf g 0)]
  refine wp_region_six0 (shs L) (look6 L) (fun c => c = w.heap.size) (by kernel_rfl) (by kernel_rfl) (mk_St L [1] [1] (by kernel_rfl) (by kernel_rfl) ⟨ok_O aggOf_congr r0.lt (rfl), trivial⟩ (by simp)) ?_
  intro QQ hQ
  refine stepK rfl (by kernel_rfl) (fun K hK => ?_); go_simp
  apply Exists.intro; apply And.intro; (focus (intro wk hk; go_simp; exact ⟨rfl, rfl⟩)); refine hK _ _ ?_; clear hK K
  refine stepS _ rfl (by kernel_rfl) (fun K hK => ?_); go_simp
  refine ⟨?_, ?_⟩
  · exact sStoreO rfl rfl rfl rfl rfl rfl r0 id (by kernel_rfl) rfl (by kernel_rfl) (by decide) aggOf_congr
  rintro ⟨v1, lo1, hi1⟩ - - (rfl : v1 = undef)
  refine hK _ _ ?_; clear hK K
  refine stepKz rfl (fun K hK => ?_); go_simp
  apply Exists.intro; apply And.intro; (focus (intro wk hk; go_simp; exact ⟨rfl, rfl⟩)); refine hK _ _ ?_; clear hK K
  refine stepN ?_
  refine hQ _ _ ?_
  intro w9 hT hG hF
  have x0 : Row w9 w.heap.size 107 (#[.int .i64 1, .bool false, .int .i64 1, .bool false, .int .i64 0, .bool false]) := hF 1 _ rfl rfl (by decide)
  have hl9 := Lib.hid (hl.trans (hT.below_of hl.size (by intro c hc; have hc' : c = w.heap.size := hc; omega)))
  clear hT hG hF hQ QQ L hl r0
  go_wp2_with fail
  refine bodyPost_ret (results_ct rfl aggT107 rfl x0 rfl) rfl ?_
  exact ⟨by kernel_rfl, hl9.out⟩
set_option maxRecDepth 100000 in
set_option maxHeartbeats 4000000 in
theorem of_13 (w : World) : Calls Try.prog 131 #[.int .i64 13] w (OfP w 13) := by
  go_enter Try.func131, Try.ntmps131
  go_upto_region 21 with (fail)
  refine wp_abs (Mem w [(w.heap.size, 107, #[.int .i64 0, .bool false, .int .i64 0, .bool false, .int .i64 0, .bool false])]) ⟨by go_grown, by (repeat (first | (refine Row.new_at ?_; simp; done) | refine Row.alloc ?_ _)), trivial⟩ ?_
  intro w0 hM
  obtain ⟨hl, r0, -⟩ := hM
  let L : List Sp := [sO 1 (w.heap.size) 107 [0] (fun g => aggOf g 0)]
  refine wp_region_six0 (shs L) (look6 L) (fun c => c = w.heap.size) (by kernel_rfl) (by kernel_rfl) (mk_St L [1] [1] (by kernel_rfl) (by kernel_rfl) ⟨ok_O aggOf_congr r0.lt (rfl), trivial⟩ (by simp)) ?_
  intro QQ hQ
  refine stepK rfl (by kernel_rfl) (fun K hK => ?_); go_simp
  apply Exists.intro; apply And.intro; (focus (intro wk hk; go_simp; exact ⟨rfl, rfl⟩)); refine hK _ _ ?_; clear hK K
  refine stepS _ rfl (by kernel_rfl) (fun K hK => ?_); go_simp
  refine ⟨?_, ?_⟩
  · exact sStoreO rfl rfl rfl rfl rfl rfl r0 id (by kernel_rfl) rfl (by kernel_rfl) (by decide) aggOf_congr
  rintro ⟨v1, lo1, hi1⟩ - - (rfl : v1 = undef)
  refine hK _ _ ?_; clear hK K
  refine stepKz rfl (fun K hK => ?_); go_simp
  apply Exists.intro; apply And.intro; (focus (intro wk hk; go_simp; exact ⟨rfl, rfl⟩)); refine hK _ _ ?_; clear hK K
  refine stepN ?_
  refine hQ _ _ ?_
  intro w9 hT hG hF
  have x0 : Row w9 w.heap.size 107 (#[.int .i64 2, .bool false, .int .i64 0, .bool false, .int .i64 0, .bool false]) := hF 1 _ rfl rfl (by decide)
  have hl9 := Lib.hid (hl.trans (hT.below_of hl.size (by intro c hc; have hc' : c = w.heap.size := hc; omega)))
  clear hT hG hF hQ QQ L hl r0
  go_wp2_with fail
  refine bodyPost_ret (results_ct rfl aggT107 rfl x0 rfl) rfl ?_
  exact ⟨by kernel_rfl, hl9.out⟩
set_option maxRecDepth 100000 in
set_option maxHeartbeats 4000000 in
theorem of_14 (w : World) : Calls Try.prog 131 #[.int .i64 14] w (OfP w 14) := by
  go_enter Try.func131, Try.ntmps131
  go_upto_region 14 with (fail)
  refine wp_abs (Mem w [(w.heap.size, 107, #[.int .i64 0, .bool false, .int .i64 0, .bool false, .int .i64 0, .bool false])]) ⟨by go_grown, by (repeat (first | (refine Row.new_at ?_; simp; done) | refine Row.alloc ?_ _)), trivial⟩ ?_
  intro w0 hM
  obtain ⟨hl, r0, -⟩ := hM
  let L : List Sp := [sO 1 (w.heap.size) 107 [0] (fun g => aggOf g 0)]
  refine wp_region_six0 (shs L) (look6 L) (fun c => c = w.heap.size) (by kernel_rfl) (by kernel_rfl) (mk_St L [1] [1] (by kernel_rfl) (by kernel_rfl) ⟨ok_O aggOf_congr r0.lt (rfl), trivial⟩ (by simp)) ?_
  intro QQ hQ
  refine stepK rfl (by kernel_rfl) (fun K hK => ?_); go_simp
  apply Exists.intro; apply And.intro; (focus (intro wk hk; go_simp; exact ⟨rfl, rfl⟩)); refine hK _ _ ?_; clear hK K
  refine stepS _ rfl (by kernel_rfl) (fun K hK => ?_); go_simp
  refine ⟨?_, ?_⟩
  · exact sStoreO rfl rfl rfl rfl rfl rfl r0 id (by kernel_rfl) rfl (by kernel_rfl) (by decide) aggOf_congr
  rintro ⟨v1, lo1, hi1⟩ - - (rfl : v1 = undef)
  refine hK _ _ ?_; clear hK K
  refine stepKz rfl (fun K hK => ?_); go_simp
  apply Exists.intro; apply And.intro; (focus (intro wk hk; go_simp; exact ⟨rfl, rfl⟩)); refine hK _ _ ?_; clear hK K
  refine stepN ?_
  refine hQ _ _ ?_
  intro w9 hT hG hF
  have x0 : Row w9 w.heap.size 107 (#[.int .i64 1, .bool false, .int .i64 0, .bool false, .int .i64 0, .bool false]) := hF 1 _ rfl rfl (by decide)
  have hl9 := Lib.hid (hl.trans (hT.below_of hl.size (by intro c hc; have hc' : c = w.heap.size := hc; omega)))
  clear hT hG hF hQ QQ L hl r0
  go_wp2_with fail
  refine bodyPost_ret (results_ct rfl aggT107 rfl x0 rfl) rfl ?_
  exact ⟨by kernel_rfl, hl9.out⟩
set_option maxRecDepth 100000 in
set_option maxHeartbeats 4000000 in
theorem of_15 (w : World) : Calls Try.prog 131 #[.int .i64 15] w (OfP w 15) := by
  go_enter Try.func131, Try.ntmps131
  go_upto_region 28 with (fail)
  refine wp_abs (Mem w [(w.heap.size, 107, #[.int .i64 0, .bool false, .int .i64 0, .bool false, .int .i64 0, .bool false])]) ⟨by go_grown, by (repeat (first | (refine Row.new_at ?_; simp; done) | refine Row.alloc ?_ _)), trivial⟩ ?_
  intro w0 hM
  obtain ⟨hl, r0, -⟩ := hM
  let L : List Sp := [sO 1 (w.heap.size) 107 [0] (fun g => aggOf g 0)]
  refine wp_region_six0 (shs L) (look6 L) (fun c => c = w.heap.size) (by kernel_rfl) (by kernel_rfl) (mk_St L [1] [1] (by kernel_rfl) (by kernel_rfl) ⟨ok_O aggOf_congr r0.lt (rfl), trivial⟩ (by simp)) ?_
  intro QQ hQ
  refine stepK rfl (by kernel_rfl) (fun K hK => ?_); go_simp
  apply Exists.intro; apply And.intro; (focus (intro wk hk; go_simp; exact ⟨rfl, rfl⟩)); refine hK _ _ ?_; clear hK K
  refine stepS _ rfl (by kernel_rfl) (fun K hK => ?_); go_simp
  refine ⟨?_, ?_⟩
  · exact sStoreO rfl rfl rfl rfl rfl rfl r0 id (by kernel_rfl) rfl (by kernel_rfl) (by decide) aggOf_congr
  rintro ⟨v1, lo1, hi1⟩ - - (rfl : v1 = undef)
  refine hK _ _ ?_; clear hK K
  refine stepKz rfl (fun K hK => ?_); go_simp
  apply Exists.intro; apply And.intro; (focus (intro wk hk; go_simp; exact ⟨rfl, rfl⟩)); refine hK _ _ ?_; clear hK K
  refine stepN ?_
  refine hQ _ _ ?_
  intro w9 hT hG hF
  have x0 : Row w9 w.heap.size 107 (#[.int .i64 0, .bool false, .int .i64 0, .bool false, .int .i64 0, .bool false]) := hF 1 _ rfl rfl (by decide)
  have hl9 := Lib.hid (hl.trans (hT.below_of hl.size (by intro c hc; have hc' : c = w.heap.size := hc; omega)))
  clear hT hG hF hQ QQ L hl r0
  go_wp2_with fail
  refine bodyPost_ret (results_ct rfl aggT107 rfl x0 rfl) rfl ?_
  exact ⟨by kernel_rfl, hl9.out⟩
set_option maxRecDepth 100000 in
set_option maxHeartbeats 4000000 in
theorem of_16 (w : World) : Calls Try.prog 131 #[.int .i64 16] w (OfP w 16) := by
  go_enter Try.func131, Try.ntmps131
  go_upto_region 30 with (fail)
  refine wp_abs (Mem w [(w.heap.size, 107, #[.int .i64 0, .bool false, .int .i64 0, .bool false, .int .i64 0, .bool false])]) ⟨by go_grown, by (repeat (first | (refine Row.new_at ?_; simp; done) | refine Row.alloc ?_ _)), trivial⟩ ?_
  intro w0 hM
  obtain ⟨hl, r0, -⟩ := hM
  let L : List Sp := [sO 1 (w.heap.size) 107 [0] (fun g => aggOf g 0)]
  refine wp_region_six0 (shs L) (look6 L) (fun c => c = w.heap.size) (by kernel_rfl) (by kernel_rfl) (mk_St L [1] [1] (by kernel_rfl) (by kernel_rfl) ⟨ok_O aggOf_congr r0.lt (rfl), trivial⟩ (by simp)) ?_
  intro QQ hQ
  refine stepK rfl (by kernel_rfl) (fun K hK => ?_); go_simp
  apply Exists.intro; apply And.intro; (focus (intro wk hk; go_simp; exact ⟨rfl, rfl⟩)); refine hK _ _ ?_; clear hK K
  refine stepS _ rfl (by kernel_rfl) (fun K hK => ?_); go_simp
  refine ⟨?_, ?_⟩
  · exact sStoreO rfl rfl rfl rfl rfl rfl r0 id (by kernel_rfl) rfl (by kernel_rfl) (by decide) aggOf_congr
  rintro ⟨v1, lo1, hi1⟩ - - (rfl : v1 = undef)
  refine hK _ _ ?_; clear hK K
  refine stepKz rfl (fun K hK => ?_); go_simp
  apply Exists.intro; apply And.intro; (focus (intro wk hk; go_simp; exact ⟨rfl, rfl⟩)); refine hK _ _ ?_; clear hK K
  refine stepN ?_
  refine hQ _ _ ?_
  intro w9 hT hG hF
  have x0 : Row w9 w.heap.size 107 (#[.int .i64 0, .bool true, .int .i64 0, .bool false, .int .i64 0, .bool false]) := hF 1 _ rfl rfl (by decide)
  have hl9 := Lib.hid (hl.trans (hT.below_of hl.size (by intro c hc; have hc' : c = w.heap.size := hc; omega)))
  clear hT hG hF hQ QQ L hl r0
  go_wp2_with fail
  refine bodyPost_ret (results_ct rfl aggT107 rfl x0 rfl) rfl ?_
  exact ⟨by kernel_rfl, hl9.out⟩
set_option maxRecDepth 100000 in
set_option maxHeartbeats 4000000 in
theorem of_17 (w : World) : Calls Try.prog 131 #[.int .i64 17] w (OfP w 17) := by
  go_enter Try.func131, Try.ntmps131
  go_upto_region 21 with (fail)
  refine wp_abs (Mem w [(w.heap.size, 107, #[.int .i64 0, .bool false, .int .i64 0, .bool false, .int .i64 0, .bool false])]) ⟨by go_grown, by (repeat (first | (refine Row.new_at ?_; simp; done) | refine Row.alloc ?_ _)), trivial⟩ ?_
  intro w0 hM
  obtain ⟨hl, r0, -⟩ := hM
  let L : List Sp := [sO 1 (w.heap.size) 107 [0] (fun g => aggOf g 0)]
  refine wp_region_six0 (shs L) (look6 L) (fun c => c = w.heap.size) (by kernel_rfl) (by kernel_rfl) (mk_St L [1] [1] (by kernel_rfl) (by kernel_rfl) ⟨ok_O aggOf_congr r0.lt (rfl), trivial⟩ (by simp)) ?_
  intro QQ hQ
  refine stepK rfl (by kernel_rfl) (fun K hK => ?_); go_simp
  apply Exists.intro; apply And.intro; (focus (intro wk hk; go_simp; exact ⟨rfl, rfl⟩)); refine hK _ _ ?_; clear hK K
  refine stepS _ rfl (by kernel_rfl) (fun K hK => ?_); go_simp
  refine ⟨?_, ?_⟩
  · exact sStoreO rfl rfl rfl rfl rfl rfl r0 id (by kernel_rfl) rfl (by kernel_rfl) (by decide) aggOf_congr
  rintro ⟨v1, lo1, hi1⟩ - - (rfl : v1 = undef)
  refine hK _ _ ?_; clear hK K
  refine stepKz rfl (fun K hK => ?_); go_simp
  apply Exists.intro; apply And.intro; (focus (intro wk hk; go_simp; exact ⟨rfl, rfl⟩)); refine hK _ _ ?_; clear hK K
  refine stepN ?_
  refine hQ _ _ ?_
  intro w9 hT hG hF
  have x0 : Row w9 w.heap.size 107 (#[.int .i64 2, .bool false, .int .i64 0, .bool false, .int .i64 0, .bool false]) := hF 1 _ rfl rfl (by decide)
  have hl9 := Lib.hid (hl.trans (hT.below_of hl.size (by intro c hc; have hc' : c = w.heap.size := hc; omega)))
  clear hT hG hF hQ QQ L hl r0
  go_wp2_with fail
  refine bodyPost_ret (results_ct rfl aggT107 rfl x0 rfl) rfl ?_
  exact ⟨by kernel_rfl, hl9.out⟩
set_option maxRecDepth 100000 in
set_option maxHeartbeats 4000000 in
theorem of_18 (w : World) : Calls Try.prog 131 #[.int .i64 18] w (OfP w 18) := by
  go_enter Try.func131, Try.ntmps131
  go_upto_region 21 with (fail)
  refine wp_abs (Mem w [(w.heap.size, 107, #[.int .i64 0, .bool false, .int .i64 0, .bool false, .int .i64 0, .bool false])]) ⟨by go_grown, by (repeat (first | (refine Row.new_at ?_; simp; done) | refine Row.alloc ?_ _)), trivial⟩ ?_
  intro w0 hM
  obtain ⟨hl, r0, -⟩ := hM
  let L : List Sp := [sO 1 (w.heap.size) 107 [0] (fun g => aggOf g 0)]
  refine wp_region_six0 (shs L) (look6 L) (fun c => c = w.heap.size) (by kernel_rfl) (by kernel_rfl) (mk_St L [1] [1] (by kernel_rfl) (by kernel_rfl) ⟨ok_O aggOf_congr r0.lt (rfl), trivial⟩ (by simp)) ?_
  intro QQ hQ
  refine stepK rfl (by kernel_rfl) (fun K hK => ?_); go_simp
  apply Exists.intro; apply And.intro; (focus (intro wk hk; go_simp; exact ⟨rfl, rfl⟩)); refine hK _ _ ?_; clear hK K
  refine stepS _ rfl (by kernel_rfl) (fun K hK => ?_); go_simp
  refine ⟨?_, ?_⟩
  · exact sStoreO rfl rfl rfl rfl rfl rfl r0 id (by kernel_rfl) rfl (by kernel_rfl) (by decide) aggOf_congr
  rintro ⟨v1, lo1, hi1⟩ - - (rfl : v1 = undef)
  refine hK _ _ ?_; clear hK K
  refine stepKz rfl (fun K hK => ?_); go_simp
  apply Exists.intro; apply And.intro; (focus (intro wk hk; go_simp; exact ⟨rfl, rfl⟩)); refine hK _ _ ?_; clear hK K
  refine stepN ?_
  refine hQ _ _ ?_
  intro w9 hT hG hF
  have x0 : Row w9 w.heap.size 107 (#[.int .i64 2, .bool false, .int .i64 0, .bool false, .int .i64 0, .bool false]) := hF 1 _ rfl rfl (by decide)
  have hl9 := Lib.hid (hl.trans (hT.below_of hl.size (by intro c hc; have hc' : c = w.heap.size := hc; omega)))
  clear hT hG hF hQ QQ L hl r0
  go_wp2_with fail
  refine bodyPost_ret (results_ct rfl aggT107 rfl x0 rfl) rfl ?_
  exact ⟨by kernel_rfl, hl9.out⟩
set_option maxRecDepth 100000 in
set_option maxHeartbeats 4000000 in
theorem of_19 (w : World) : Calls Try.prog 131 #[.int .i64 19] w (OfP w 19) := by
  go_enter Try.func131, Try.ntmps131
  go_upto_region 21 with (fail)
  refine wp_abs (Mem w [(w.heap.size, 107, #[.int .i64 0, .bool false, .int .i64 0, .bool false, .int .i64 0, .bool false])]) ⟨by go_grown, by (repeat (first | (refine Row.new_at ?_; simp; done) | refine Row.alloc ?_ _)), trivial⟩ ?_
  intro w0 hM
  obtain ⟨hl, r0, -⟩ := hM
  let L : List Sp := [sO 1 (w.heap.size) 107 [0] (fun g => aggOf g 0)]
  refine wp_region_six0 (shs L) (look6 L) (fun c => c = w.heap.size) (by kernel_rfl) (by kernel_rfl) (mk_St L [1] [1] (by kernel_rfl) (by kernel_rfl) ⟨ok_O aggOf_congr r0.lt (rfl), trivial⟩ (by simp)) ?_
  intro QQ hQ
  refine stepK rfl (by kernel_rfl) (fun K hK => ?_); go_simp
  apply Exists.intro; apply And.intro; (focus (intro wk hk; go_simp; exact ⟨rfl, rfl⟩)); refine hK _ _ ?_; clear hK K
  refine stepS _ rfl (by kernel_rfl) (fun K hK => ?_); go_simp
  refine ⟨?_, ?_⟩
  · exact sStoreO rfl rfl rfl rfl rfl rfl r0 id (by kernel_rfl) rfl (by kernel_rfl) (by decide) aggOf_congr
  rintro ⟨v1, lo1, hi1⟩ - - (rfl : v1 = undef)
  refine hK _ _ ?_; clear hK K
  refine stepKz rfl (fun K hK => ?_); go_simp
  apply Exists.intro; apply And.intro; (focus (intro wk hk; go_simp; exact ⟨rfl, rfl⟩)); refine hK _ _ ?_; clear hK K
  refine stepN ?_
  refine hQ _ _ ?_
  intro w9 hT hG hF
  have x0 : Row w9 w.heap.size 107 (#[.int .i64 2, .bool false, .int .i64 0, .bool false, .int .i64 0, .bool false]) := hF 1 _ rfl rfl (by decide)
  have hl9 := Lib.hid (hl.trans (hT.below_of hl.size (by intro c hc; have hc' : c = w.heap.size := hc; omega)))
  clear hT hG hF hQ QQ L hl r0
  go_wp2_with fail
  refine bodyPost_ret (results_ct rfl aggT107 rfl x0 rfl) rfl ?_
  exact ⟨by kernel_rfl, hl9.out⟩
set_option maxRecDepth 100000 in
set_option maxHeartbeats 4000000 in
theorem of_20 (w : World) : Calls Try.prog 131 #[.int .i64 20] w (OfP w 20) := by
  go_enter Try.func131, Try.ntmps131
  go_upto_region 32 with (fail)
  refine wp_abs (Mem w [(w.heap.size, 107, #[.int .i64 0, .bool false, .int .i64 0, .bool false, .int .i64 0, .bool false])]) ⟨by go_grown, by (repeat (first | (refine Row.new_at ?_; simp; done) | refine Row.alloc ?_ _)), trivial⟩ ?_
  intro w0 hM
  obtain ⟨hl, r0, -⟩ := hM
  let L : List Sp := [sO 1 (w.heap.size) 107 [0] (fun g => aggOf g 0)]
  refine wp_region_six0 (shs L) (look6 L) (fun c => c = w.heap.size) (by kernel_rfl) (by kernel_rfl) (mk_St L [1] [1] (by kernel_rfl) (by kernel_rfl) ⟨ok_O aggOf_congr r0.lt (rfl), trivial⟩ (by simp)) ?_
  intro QQ hQ
  refine stepK rfl (by kernel_rfl) (fun K hK => ?_); go_simp
  apply Exists.intro; apply And.intro; (focus (intro wk hk; go_simp; exact ⟨rfl, rfl⟩)); refine hK _ _ ?_; clear hK K
  refine stepS _ rfl (by kernel_rfl) (fun K hK => ?_); go_simp
  refine ⟨?_, ?_⟩
  · exact sStoreO rfl rfl rfl rfl rfl rfl r0 id (by kernel_rfl) rfl (by kernel_rfl) (by decide) aggOf_congr
  rintro ⟨v1, lo1, hi1⟩ - - (rfl : v1 = undef)
  refine hK _ _ ?_; clear hK K
  refine stepKz rfl (fun K hK => ?_); go_simp
  apply Exists.intro; apply And.intro; (focus (intro wk hk; go_simp; exact ⟨rfl, rfl⟩)); refine hK _ _ ?_; clear hK K
  refine stepN ?_
  refine hQ _ _ ?_
  intro w9 hT hG hF
  have x0 : Row w9 w.heap.size 107 (#[.int .i64 3, .bool false, .int .i64 0, .bool false, .int .i64 0, .bool false]) := hF 1 _ rfl rfl (by decide)
  have hl9 := Lib.hid (hl.trans (hT.below_of hl.size (by intro c hc; have hc' : c = w.heap.size := hc; omega)))
  clear hT hG hF hQ QQ L hl r0
  go_wp2_with fail
  refine bodyPost_ret (results_ct rfl aggT107 rfl x0 rfl) rfl ?_
  exact ⟨by kernel_rfl, hl9.out⟩
set_option maxRecDepth 100000 in
set_option maxHeartbeats 4000000 in
theorem of_21 (w : World) : Calls Try.prog 131 #[.int .i64 21] w (OfP w 21) := by
  go_enter Try.func131, Try.ntmps131
  go_upto_region 34 with (fail)
  refine wp_abs (Mem w [(w.heap.size, 107, #[.int .i64 0, .bool false, .int .i64 0, .bool false, .int .i64 0, .bool false])]) ⟨by go_grown, by (repeat (first | (refine Row.new_at ?_; simp; done) | refine Row.alloc ?_ _)), trivial⟩ ?_
  intro w0 hM
  obtain ⟨hl, r0, -⟩ := hM
  let L : List Sp := [sO 1 (w.heap.size) 107 [0] (fun g => aggOf g 0)]
  refine wp_region_six0 (shs L) (look6 L) (fun c => c = w.heap.size) (by kernel_rfl) (by kernel_rfl) (mk_St L [1] [1] (by kernel_rfl) (by kernel_rfl) ⟨ok_O aggOf_congr r0.lt (rfl), trivial⟩ (by simp)) ?_
  intro QQ hQ
  refine stepK rfl (by kernel_rfl) (fun K hK => ?_); go_simp
  apply Exists.intro; apply And.intro; (focus (intro wk hk; go_simp; exact ⟨rfl, rfl⟩)); refine hK _ _ ?_; clear hK K
  refine stepS _ rfl (by kernel_rfl) (fun K hK => ?_); go_simp
  refine ⟨?_, ?_⟩
  · exact sStoreO rfl rfl rfl rfl rfl rfl r0 id (by kernel_rfl) rfl (by kernel_rfl) (by decide) aggOf_congr
  rintro ⟨v1, lo1, hi1⟩ - - (rfl : v1 = undef)
  refine hK _ _ ?_; clear hK K
  refine stepKz rfl (fun K hK => ?_); go_simp
  apply Exists.intro; apply And.intro; (focus (intro wk hk; go_simp; exact ⟨rfl, rfl⟩)); refine hK _ _ ?_; clear hK K
  refine stepN ?_
  refine hQ _ _ ?_
  intro w9 hT hG hF
  have x0 : Row w9 w.heap.size 107 (#[.int .i64 3, .bool false, .int .i64 1, .bool false, .int .i64 0, .bool false]) := hF 1 _ rfl rfl (by decide)
  have hl9 := Lib.hid (hl.trans (hT.below_of hl.size (by intro c hc; have hc' : c = w.heap.size := hc; omega)))
  clear hT hG hF hQ QQ L hl r0
  go_wp2_with fail
  refine bodyPost_ret (results_ct rfl aggT107 rfl x0 rfl) rfl ?_
  exact ⟨by kernel_rfl, hl9.out⟩
set_option maxRecDepth 100000 in
set_option maxHeartbeats 4000000 in
theorem of_22 (w : World) : Calls Try.prog 131 #[.int .i64 22] w (OfP w 22) := by
  go_enter Try.func131, Try.ntmps131
  go_upto_region 36 with (fail)
  refine wp_abs (Mem w [(w.heap.size, 107, #[.int .i64 0, .bool false, .int .i64 0, .bool false, .int .i64 0, .bool false])]) ⟨by go_grown, by (repeat (first | (refine Row.new_at ?_; simp; done) | refine Row.alloc ?_ _)), trivial⟩ ?_
  intro w0 hM
  obtain ⟨hl, r0, -⟩ := hM
  let L : List Sp := [sO 1 (w.heap.size) 107 [0] (fun g => aggOf g 0)]
  refine wp_region_six0 (shs L) (look6 L) (fun c => c = w.heap.size) (by kernel_rfl) (by kernel_rfl) (mk_St L [1] [1] (by kernel_rfl) (by kernel_rfl) ⟨ok_O aggOf_congr r0.lt (rfl), trivial⟩ (by simp)) ?_
  intro QQ hQ
  refine stepK rfl (by kernel_rfl) (fun K hK => ?_); go_simp
  apply Exists.intro; apply And.intro; (focus (intro wk hk; go_simp; exact ⟨rfl, rfl⟩)); refine hK _ _ ?_; clear hK K
  refine stepS _ rfl (by kernel_rfl) (fun K hK => ?_); go_simp
  refine ⟨?_, ?_⟩
  · exact sStoreO rfl rfl rfl rfl rfl rfl r0 id (by kernel_rfl) rfl (by kernel_rfl) (by decide) aggOf_congr
  rintro ⟨v1, lo1, hi1⟩ - - (rfl : v1 = undef)
  refine hK _ _ ?_; clear hK K
  refine stepKz rfl (fun K hK => ?_); go_simp
  apply Exists.intro; apply And.intro; (focus (intro wk hk; go_simp; exact ⟨rfl, rfl⟩)); refine hK _ _ ?_; clear hK K
  refine stepN ?_
  refine hQ _ _ ?_
  intro w9 hT hG hF
  have x0 : Row w9 w.heap.size 107 (#[.int .i64 2, .bool true, .int .i64 0, .bool true, .int .i64 0, .bool false]) := hF 1 _ rfl rfl (by decide)
  have hl9 := Lib.hid (hl.trans (hT.below_of hl.size (by intro c hc; have hc' : c = w.heap.size := hc; omega)))
  clear hT hG hF hQ QQ L hl r0
  go_wp2_with fail
  refine bodyPost_ret (results_ct rfl aggT107 rfl x0 rfl) rfl ?_
  exact ⟨by kernel_rfl, hl9.out⟩
set_option maxRecDepth 100000 in
set_option maxHeartbeats 4000000 in
theorem of_23 (w : World) : Calls Try.prog 131 #[.int .i64 23] w (OfP w 23) := by
  go_enter Try.func131, Try.ntmps131
  go_upto_region 26 with (fail)
  refine wp_abs (Mem w [(w.heap.size, 107, #[.int .i64 0, .bool false, .int .i64 0, .bool false, .int .i64 0, .bool false])]) ⟨by go_grown, by (repeat (first | (refine Row.new_at ?_; simp; done) | refine Row.alloc ?_ _)), trivial⟩ ?_
  intro w0 hM
  obtain ⟨hl, r0, -⟩ := hM
  let L : List Sp := [sO 1 (w.heap.size) 107 [0] (fun g => aggOf g 0)]
  refine wp_region_six0 (shs L) (look6 L) (fun c => c = w.heap.size) (by kernel_rfl) (by kernel_rfl) (mk_St L [1] [1] (by kernel_rfl) (by kernel_rfl) ⟨ok_O aggOf_congr r0.lt (rfl), trivial⟩ (by simp)) ?_
  intro QQ hQ
  refine stepK rfl (by kernel_rfl) (fun K hK => ?_); go_simp
  apply Exists.intro; apply And.intro; (focus (intro wk hk; go_simp; exact ⟨rfl, rfl⟩)); refine hK _ _ ?_; clear hK K
  refine stepS _ rfl (by kernel_rfl) (fun K hK => ?_); go_simp
  refine ⟨?_, ?_⟩
  · exact sStoreO rfl rfl rfl rfl rfl rfl r0 id (by kernel_rfl) rfl (by kernel_rfl) (by decide) aggOf_congr
  rintro ⟨v1, lo1, hi1⟩ - - (rfl : v1 = undef)
  refine hK _ _ ?_; clear hK K
  refine stepKz rfl (fun K hK => ?_); go_simp
  apply Exists.intro; apply And.intro; (focus (intro wk hk; go_simp; exact ⟨rfl, rfl⟩)); refine hK _ _ ?_; clear hK K
  refine stepN ?_
  refine hQ _ _ ?_
  intro w9 hT hG hF
  have x0 : Row w9 w.heap.size 107 (#[.int .i64 1, .bool false, .int .i64 1, .bool false, .int .i64 0, .bool false]) := hF 1 _ rfl rfl (by decide)
  have hl9 := Lib.hid (hl.trans (hT.below_of hl.size (by intro c hc; have hc' : c = w.heap.size := hc; omega)))
  clear hT hG hF hQ QQ L hl r0
  go_wp2_with fail
  refine bodyPost_ret (results_ct rfl aggT107 rfl x0 rfl) rfl ?_
  exact ⟨by kernel_rfl, hl9.out⟩
set_option maxRecDepth 100000 in
set_option maxHeartbeats 4000000 in
theorem of_24 (w : World) : Calls Try.prog 131 #[.int .i64 24] w (OfP w 24) := by
  go_enter Try.func131, Try.ntmps131
  go_upto_region 38 with (fail)
  refine wp_abs (Mem w [(w.heap.size, 107, #[.int .i64 0, .bool false, .int .i64 0, .bool false, .int .i64 0, .bool false])]) ⟨by go_grown, by (repeat (first | (refine Row.new_at ?_; simp; done) | refine Row.alloc ?_ _)), trivial⟩ ?_
  intro w0 hM
  obtain ⟨hl, r0, -⟩ := hM
  let L : List Sp := [sO 1 (w.heap.size) 107 [0] (fun g => aggOf g 0)]
  refine wp_region_six0 (shs L) (look6 L) (fun c => c = w.heap.size) (by kernel_rfl) (by kernel_rfl) (mk_St L [1] [1] (by kernel_rfl) (by kernel_rfl) ⟨ok_O aggOf_congr r0.lt (rfl), trivial⟩ (by simp)) ?_
  intro QQ hQ
  refine stepK rfl (by kernel_rfl) (fun K hK => ?_); go_simp
  apply Exists.intro; apply And.intro; (focus (intro wk hk; go_simp; exact ⟨rfl, rfl⟩)); refine hK _ _ ?_; clear hK K
  refine stepS _ rfl (by kernel_rfl) (fun K hK => ?_); go_simp
  refine ⟨?_, ?_⟩
  · exact sStoreO rfl rfl rfl rfl rfl rfl r0 id (by kernel_rfl) rfl (by kernel_rfl) (by decide) aggOf_congr
  rintro ⟨v1, lo1, hi1⟩ - - (rfl : v1 = undef)
  refine hK _ _ ?_; clear hK K
  refine stepKz rfl (fun K hK => ?_); go_simp
  apply Exists.intro; apply And.intro; (focus (intro wk hk; go_simp; exact ⟨rfl, rfl⟩)); refine hK _ _ ?_; clear hK K
  refine stepN ?_
  refine hQ _ _ ?_
  intro w9 hT hG hF
  have x0 : Row w9 w.heap.size 107 (#[.int .i64 0, .bool false, .int .i64 0, .bool false, .int .i64 1, .bool false]) := hF 1 _ rfl rfl (by decide)
  have hl9 := Lib.hid (hl.trans (hT.below_of hl.size (by intro c hc; have hc' : c = w.heap.size := hc; omega)))
  clear hT hG hF hQ QQ L hl r0
  go_wp2_with fail
  refine bodyPost_ret (results_ct rfl aggT107 rfl x0 rfl) rfl ?_
  exact ⟨by kernel_rfl, hl9.out⟩
set_option maxRecDepth 100000 in
set_option maxHeartbeats 4000000 in
theorem of_25 (w : World) : Calls Try.prog 131 #[.int .i64 25] w (OfP w 25) := by
  go_enter Try.func131, Try.ntmps131
  go_upto_region 14 with (fail)
  refine wp_abs (Mem w [(w.heap.size, 107, #[.int .i64 0, .bool false, .int .i64 0, .bool false, .int .i64 0, .bool false])]) ⟨by go_grown, by (repeat (first | (refine Row.new_at ?_; simp; done) | refine Row.alloc ?_ _)), trivial⟩ ?_
  intro w0 hM
  obtain ⟨hl, r0, -⟩ := hM
  let L : List Sp := [sO 1 (w.heap.size) 107 [0] (fun g => aggOf g 0)]
  refine wp_region_six0 (shs L) (look6 L) (fun c => c = w.heap.size) (by kernel_rfl) (by kernel_rfl) (mk_St L [1] [1] (by kernel_rfl) (by kernel_rfl) ⟨ok_O aggOf_congr r0.lt (rfl), trivial⟩ (by simp)) ?_
  intro QQ hQ
  refine stepK rfl (by kernel_rfl) (fun K hK => ?_); go_simp
  apply Exists.intro; apply And.intro; (focus (intro wk hk; go_simp; exact ⟨rfl, rfl⟩)); refine hK _ _ ?_; clear hK K
  refine stepS _ rfl (by kernel_rfl) (fun K hK => ?_); go_simp
  refine ⟨?_, ?_⟩
  · exact sStoreO rfl rfl rfl rfl rfl rfl r0 id (by kernel_rfl) rfl (by kernel_rfl) (by decide) aggOf_congr
  rintro ⟨v1, lo1, hi1⟩ - - (rfl : v1 = undef)
  refine hK _ _ ?_; clear hK K
  refine stepKz rfl (fun K hK => ?_); go_simp
  apply Exists.intro; apply And.intro; (focus (intro wk hk; go_simp; exact ⟨rfl, rfl⟩)); refine hK _ _ ?_; clear hK K
  refine stepN ?_
  refine hQ _ _ ?_
  intro w9 hT hG hF
  have x0 : Row w9 w.heap.size 107 (#[.int .i64 1, .bool false, .int .i64 0, .bool false, .int .i64 0, .bool false]) := hF 1 _ rfl rfl (by decide)
  have hl9 := Lib.hid (hl.trans (hT.below_of hl.size (by intro c hc; have hc' : c = w.heap.size := hc; omega)))
  clear hT hG hF hQ QQ L hl r0
  go_wp2_with fail
  refine bodyPost_ret (results_ct rfl aggT107 rfl x0 rfl) rfl ?_
  exact ⟨by kernel_rfl, hl9.out⟩
set_option maxRecDepth 100000 in
set_option maxHeartbeats 4000000 in
theorem of_26 (w : World) : Calls Try.prog 131 #[.int .i64 26] w (OfP w 26) := by
  go_enter Try.func131, Try.ntmps131
  go_upto_region 14 with (fail)
  refine wp_abs (Mem w [(w.heap.size, 107, #[.int .i64 0, .bool false, .int .i64 0, .bool false, .int .i64 0, .bool false])]) ⟨by go_grown, by (repeat (first | (refine Row.new_at ?_; simp; done) | refine Row.alloc ?_ _)), trivial⟩ ?_
  intro w0 hM
  obtain ⟨hl, r0, -⟩ := hM
  let L : List Sp := [sO 1 (w.heap.size) 107 [0] (fun g => aggOf g 0)]
  refine wp_region_six0 (shs L) (look6 L) (fun c => c = w.heap.size) (by kernel_rfl) (by kernel_rfl) (mk_St L [1] [1] (by kernel_rfl) (by kernel_rfl) ⟨ok_O aggOf_congr r0.lt (rfl), trivial⟩ (by simp)) ?_
  intro QQ hQ
  refine stepK rfl (by kernel_rfl) (fun K hK => ?_); go_simp
  apply Exists.intro; apply And.intro; (focus (intro wk hk; go_simp; exact ⟨rfl, rfl⟩)); refine hK _ _ ?_; clear hK K
  refine stepS _ rfl (by kernel_rfl) (fun K hK => ?_); go_simp
  refine ⟨?_, ?_⟩
  · exact sStoreO rfl rfl rfl rfl rfl rfl r0 id (by kernel_rfl) rfl (by kernel_rfl) (by decide) aggOf_congr
  rintro ⟨v1, lo1, hi1⟩ - - (rfl : v1 = undef)
  refine hK _ _ ?_; clear hK K
  refine stepKz rfl (fun K hK => ?_); go_simp
  apply Exists.intro; apply And.intro; (focus (intro wk hk; go_simp; exact ⟨rfl, rfl⟩)); refine hK _ _ ?_; clear hK K
  refine stepN ?_
  refine hQ _ _ ?_
  intro w9 hT hG hF
  have x0 : Row w9 w.heap.size 107 (#[.int .i64 1, .bool false, .int .i64 0, .bool false, .int .i64 0, .bool false]) := hF 1 _ rfl rfl (by decide)
  have hl9 := Lib.hid (hl.trans (hT.below_of hl.size (by intro c hc; have hc' : c = w.heap.size := hc; omega)))
  clear hT hG hF hQ QQ L hl r0
  go_wp2_with fail
  refine bodyPost_ret (results_ct rfl aggT107 rfl x0 rfl) rfl ?_
  exact ⟨by kernel_rfl, hl9.out⟩
set_option maxRecDepth 100000 in
set_option maxHeartbeats 4000000 in
theorem of_27 (w : World) : Calls Try.prog 131 #[.int .i64 27] w (OfP w 27) := by
  go_enter Try.func131, Try.ntmps131
  go_upto_region 40 with (fail)
  refine wp_abs (Mem w [(w.heap.size, 107, #[.int .i64 0, .bool false, .int .i64 0, .bool false, .int .i64 0, .bool false])]) ⟨by go_grown, by (repeat (first | (refine Row.new_at ?_; simp; done) | refine Row.alloc ?_ _)), trivial⟩ ?_
  intro w0 hM
  obtain ⟨hl, r0, -⟩ := hM
  let L : List Sp := [sO 1 (w.heap.size) 107 [0] (fun g => aggOf g 0)]
  refine wp_region_six0 (shs L) (look6 L) (fun c => c = w.heap.size) (by kernel_rfl) (by kernel_rfl) (mk_St L [1] [1] (by kernel_rfl) (by kernel_rfl) ⟨ok_O aggOf_congr r0.lt (rfl), trivial⟩ (by simp)) ?_
  intro QQ hQ
  refine stepK rfl (by kernel_rfl) (fun K hK => ?_); go_simp
  apply Exists.intro; apply And.intro; (focus (intro wk hk; go_simp; exact ⟨rfl, rfl⟩)); refine hK _ _ ?_; clear hK K
  refine stepS _ rfl (by kernel_rfl) (fun K hK => ?_); go_simp
  refine ⟨?_, ?_⟩
  · exact sStoreO rfl rfl rfl rfl rfl rfl r0 id (by kernel_rfl) rfl (by kernel_rfl) (by decide) aggOf_congr
  rintro ⟨v1, lo1, hi1⟩ - - (rfl : v1 = undef)
  refine hK _ _ ?_; clear hK K
  refine stepKz rfl (fun K hK => ?_); go_simp
  apply Exists.intro; apply And.intro; (focus (intro wk hk; go_simp; exact ⟨rfl, rfl⟩)); refine hK _ _ ?_; clear hK K
  refine stepN ?_
  refine hQ _ _ ?_
  intro w9 hT hG hF
  have x0 : Row w9 w.heap.size 107 (#[.int .i64 0, .bool false, .int .i64 0, .bool false, .int .i64 0, .bool true]) := hF 1 _ rfl rfl (by decide)
  have hl9 := Lib.hid (hl.trans (hT.below_of hl.size (by intro c hc; have hc' : c = w.heap.size := hc; omega)))
  clear hT hG hF hQ QQ L hl r0
  go_wp2_with fail
  refine bodyPost_ret (results_ct rfl aggT107 rfl x0 rfl) rfl ?_
  exact ⟨by kernel_rfl, hl9.out⟩
set_option maxRecDepth 100000 in
set_option maxHeartbeats 4000000 in
theorem of_28 (w : World) : Calls Try.prog 131 #[.int .i64 28] w (OfP w 28) := by
  go_enter Try.func131, Try.ntmps131
  go_upto_region 21 with (fail)
  refine wp_abs (Mem w [(w.heap.size, 107, #[.int .i64 0, .bool false, .int .i64 0, .bool false, .int .i64 0, .bool false])]) ⟨by go_grown, by (repeat (first | (refine Row.new_at ?_; simp; done) | refine Row.alloc ?_ _)), trivial⟩ ?_
  intro w0 hM
  obtain ⟨hl, r0, -⟩ := hM
  let L : List Sp := [sO 1 (w.heap.size) 107 [0] (fun g => aggOf g 0)]
  refine wp_region_six0 (shs L) (look6 L) (fun c => c = w.heap.size) (by kernel_rfl) (by kernel_rfl) (mk_St L [1] [1] (by kernel_rfl) (by kernel_rfl) ⟨ok_O aggOf_congr r0.lt (rfl), trivial⟩ (by simp)) ?_
  intro QQ hQ
  refine stepK rfl (by kernel_rfl) (fun K hK => ?_); go_simp
  apply Exists.intro; apply And.intro; (focus (intro wk hk; go_simp; exact ⟨rfl, rfl⟩)); refine hK _ _ ?_; clear hK K
  refine stepS _ rfl (by kernel_rfl) (fun K hK => ?_); go_simp
  refine ⟨?_, ?_⟩
  · exact sStoreO rfl rfl rfl rfl rfl rfl r0 id (by kernel_rfl) rfl (by kernel_rfl) (by decide) aggOf_congr
  rintro ⟨v1, lo1, hi1⟩ - - (rfl : v1 = undef)
  refine hK _ _ ?_; clear hK K
  refine stepKz rfl (fun K hK => ?_); go_simp
  apply Exists.intro; apply And.intro; (focus (intro wk hk; go_simp; exact ⟨rfl, rfl⟩)); refine hK _ _ ?_; clear hK K
  refine stepN ?_
  refine hQ _ _ ?_
  intro w9 hT hG hF
  have x0 : Row w9 w.heap.size 107 (#[.int .i64 2, .bool false, .int .i64 0, .bool false, .int .i64 0, .bool false]) := hF 1 _ rfl rfl (by decide)
  have hl9 := Lib.hid (hl.trans (hT.below_of hl.size (by intro c hc; have hc' : c = w.heap.size := hc; omega)))
  clear hT hG hF hQ QQ L hl r0
  go_wp2_with fail
  refine bodyPost_ret (results_ct rfl aggT107 rfl x0 rfl) rfl ?_
  exact ⟨by kernel_rfl, hl9.out⟩
set_option maxRecDepth 100000 in
set_option maxHeartbeats 16000000 in
theorem of_no (k : Int) (hk : k < 1 ∨ 28 < k) (w : World) : Calls Try.prog 131 #[.int .i64 k] w (OfP w k) := by
  have h1 : shpOf k = shpZ := by unfold shpOf; rw [if_neg (by omega)]
  have h2 : okK k = false := by
    unfold okK
    rcases hk with h | h
    · rw [decide_eq_false (by omega : ¬ 1 ≤ k), Bool.false_and]
    · rw [decide_eq_false (by omega : ¬ k ≤ 28), Bool.and_false]
  have q1 : (k == 1) = false := by rw [beq_eq_false_iff_ne]; omega
  have q2 : (k == 2) = false := by rw [beq_eq_false_iff_ne]; omega
  have q3 : (k == 3) = false := by rw [beq_eq_false_iff_ne]; omega
  have q4 : (k == 4) = false := by rw [beq_eq_false_iff_ne]; omega
  have q5 : (k == 5) = false := by rw [beq_eq_false_iff_ne]; omega
  have q6 : (k == 6) = false := by rw [beq_eq_false_iff_ne]; omega
  have q7 : (k == 7) = false := by rw [beq_eq_false_iff_ne]; omega
  have q8 : (k == 8) = false := by rw [beq_eq_false_iff_ne]; omega
  have q9 : (k == 9) = false := by rw [beq_eq_false_iff_ne]; omega
  have q10 : (k == 10) = false := by rw [beq_eq_false_iff_ne]; omega
  have q11 : (k == 11) = false := by rw [beq_eq_false_iff_ne]; omega
  have q12 : (k == 12) = false := by rw [beq_eq_false_iff_ne]; omega
  have q13 : (k == 13) = false := by rw [beq_eq_false_iff_ne]; omega
  have q14 : (k == 14) = false := by rw [beq_eq_false_iff_ne]; omega
  have q15 : (k == 15) = false := by rw [beq_eq_false_iff_ne]; omega
  have q16 : (k == 16) = false := by rw [beq_eq_false_iff_ne]; omega
  have q17 : (k == 17) = false := by rw [beq_eq_false_iff_ne]; omega
  have q18 : (k == 18) = false := by rw [beq_eq_false_iff_ne]; omega
  have q19 : (k == 19) = false := by rw [beq_eq_false_iff_ne]; omega
  have q20 : (k == 20) = false := by rw [beq_eq_false_iff_ne]; omega
  have q21 : (k == 21) = false := by rw [beq_eq_false_iff_ne]; omega
  have q22 : (k == 22) = false := by rw [beq_eq_false_iff_ne]; omega
  have q23 : (k == 23) = false := by rw [beq_eq_false_iff_ne]; omega
  have q24 : (k == 24) = false := by rw [beq_eq_false_iff_ne]; omega
  have q25 : (k == 25) = false := by rw [beq_eq_false_iff_ne]; omega
  have q26 : (k == 26) = false := by rw [beq_eq_false_iff_ne]; omega
  have q27 : (k == 27) = false := by rw [beq_eq_false_iff_ne]; omega
  have q28 : (k == 28) = false := by rw [beq_eq_false_iff_ne]; omega
  have HH := Lib.hid (show _ ∧ _ from ⟨h1, h2⟩)
  clear h1 h2 hk
  go_enter Try.func131, Try.ntmps131
  go_upto_region 41 with (fail)
  refine wp_abs (Mem w [(w.heap.size, 107, #[.int .i64 0, .bool false, .int .i64 0, .bool false, .int .i64 0, .bool false])]) ⟨by go_grown, by (repeat (first | (refine Row.new_at ?_; simp; done) | refine Row.alloc ?_ _)), trivial⟩ ?_
  intro w0 hM
  obtain ⟨hl, r0, -⟩ := hM
  let L : List Sp := [sO 1 (w.heap.size) 107 [0] (fun g => aggOf g 0)]
  refine wp_region_six0 (shs L) (look6 L) (fun c => c = w.heap.size) (by kernel_rfl) (by kernel_rfl) (mk_St L [1] [1] (by kernel_rfl) (by kernel_rfl) ⟨ok_O aggOf_congr r0.lt (rfl), trivial⟩ (by simp)) ?_
  intro QQ hQ
  refine stepK rfl (by kernel_rfl) (fun K hK => ?_); go_simp
  apply Exists.intro; apply And.intro; (focus (intro wk hk; go_simp; exact ⟨rfl, rfl⟩)); refine hK _ _ ?_; clear hK K
  refine stepS _ rfl (by kernel_rfl) (fun K hK => ?_); go_simp
  refine ⟨?_, ?_⟩
  · exact sStoreO rfl rfl rfl rfl rfl rfl r0 id (by kernel_rfl) rfl (by kernel_rfl) (by decide) aggOf_congr
  rintro ⟨v1, lo1, hi1⟩ - - (rfl : v1 = undef)
  refine hK _ _ ?_; clear hK K
  refine stepKz rfl (fun K hK => ?_); go_simp
  apply Exists.intro; apply And.intro; (focus (intro wk hk; go_simp; exact ⟨rfl, rfl⟩)); refine hK _ _ ?_; clear hK K
  refine stepN ?_
  refine hQ _ _ ?_
  intro w9 hT hG hF
  have x0 : Row w9 w.heap.size 107 (#[.int .i64 0, .bool false, .int .i64 0, .bool false, .int .i64 0, .bool false]) := hF 1 _ rfl rfl (by decide)
  have hl9 := Lib.hid (hl.trans (hT.below_of hl.size (by intro c hc; have hc' : c = w.heap.size := hc; omega)))
  clear hT hG hF hQ QQ L hl r0 q1 q2 q3 q4 q5 q6 q7 q8 q9 q10 q11 q12 q13 q14 q15 q16 q17 q18 q19 q20 q21 q22 q23 q24 q25 q26 q27 q28
  go_wp2_with fail
  refine bodyPost_ret (results_ct rfl aggT107 rfl x0 rfl) rfl ?_
  exact ⟨by rw [HH.out.1, HH.out.2]; rfl, hl9.out⟩
theorem txof_any (k : Int) (w : World) : Calls Try.prog 131 #[.int .i64 k] w (OfP w k) := by
  by_cases h : k < 1 ∨ 28 < k
  · exact of_no k h w
  · have h2 : k = 1 ∨ k = 2 ∨ k = 3 ∨ k = 4 ∨ k = 5 ∨ k = 6 ∨ k = 7 ∨ k = 8 ∨ k = 9 ∨ k = 10 ∨ k = 11 ∨ k = 12 ∨ k = 13 ∨ k = 14 ∨ k = 15 ∨ k = 16 ∨ k = 17 ∨ k = 18 ∨ k = 19 ∨ k = 20 ∨ k = 21 ∨ k = 22 ∨ k = 23 ∨ k = 24 ∨ k = 25 ∨ k = 26 ∨ k = 27 ∨ k = 28 := by omega
    rcases h2 with rfl | rfl | rfl | rfl | rfl | rfl | rfl | rfl | rfl | rfl | rfl | rfl | rfl | rfl | rfl | rfl | rfl | rfl | rfl | rfl | rfl | rfl | rfl | rfl | rfl | rfl | rfl | rfl
    · exact of_1 w
    · exact of_2 w
    · exact of_3 w
    · exact of_4 w
    · exact of_5 w
    · exact of_6 w
    · exact of_7 w
    · exact of_8 w
    · exact of_9 w
    · exact of_10 w
    · exact of_11 w
    · exact of_12 w
    · exact of_13 w
    · exact of_14 w
    · exact of_15 w
    · exact of_16 w
    · exact of_17 w
    · exact of_18 w
    · exact of_19 w
    · exact of_20 w
    · exact of_21 w
    · exact of_22 w
    · exact of_23 w
    · exact of_24 w
    · exact of_25 w
    · exact of_26 w
    · exact of_27 w
    · exact of_28 w
set_option maxRecDepth 100000 in
set_option maxHeartbeats 4000000 in
theorem within_at (n lo hi : Int) (w : World) : Calls Try.prog 207 #[.int .i64 n, .int .i64 lo, .int .i64 hi] w fun r w' => r = .returned (.bool (decide (lo ≤ n ∧ n ≤ hi))) ∧ Below w.heap.size w w' := by
  by_cases h1 : lo ≤ n
  · by_cases h2 : n ≤ hi
    · rw [decide_eq_true ⟨h1, h2⟩]
      go_enter Try.func207, Try.ntmps207
      go_wp2_with fail
      go_ret
      exact ⟨by first | rfl | (simp; done), Below.refl _ _⟩
    · rw [decide_eq_false (fun h => h2 h.2)]
      go_enter Try.func207, Try.ntmps207
      go_wp2_with fail
      go_ret
      exact ⟨by first | rfl | (simp; done), Below.refl _ _⟩
  · rw [decide_eq_false (fun h => h1 h.1)]
    go_enter Try.func207, Try.ntmps207
    go_wp2_with fail
    go_ret
    exact ⟨by first | rfl | (simp; done), Below.refl _ _⟩
set_option maxRecDepth 100000 in
set_option maxHeartbeats 4000000 in
theorem rwithin_at (n lo hi : Int) (w : World) : Calls Try.prog 242 #[.int .i64 n, .int .i64 lo, .int .i64 hi] w fun r w' => r = .returned (.bool (decide (lo ≤ n ∧ n ≤ hi))) ∧ Below w.heap.size w w' := by
  by_cases h1 : lo ≤ n
  · by_cases h2 : n ≤ hi
    · rw [decide_eq_true ⟨h1, h2⟩]
      go_enter Try.func242, Try.ntmps242
      go_wp2_with fail
      go_ret
      exact ⟨by first | rfl | (simp; done), Below.refl _ _⟩
    · rw [decide_eq_false (fun h => h2 h.2)]
      go_enter Try.func242, Try.ntmps242
      go_wp2_with fail
      go_ret
      exact ⟨by first | rfl | (simp; done), Below.refl _ _⟩
  · rw [decide_eq_false (fun h => h1 h.1)]
    go_enter Try.func242, Try.ntmps242
    go_wp2_with fail
    go_ret
    exact ⟨by first | rfl | (simp; done), Below.refl _ _⟩
end Go.Proofs.Ytpdenhmkpiafiaa
namespace Go.Proofs.Ytpdenhmkpiafiaa
open Go Go.RowKit K6
def M2 : Nat := 340282366920938463463374607431768211456
theorem amount_bits {a : Nat} (ha : a < M) : (bits .or .u64 (wordsOf a 2) (wordsOf a 3) == 0) = decide (a < M2) := by
  unfold wordsOf
  rw [u64_or_nat _ _ (Nat.mod_lt _ (by decide)) (Nat.mod_lt _ (by decide)), Bool.eq_iff_iff]
  simp only [beq_iff_eq, decide_eq_true_eq]
  have e : ((a / 2 ^ (64 * 2) % 2 ^ 64 ||| a / 2 ^ (64 * 3) % 2 ^ 64 : Nat) : Int) = 0 ↔ a / 2 ^ (64 * 2) % 2 ^ 64 = 0 ∧ a / 2 ^ (64 * 3) % 2 ^ 64 = 0 := by
    rw [Int.natCast_eq_zero, Nat.or_eq_zero_iff]
  rw [e]
  unfold M at ha
  unfold M2
  omega
set_option maxRecDepth 100000 in
set_option maxHeartbeats 4000000 in
theorem amountU {a : Nat} (ha : a < M) (w : World) : Calls Try.prog 105 #[.agg (W4 a)] w (Ret w (.bool (decide (a < M2)))) := by
  have hb := amount_bits ha
  obtain ⟨x2, h2⟩ : ∃ x, x = wordsOf a 2 := ⟨_, rfl⟩
  obtain ⟨x3, h3⟩ : ∃ x, x = wordsOf a 3 := ⟨_, rfl⟩
  rw [← h2, ← h3] at hb
  go_enter Try.func105, Try.ntmps105
  apply wp_seq_eq
  focus
    intro J hJ
    go_wp2_with fail
    exact hJ
  refine wp_abs (Mem w [(w.heap.size, 31, W4 a)]) ⟨by go_grown, ?_, trivial⟩ ?_
  · repeat (first | (refine Row.new_at ?_; simp; done) | refine Row.alloc ?_ _)
  intro w0 hM
  obtain ⟨hl, ra, -⟩ := hM
  go_upto_region 1 with (fail)
  have c2 : w0.cell? ⟨w.heap.size, 2, none⟩ = some (.int .u64 x2) := by rw [h2]; exact ra.cell 2
  have c3 : w0.cell? ⟨w.heap.size, 3, none⟩ = some (.int .u64 x3) := by rw [h3]; exact ra.cell 3
  go_wp2_with fail
  go_ret
  exact ⟨by rw [← hb, h2, h3]; rfl, hl⟩
end Go.Proofs.Ytpdenhmkpiafiaa
namespace Go.Proofs.Ytpdenhmkpiafiaa
open Go Go.RowKit K6
def okA (a : Nat) : Bool := decide (a < M2)
def okLf (x : Lf) : Bool := decide (0 ≤ x.i ∧ x.i ≤ 4294967295) && (decide (0 ≤ x.t ∧ x.t ≤ 4294967295) && (decide (x.p.length ≤ 10) && okA x.a))
theorem all_not {α : Type} {f : α → Bool} {l : List α} {i : Nat} {x : α} (hx : l[i]? = some x) (h : f x = false) : l.all f = false := by
  cases hk : l.all f with
  | false => rfl
  | true =>
    have := List.all_eq_true.1 hk x (List.mem_of_getElem? hx)
    rw [h] at this
    cases this
theorem all_all {α : Type} {f : α → Bool} {l : List α} (hk : ∀ (j : Nat) (x : α), j < l.length → l[j]? = some x → f x = true) : l.all f = true := by
  refine List.all_eq_true.2 fun x hx => ?_
  obtain ⟨j, hj, rfl⟩ := List.mem_iff_getElem.1 hx
  exact hk j _ hj (List.getElem?_eq_getElem hj)
set_option maxRecDepth 100000 in
set_option maxHeartbeats 4000000 in
theorem good1_at (a : Nat) (ha : a < M) (w : World) : Calls Try.prog 210 #[.agg (W4 a)] w fun r w' => r = .returned (.bool (!okA a)) ∧ Below w.heap.size w w' := by
  have ka := fun wx => amountU ha wx
  unfold okA
  obtain ⟨b, hb⟩ : ∃ b, decide (a < M2) = b := ⟨_, rfl⟩
  obtain ⟨y0, y1, y2, y3, hW⟩ : ∃ y0 y1 y2 y3 : Int, W4 a = #[.int .u64 y0, .int .u64 y1, .int .u64 y2, .int .u64 y3] := ⟨_, _, _, _, rfl⟩
  simp only [hb, hW] at ka ⊢
  replace ka := Lib.hid ka
  clear ha hb hW
  go_enter Try.func210, Try.ntmps210
  go_upto_region 1 with (fail)
  refine wp_abs (Mem w [(w.heap.size, 31, #[.int .u64 y0, .int .u64 y1, .int .u64 y2, .int .u64 y3])]) ⟨by go_grown, by (repeat (first | (refine Row.new_at ?_; simp; done) | refine Row.alloc ?_ _)), trivial⟩ ?_
  intro w0 hM
  obtain ⟨hl, r1, -⟩ := hM
  have d0 := r1.cell 0
  have d1 := r1.cell 1
  have d2 := r1.cell 2
  have d3 := r1.cell 3
  have HL := Lib.hid hl
  clear hl r1
  go_wp2_with fail
  refine (ka.out _).mono ?_
  rintro e w1 ⟨rfl, hb⟩
  have H1 := Lib.hid (HL.out.trans (hb.mono HL.out.size))
  clear ka hb HL d0 d1 d2 d3
  cases b <;>
  · go_wp2_with fail
    go_ret
    exact ⟨by first | rfl | (simp; done), H1.out⟩
set_option maxRecDepth 100000 in
set_option maxHeartbeats 16000000 in
theorem goodA_idx (v : Value) (l : List Nat) (w : World) (h : Us w v l) (hM : ∀ a ∈ l, a < M) (hE : l.length ≤ 1000) :
    Calls Try.prog 236 #[v, .func (.func 210) #[] #[]] w (IdxP (l.all okA) w) := by
  have HC := Lib.hid h
  obtain ⟨q, c, rfl, -⟩ := h
  obtain ⟨m, hm⟩ : ∃ m, l.length = m := ⟨_, rfl⟩
  rw [hm] at HC ⊢
  have hmi : (m : Int) ≤ 1000 := by omega
  go_enter Try.func236, Try.ntmps236
  go_wp2_with fail
  go_loopg [5, 8] m (fun gg s5 s8 wr => ∃ i : Nat, i + gg = m ∧ s8 = .int .i64 (i : Int) ∧ Hid (∀ (j : Nat) (x : Nat), j < i → l[j]? = some x → okA x = true) ∧ Hid (Below w.heap.size w wr))
  case atStart => exact ⟨0, by omega, rfl, Lib.hid (fun j e h => absurd h (Nat.not_lt_zero j)), Lib.hid (Below.refl _ _)⟩
  case round =>
    obtain ⟨i, him, rfl, hall, hinv⟩ := hrel
    by_cases hi : i < m
    · obtain ⟨x, hx⟩ : ∃ x, l[i]? = some x := ⟨_, List.getElem?_eq_getElem (by omega)⟩
      obtain ⟨g, o, c', hu, hg, hcs⟩ := (HC.out.below hinv.out).elem hx
      simp only [Value.slice.injEq] at hu
      obtain ⟨rfl, -, -⟩ := hu
      have kb := fun wx (hbw : Below w.heap.size w wx) => good1_at x (hM x (List.mem_of_getElem? hx)) wx
      obtain ⟨b, hb⟩ : ∃ b, okA x = b := ⟨_, rfl⟩
      simp only [hb] at kb
      replace kb := Lib.hid kb
      have he' := Lib.hid (show _ ∧ _ from ⟨hx, hb⟩)
      clear hx hb
      have hlt : (i : Int) < (m : Int) := by omega
      go_upto_region 4 with (fail)
      let L : List Sp := [sV 5 [] [] (fun u => u = .bool (!b))]
      refine wp_region_six0 (shs L) (look6 L) (None_) (by kernel_rfl) (by kernel_rfl) (mk_St L [] [] (by kernel_rfl) (by kernel_rfl) ⟨ok_V ⟨_, rfl⟩, trivial⟩ (by simp)) ?_
      intro QQ hQ
      refine stepK rfl (by kernel_rfl) (fun K hK => ?_); go_simp
      apply Exists.intro; apply And.intro; (focus (intro wk hk; go_simp; exact ⟨rfl, rfl⟩)); refine hK _ _ ?_; clear hK K
      refine stepK rfl (by kernel_rfl) (fun K hK => ?_); go_simp
      apply Exists.intro; apply And.intro; (focus (intro wk hk; go_simp; exact ⟨rfl, rfl⟩)); refine hK _ _ ?_; clear hK K
      refine stepK rfl (by kernel_rfl) (fun K hK => ?_); go_simp
      apply Exists.intro; apply And.intro; (focus (intro wk hk; go_simp; exact ⟨rfl, rfl⟩)); refine hK _ _ ?_; clear hK K
      refine stepK rfl (by kernel_rfl) (fun K hK => ?_); go_simp
      apply Exists.intro; apply And.intro; (focus (intro wk hk; go_simp; exact ⟨rfl, rfl⟩)); refine hK _ _ ?_; clear hK K
      refine stepK rfl (by kernel_rfl) (fun K hK => ?_); go_simp
      apply Exists.intro; apply And.intro; (focus exact kLoadE rfl rfl aggT31 hcs rfl hg id); refine hK _ _ ?_; clear hK K
      refine stepS _ rfl (by kernel_rfl) (fun K hK => ?_); go_simp
      refine ⟨?_, ?_⟩
      · intro wk hk hg hu; go_simp; refine upon_enter ((kb.out _ (hinv.out.trans (hk.below.mono hinv.out.size))).mono ?_); rintro e w' ⟨rfl, hb⟩; exact ⟨_, rfl, left_V (p := fun u => u = .bool (!b)) rfl (hb) rfl⟩
      rintro ⟨v5, lo5, hi5⟩ - - (rfl : v5 = _)
      refine hK _ _ ?_; clear hK K
      refine stepN ?_
      refine hQ _ _ ?_
      intro w1 hT hG hF
      have hl1 := Lib.hid (hinv.out.trans (hT.below.mono hinv.out.size))
      clear hT hG hF hQ QQ L hinv hcs kb
      cases b
      · go_wp2_with fail
        go_ret
        unfold IdxP
        exact ⟨_, rfl, (fun h => by rw [all_not he'.out.1 he'.out.2] at h; cases h), (fun _ => by omega), hl1.out⟩
      · go_wp2_with fail
        go_roundg (gk - 1)
        case measure => omega
        case rel =>
          refine ⟨i + 1, by omega, by go_num, Lib.hid fun j e hj hje => ?_, hl1⟩
          rcases Nat.lt_or_ge j i with h | h
          · exact hall.out j e h hje
          · obtain rfl : j = i := by omega
            have h1 := he'.out.1.symm.trans hje
            injection h1 with h1
            rw [← h1]
            exact he'.out.2
    · obtain rfl : i = m := by omega
      have hlt : ¬ (i : Int) < (i : Int) := by omega
      go_wp2_with fail
      go_ret
      unfold IdxP
      exact ⟨-1, rfl, (fun _ => rfl), (fun h => by rw [all_all (fun j e hj hje => hall.out j e (by omega) hje)] at h; cases h), hinv.out⟩
set_option maxRecDepth 100000 in
set_option maxHeartbeats 16000000 in
theorem goodA_cont (v : Value) (l : List Nat) (w : World) (h : Us w v l) (hM : ∀ a ∈ l, a < M) (hE : l.length ≤ 1000) :
    Calls Try.prog 209 #[v, .func (.func 210) #[] #[]] w fun r w' => r = .returned (.bool (!l.all okA)) ∧ Below w.heap.size w w' := by
  have K := Lib.hid (goodA_idx v l w h hM hE)
  obtain ⟨b, hb⟩ : ∃ b, l.all okA = b := ⟨_, rfl⟩
  rw [hb] at K ⊢
  clear h hE hb
  go_enter Try.func209, Try.ntmps209
  go_wp2_with fail
  refine K.out.mono ?_
  rintro e w1 ⟨n, rfl, hn, hn', hb⟩
  clear K
  cases b
  · have hge : (0 : Int) ≤ n := hn' rfl
    clear hn hn'
    go_wp2_with fail
    go_ret
    exact ⟨by first | rfl | (simp; done), hb⟩
  · obtain rfl : n = -1 := hn rfl
    clear hn hn'
    go_wp2_with fail
    go_ret
    exact ⟨by first | rfl | (simp; done), hb⟩
set_option maxRecDepth 100000 in
set_option maxHeartbeats 16000000 in
theorem goodLeaf_at (x : Lf) (w : World) (hx : x.a < M) (hL : x.p.length ≤ 140737488355328) :
    Calls Try.prog 239 #[.agg (lfc x).toArray] w fun r w' => r = .returned (.bool (okLf x)) ∧ Below w.heap.size w w' := by
  have ka := fun wx => amountU hx wx
  have k1 := fun wx => within_at x.i 0 4294967295 wx
  have k2 := fun wx => within_at x.t 0 4294967295 wx
  have hok : okLf x = (decide (0 ≤ x.i ∧ x.i ≤ 4294967295) && (decide (0 ≤ x.t ∧ x.t ≤ 4294967295) && (decide (x.p.length ≤ 10) && decide (x.a < M2)))) := rfl
  obtain ⟨b1, hb1⟩ : ∃ b, decide (0 ≤ x.i ∧ x.i ≤ 4294967295) = b := ⟨_, rfl⟩
  obtain ⟨b2, hb2⟩ : ∃ b, decide (0 ≤ x.t ∧ x.t ≤ 4294967295) = b := ⟨_, rfl⟩
  obtain ⟨b4, hb4⟩ : ∃ b, decide (x.a < M2) = b := ⟨_, rfl⟩
  simp only [hb1] at k1
  simp only [hb2] at k2
  simp only [hb4] at ka
  rw [hb1, hb2, hb4] at hok
  obtain ⟨y0, y1, y2, y3, hW⟩ : ∃ y0 y1 y2 y3 : Int, W4 x.a = #[.int .u64 y0, .int .u64 y1, .int .u64 y2, .int .u64 y3] := ⟨_, _, _, _, rfl⟩
  have hcsW : (lfc x).toArray = #[.int .i64 x.i, .int .i64 x.t, .int .u64 y0, .int .u64 y1, .int .u64 y2, .int .u64 y3, .slice x.pq x.p.length x.pc] := by unfold lfc Lf.pv; rw [hW]; rfl
  simp only [hW] at ka
  rw [hcsW, hok]
  obtain ⟨xi, hxi⟩ : ∃ n, x.i = n := ⟨_, rfl⟩
  obtain ⟨xt, hxt⟩ : ∃ n, x.t = n := ⟨_, rfl⟩
  obtain ⟨np, hnp⟩ : ∃ n, x.p.length = n := ⟨_, rfl⟩
  obtain ⟨pq, hpq⟩ : ∃ n, x.pq = n := ⟨_, rfl⟩
  obtain ⟨pc, hpc⟩ : ∃ n, x.pc = n := ⟨_, rfl⟩
  simp only [hxi] at k1
  simp only [hxt] at k2
  rw [hxi, hxt, hnp, hpq, hpc]
  rw [hnp] at hL
  replace ka := Lib.hid ka
  replace k1 := Lib.hid k1
  replace k2 := Lib.hid k2
  clear hx hok hb1 hb2 hb4 hW hcsW hxi hxt hnp hpq hpc
  have hcase : ((np : Int) ≤ 10 ∧ decide (np ≤ 10) = true) ∨ (¬ (np : Int) ≤ 10 ∧ decide (np ≤ 10) = false) := by
    by_cases h : np ≤ 10
    · exact .inl ⟨by omega, decide_eq_true h⟩
    · exact .inr ⟨by omega, decide_eq_false h⟩
  have hni : (np : Int) ≤ 140737488355328 := by omega
  clear hL
  go_enter Try.func239, Try.ntmps239
  go_upto_region 1 with (fail)
  refine wp_abs (Mem w [(w.heap.size, 198, #[.int .i64 xi, .int .i64 xt, .int .u64 y0, .int .u64 y1, .int .u64 y2, .int .u64 y3, .slice pq np pc])]) ⟨by go_grown, by (repeat (first | (refine Row.new_at ?_; simp; done) | refine Row.alloc ?_ _)), trivial⟩ ?_
  intro w0 hM
  obtain ⟨hl, r1, -⟩ := hM
  have HL := Lib.hid (show _ ∧ _ from ⟨hl, r1⟩)
  have d0 := r1.cell 0
  clear hl r1
  go_wp2_with fail
  refine (k1.out _).mono ?_
  rintro e w1 ⟨rfl, hb⟩
  have H1 := Lib.hid (show _ ∧ _ from ⟨HL.out.1.trans (hb.mono HL.out.1.size), HL.out.2.below hb HL.out.2.lt⟩)
  clear k1 hb HL d0
  cases b1
  · clear ka k2 hcase
    go_wp2_with fail
    go_ret
    exact ⟨by first | rfl | (simp; done), H1.out.1⟩
  have d1 := H1.out.2.cell 1
  go_wp2_with fail
  refine (k2.out _).mono ?_
  rintro e w2 ⟨rfl, hb⟩
  have H2 := Lib.hid (show _ ∧ _ from ⟨H1.out.1.trans (hb.mono H1.out.1.size), H1.out.2.below hb H1.out.2.lt⟩)
  clear k2 hb H1 d1
  cases b2
  · clear ka hcase
    go_wp2_with fail
    go_ret
    exact ⟨by first | rfl | (simp; done), H2.out.1⟩
  have d6 := H2.out.2.cell 6
  rcases hcase with ⟨h10, hd⟩ | ⟨h10, hd⟩
  · have d2 := H2.out.2.cell 2
    have d3 := H2.out.2.cell 3
    have d4 := H2.out.2.cell 4
    have d5 := H2.out.2.cell 5
    have HD := Lib.hid hd
    clear hd
    go_wp2_with fail
    refine (ka.out _).mono ?_
    rintro e w3 ⟨rfl, hb⟩
    have H3 := Lib.hid (H2.out.1.trans (hb.mono H2.out.1.size))
    clear ka hb H2 d2 d3 d4 d5 d6
    go_wp2_with fail
    go_ret
    exact ⟨by rw [HD.out]; cases b4 <;> rfl, H3.out⟩
  · have HD := Lib.hid hd
    clear hd ka
    go_wp2_with fail
    go_ret
    exact ⟨by rw [HD.out]; rfl, H2.out.1⟩
set_option maxRecDepth 100000 in
set_option maxHeartbeats 16000000 in
theorem goodLf1_at (x : Lf) (w : World) (hx : x.a < M) (hL : x.p.length ≤ 140737488355328) :
    Calls Try.prog 238 #[.agg (lfc x).toArray] w fun r w' => r = .returned (.bool (!okLf x)) ∧ Below w.heap.size w w' := by
  have ka := Lib.hid fun wx => goodLeaf_at x wx hx hL
  obtain ⟨b, hb⟩ : ∃ b, okLf x = b := ⟨_, rfl⟩
  rw [hb] at ka ⊢
  clear hb hx hL
  go_enter Try.func238, Try.ntmps238
  go_upto_region 1 with (fail)
  refine wp_abs (Mem w [(w.heap.size, 198, (lfc x).toArray)]) ⟨by go_grown, by (repeat (first | (refine Row.new_at ?_; simp; done) | refine Row.alloc ?_ _)), trivial⟩ ?_
  intro w0 hM
  obtain ⟨hl, r1, -⟩ := hM
  let L : List Sp := [sV 1 [] [] (fun u => u = .bool b)]
  refine wp_region_six0 (shs L) (look6 L) (None_) (by kernel_rfl) (by kernel_rfl) (mk_St L [] [] (by kernel_rfl) (by kernel_rfl) ⟨ok_V ⟨_, rfl⟩, trivial⟩ (by simp)) ?_
  intro QQ hQ
  refine stepK rfl (by kernel_rfl) (fun K hK => ?_); go_simp
  apply Exists.intro; apply And.intro; (focus exact kLoad rfl rfl aggT198 r1 (lfc_len x) id); refine hK _ _ ?_; clear hK K
  refine stepS _ rfl (by kernel_rfl) (fun K hK => ?_); go_simp
  refine ⟨?_, ?_⟩
  · intro wk hk hg hu; go_simp; refine upon_enter ((ka.out _).mono ?_); rintro e w' ⟨rfl, hb⟩; exact ⟨_, rfl, left_V (p := fun u => u = .bool b) rfl (hb) rfl⟩
  rintro ⟨v1, lo1, hi1⟩ - - (rfl : v1 = _)
  refine hK _ _ ?_; clear hK K
  refine stepK rfl (by kernel_rfl) (fun K hK => ?_); go_simp
  apply Exists.intro; apply And.intro; (focus (intro wk hk; go_simp; exact ⟨rfl, rfl⟩)); refine hK _ _ ?_; clear hK K
  refine stepK rfl (by kernel_rfl) (fun K hK => ?_); go_simp
  apply Exists.intro; apply And.intro; (focus (intro wk hk; go_simp; exact ⟨rfl, rfl⟩)); refine hK _ _ ?_; clear hK K
  refine stepN ?_
  refine hQ _ _ ?_
  intro w9 hT hG hF
  have H9 := Lib.hid (hl.trans (hT.below.mono hl.size))
  clear hT hG hF hQ QQ L hl r1 ka
  go_wp2_with fail
  go_ret
  exact ⟨by first | rfl | (simp; done), H9.out⟩
set_option maxRecDepth 100000 in
set_option maxHeartbeats 16000000 in
theorem goodL_idx (v : Value) (l : List Lf) (w : World) (h : Ls w v l) (hpl : ∀ x ∈ l, x.p.length ≤ 140737488355328) (hE : l.length ≤ 1000) :
    Calls Try.prog 255 #[v, .func (.func 238) #[] #[]] w (IdxP (l.all okLf) w) := by
  have HC := Lib.hid h
  obtain ⟨q, c, rfl, -⟩ := h.1
  obtain ⟨m, hm⟩ : ∃ m, l.length = m := ⟨_, rfl⟩
  rw [hm] at HC ⊢
  have hmi : (m : Int) ≤ 1000 := by omega
  go_enter Try.func255, Try.ntmps255
  go_wp2_with fail
  go_loopg [5, 8] m (fun gg s5 s8 wr => ∃ i : Nat, i + gg = m ∧ s8 = .int .i64 (i : Int) ∧ Hid (∀ (j : Nat) (x : Lf), j < i → l[j]? = some x → okLf x = true) ∧ Hid (Below w.heap.size w wr))
  case atStart => exact ⟨0, by omega, rfl, Lib.hid (fun j e h => absurd h (Nat.not_lt_zero j)), Lib.hid (Below.refl _ _)⟩
  case round =>
    obtain ⟨i, him, rfl, hall, hinv⟩ := hrel
    by_cases hi : i < m
    · obtain ⟨x, hx⟩ : ∃ x, l[i]? = some x := ⟨_, List.getElem?_eq_getElem (by omega)⟩
      obtain ⟨g, o, c', hu, hg, hcs⟩ := (HC.out.below hinv.out).1.get hx
      simp only [Value.slice.injEq] at hu
      obtain ⟨rfl, -, -⟩ := hu
      have kb := fun wx (hbw : Below w.heap.size w wx) => goodLf1_at x wx (HC.out.2 x (List.mem_of_getElem? hx)).a (hpl x (List.mem_of_getElem? hx))
      obtain ⟨b, hb⟩ : ∃ b, okLf x = b := ⟨_, rfl⟩
      simp only [hb] at kb
      replace kb := Lib.hid kb
      have he' := Lib.hid (show _ ∧ _ from ⟨hx, hb⟩)
      clear hx hb
      have hlt : (i : Int) < (m : Int) := by omega
      go_upto_region 4 with (fail)
      let L : List Sp := [sV 5 [] [] (fun u => u = .bool (!b))]
      refine wp_region_six0 (shs L) (look6 L) (None_) (by kernel_rfl) (by kernel_rfl) (mk_St L [] [] (by kernel_rfl) (by kernel_rfl) ⟨ok_V ⟨_, rfl⟩, trivial⟩ (by simp)) ?_
      intro QQ hQ
      refine stepK rfl (by kernel_rfl) (fun K hK => ?_); go_simp
      apply Exists.intro; apply And.intro; (focus (intro wk hk; go_simp; exact ⟨rfl, rfl⟩)); refine hK _ _ ?_; clear hK K
      refine stepK rfl (by kernel_rfl) (fun K hK => ?_); go_simp
      apply Exists.intro; apply And.intro; (focus (intro wk hk; go_simp; exact ⟨rfl, rfl⟩)); refine hK _ _ ?_; clear hK K
      refine stepK rfl (by kernel_rfl) (fun K hK => ?_); go_simp
      apply Exists.intro; apply And.intro; (focus (intro wk hk; go_simp; exact ⟨rfl, rfl⟩)); refine hK _ _ ?_; clear hK K
      refine stepK rfl (by kernel_rfl) (fun K hK => ?_); go_simp
      apply Exists.intro; apply And.intro; (focus (intro wk hk; go_simp; exact ⟨rfl, rfl⟩)); refine hK _ _ ?_; clear hK K
      refine stepK rfl (by kernel_rfl) (fun K hK => ?_); go_simp
      apply Exists.intro; apply And.intro; (focus exact kLoadE rfl rfl aggT198 hcs (lfc_len x) hg id); refine hK _ _ ?_; clear hK K
      refine stepS _ rfl (by kernel_rfl) (fun K hK => ?_); go_simp
      refine ⟨?_, ?_⟩
      · intro wk hk hg hu; go_simp; refine upon_enter ((kb.out _ (hinv.out.trans (hk.below.mono hinv.out.size))).mono ?_); rintro e w' ⟨rfl, hb⟩; exact ⟨_, rfl, left_V (p := fun u => u = .bool (!b)) rfl (hb) rfl⟩
      rintro ⟨v5, lo5, hi5⟩ - - (rfl : v5 = _)
      refine hK _ _ ?_; clear hK K
      refine stepN ?_
      refine hQ _ _ ?_
      intro w1 hT hG hF
      have hl1 := Lib.hid (hinv.out.trans (hT.below.mono hinv.out.size))
      clear hT hG hF hQ QQ L hinv hcs kb
      cases b
      · go_wp2_with fail
        go_ret
        unfold IdxP
        exact ⟨_, rfl, (fun h => by rw [all_not he'.out.1 he'.out.2] at h; cases h), (fun _ => by omega), hl1.out⟩
      · go_wp2_with fail
        go_roundg (gk - 1)
        case measure => omega
        case rel =>
          refine ⟨i + 1, by omega, by go_num, Lib.hid fun j e hj hje => ?_, hl1⟩
          rcases Nat.lt_or_ge j i with h | h
          · exact hall.out j e h hje
          · obtain rfl : j = i := by omega
            have h1 := he'.out.1.symm.trans hje
            injection h1 with h1
            rw [← h1]
            exact he'.out.2
    · obtain rfl : i = m := by omega
      have hlt : ¬ (i : Int) < (i : Int) := by omega
      go_wp2_with fail
      go_ret
      unfold IdxP
      exact ⟨-1, rfl, (fun _ => rfl), (fun h => by rw [all_all (fun j e hj hje => hall.out j e (by omega) hje)] at h; cases h), hinv.out⟩
set_option maxRecDepth 100000 in
set_option maxHeartbeats 16000000 in
theorem goodL_cont (v : Value) (l : List Lf) (w : World) (h : Ls w v l) (hpl : ∀ x ∈ l, x.p.length ≤ 140737488355328) (hE : l.length ≤ 1000) :
    Calls Try.prog 237 #[v, .func (.func 238) #[] #[]] w fun r w' => r = .returned (.bool (!l.all okLf)) ∧ Below w.heap.size w w' := by
  have K := Lib.hid (goodL_idx v l w h hpl hE)
  obtain ⟨b, hb⟩ : ∃ b, l.all okLf = b := ⟨_, rfl⟩
  rw [hb] at K ⊢
  clear h hE hb
  go_enter Try.func237, Try.ntmps237
  go_wp2_with fail
  refine K.out.mono ?_
  rintro e w1 ⟨n, rfl, hn, hn', hb⟩
  clear K
  cases b
  · have hge : (0 : Int) ≤ n := hn' rfl
    clear hn hn'
    go_wp2_with fail
    go_ret
    exact ⟨by first | rfl | (simp; done), hb⟩
  · obtain rfl : n = -1 := hn rfl
    clear hn hn'
    go_wp2_with fail
    go_ret
    exact ⟨by first | rfl | (simp; done), hb⟩
end Go.Proofs.Ytpdenhmkpiafiaa
namespace Go.Proofs.Ytpdenhmkpiafiaa
open Go Go.RowKit K6
def cntB (s : Shp) (n a h : Nat) : Bool := (if s.t then decide (1 ≤ (n : Int) - s.n ∧ (n : Int) - s.n ≤ 8) else decide ((n : Int) - s.n = 0)) && (decide ((a : Int) = if s.e then (n : Int) - s.n else s.a) && decide ((h : Int) = s.h))
def numsB (xn : Int) (l : List Int) : Bool := decide (∀ i, i < l.length → (0 ≤ l.getD i 0 ∧ l.getD i 0 ≤ 1099511627776) ∧ (xn < (i : Int) → l.getD (i - 1) 0 < l.getD i 0))
def okLfK (y : LfK) : Bool := decide (0 ≤ y.1 ∧ y.1 ≤ 4294967295) && (decide (0 ≤ y.2.1 ∧ y.2.1 ≤ 4294967295) && (decide (y.2.2.2.length ≤ 10) && okA y.2.2.1))
theorem all_key (l : List Lf) : l.all okLf = (l.map Lf.key).all okLfK := by
  rw [List.all_map]; rfl
def headB (c : CmK) : Bool := decide (0 ≤ c.1 ∧ c.1 ≤ 4294967295) && (decide (0 ≤ c.2.1 ∧ c.2.1 ≤ 4294967295) && (decide (1 ≤ c.2.2.1 ∧ c.2.2.1 ≤ 4294967295) && decide (1 ≤ c.2.2.2.2.1 ∧ c.2.2.2.2.1 ≤ 4294967295)))
def goodCK (c : CmK) : Bool := headB c && (decide (c.2.2.2.2.2.1.length ≤ 10) && (decide (1 ≤ (c.2.2.2.2.2.2.length : Int) ∧ (c.2.2.2.2.2.2.length : Int) ≤ 8) && c.2.2.2.2.2.2.all okLfK))
def goodK (t : TxK) : Bool := okK t.1 && (decide (1 ≤ t.2.1 ∧ t.2.1 ≤ 4294967295) && (cntB (shpOf t.1) t.2.2.1.length t.2.2.2.1.length t.2.2.2.2.1.length && (numsB (shpOf t.1).n t.2.2.1 && (t.2.2.2.1.all okA && (if (shpOf t.1).c = true then goodCK t.2.2.2.2.2 else decide (t.2.2.2.2.2 = cm0.key))))))
def prfB (l : List (List Int)) : List Int := enc l.length ++ l.flatMap fun y => y
def lfKB (y : LfK) : List Int := enc y.1.toNat ++ (enc y.2.1.toNat ++ (amtL y.2.2.1 ++ prfB y.2.2.2))
def clKB (c : CmK) : List Int := enc c.1.toNat ++ (enc c.2.1.toNat ++ (enc c.2.2.1.toNat ++ (enc c.2.2.2.2.1.toNat ++ (c.2.2.2.1 ++ (prfB c.2.2.2.2.2.1 ++ (enc c.2.2.2.2.2.2.length ++ c.2.2.2.2.2.2.flatMap lfKB))))))
def nst (s : Shp) (l : List Int) (i : Nat) : List Int := (if s.t = true ∧ (i : Int) = s.n then enc ((l.length : Int) - s.n).toNat else []) ++ enc (l.getD i 0).toNat
def numB (s : Shp) (l : List Int) (i : Nat) : List Int := (List.range i).flatMap (nst s l)
def putK (t : TxK) : List Int := enc t.1.toNat ++ (enc t.2.1.toNat ++ (numB (shpOf t.1) t.2.2.1 t.2.2.1.length ++ (t.2.2.2.1.flatMap amtL ++ (t.2.2.2.2.1.flatMap (fun y => y) ++ (if (shpOf t.1).c = true then clKB t.2.2.2.2.2 else [])))))
def bytK (t : TxK) : List Int := if goodK t = true then (if (putK t).length ≤ 4096 then putK t else []) else []
theorem flat_step {α : Type} (f : α → List Int) {l : List α} {i : Nat} {x : α} (hx : l[i]? = some x) (P : List Int) : (P ++ (l.take i).flatMap f) ++ f x = P ++ (l.take (i + 1)).flatMap f := by
  rw [List.take_add_one, hx, Option.toList_some, List.flatMap_append, List.append_assoc]
  have : [x].flatMap f = f x := List.append_nil _
  rw [this]
theorem numB_step (s : Shp) (l : List Int) (i : Nat) (P : List Int) : (P ++ numB s l i) ++ nst s l i = P ++ numB s l (i + 1) := by
  unfold numB
  rw [List.range_succ, List.flatMap_append, List.append_assoc]
  have : [i].flatMap (nst s l) = nst s l i := List.append_nil _
  rw [this]
theorem flat_le {α : Type} {f : α → List Int} {c : Nat} : ∀ {l : List α}, (∀ x ∈ l, (f x).length ≤ c) → (l.flatMap f).length ≤ c * l.length
  | [], _ => Nat.zero_le _
  | x :: l, h => by
    rw [List.flatMap_cons, List.length_append, List.length_cons, Nat.mul_succ]
    have h1 := h x (List.mem_cons_self ..)
    have h2 := flat_le fun y hy => h y (List.mem_cons_of_mem x hy)
    omega
theorem amtL_le (a : Nat) : (amtL a).length ≤ 33 := by
  unfold amtL
  rw [List.length_cons, List.length_drop, BL32_len]
  omega
theorem prf_le {l : List (List Int)} (h : ∀ y ∈ l, y.length = 32) (hl : l.length ≤ 1000) : (prfB l).length ≤ 9 + 32 * l.length := by
  unfold prfB
  rw [List.length_append]
  have h1 := enc_len9 (m := l.length) (by omega)
  have h2 := flat_le (f := fun y : List Int => y) (c := 32) (l := l) fun y hy => Nat.le_of_eq (h y hy)
  omega
theorem shp_n (k : Int) : 0 ≤ (shpOf k).n ∧ (shpOf k).n ≤ 3 := by
  unfold shpOf
  split
  · rename_i h
    have h2 : k = 1 ∨ k = 2 ∨ k = 3 ∨ k = 4 ∨ k = 5 ∨ k = 6 ∨ k = 7 ∨ k = 8 ∨ k = 9 ∨ k = 10 ∨ k = 11 ∨ k = 12 ∨ k = 13 ∨ k = 14 ∨ k = 15 ∨ k = 16 ∨ k = 17 ∨ k = 18 ∨ k = 19 ∨ k = 20 ∨ k = 21 ∨ k = 22 ∨ k = 23 ∨ k = 24 ∨ k = 25 ∨ k = 26 ∨ k = 27 ∨ k = 28 := by omega
    rcases h2 with rfl | rfl | rfl | rfl | rfl | rfl | rfl | rfl | rfl | rfl | rfl | rfl | rfl | rfl | rfl | rfl | rfl | rfl | rfl | rfl | rfl | rfl | rfl | rfl | rfl | rfl | rfl | rfl <;> exact ⟨by decide, by decide⟩
  · exact ⟨by decide, by decide⟩
end Go.Proofs.Ytpdenhmkpiafiaa
namespace Go.Proofs.Ytpdenhmkpiafiaa
open Go Go.RowKit K6
def gPr (s : St) : List (List Int) × St := gMany gH (gV 10 s).1 (gV 10 s).2
def gLf : St → LfK × St := rSeq (gN 4294967295) fun _ => rSeq (gN 4294967295) fun _ => rSeq gA fun _ => gPr
def gLs (s : St) : List LfK × St := gMany gLf (gV 8 s).1 (gV 8 s).2
abbrev ClX := Int × Int × Int × Int × List Int × List (List Int) × List LfK
def gClX : St → ClX × St := rSeq (gN 4294967295) fun _ => rSeq (gN 4294967295) fun _ => rSeq (gN 4294967295) fun _ => rSeq (gN 4294967295) fun _ => rSeq gH fun _ => rSeq gPr fun _ => gLs
def clOf (x : ClX) : CmK := (x.1, x.2.1, x.2.2.1, x.2.2.2.2.1, x.2.2.2.1, x.2.2.2.2.2)
def clTo (c : CmK) : ClX := (c.1, c.2.1, c.2.2.1, c.2.2.2.2.1, c.2.2.2.1, c.2.2.2.2.2)
def gCl (s : St) : CmK × St := (clOf (gClX s).1, (gClX s).2)
def gTail (c : Bool) : St → Int × St := if c = true then gN 8 else fun s => (0, s)
abbrev NumX := List Int × Int × List Int
def gNums (s : Shp) : St → NumX × St := rSeq (gMany (gN 1099511627776) s.n.toNat) fun _ => rSeq (gTail s.t) fun tl => gMany (gN 1099511627776) tl.toNat
def gCo (c : Bool) : St → CmK × St := if c = true then gCl else fun s => (cm0.key, s)
abbrev TxX := Int × Int × NumX × List Nat × List (List Int) × CmK
def gTxX : St → TxX × St := rSeq (gN 28) fun k => rSeq (gN 4294967295) fun _ => rSeq (gNums (shpOf k)) fun nt => rSeq (gMany gA (if (shpOf k).e = true then nt.2.1 else (shpOf k).a).toNat) fun _ => rSeq (gMany gH (shpOf k).h.toNat) fun _ => gCo (shpOf k).c
def txF (x : TxX) : TxK := (x.1, x.2.1, x.2.2.1.1 ++ x.2.2.1.2.2, x.2.2.2)
def txG (t : TxK) : TxX := (t.1, t.2.1, (t.2.2.1.take (shpOf t.1).n.toNat, ((t.2.2.1.length : Int) - (shpOf t.1).n), t.2.2.1.drop (shpOf t.1).n.toNat), t.2.2.2)
def gTx (s : St) : TxK × St := (txF (gTxX s).1, (gTxX s).2)
abbrev okPr (l : List (List Int)) : Prop := ((0 : Int) ≤ (l.length : Int) ∧ (l.length : Int) ≤ 10) ∧ (l.length = ((l.length : Int)).toNat ∧ ∀ y ∈ l, y.length = 32 ∧ By y)
theorem fPr : Fmt gPr prfB fun l => okPr l ∧ l = l :=
  ((fN 10 (by decide)).seq fun n => fH.many n.toNat).iso (fun p => p.2) (fun l => ((l.length : Int), l)) (by
    rintro ⟨n, l⟩ ⟨h1, h2, -⟩
    simp only at h1 h2
    rw [h2, Int.toNat_of_nonneg h1.1])
abbrev okLx (y : LfK) : Prop := (0 ≤ y.1 ∧ y.1 ≤ 4294967295) ∧ (0 ≤ y.2.1 ∧ y.2.1 ≤ 4294967295) ∧ y.2.2.1 < M ∧ (okPr y.2.2.2 ∧ y.2.2.2 = y.2.2.2)
theorem fLf : Fmt gLf lfKB okLx := (fN 4294967295 (by decide)).seq fun _ => (fN 4294967295 (by decide)).seq fun _ => fA.seq fun _ => fPr
abbrev okLs (l : List LfK) : Prop := ((0 : Int) ≤ (l.length : Int) ∧ (l.length : Int) ≤ 8) ∧ (l.length = ((l.length : Int)).toNat ∧ ∀ y ∈ l, okLx y)
theorem fLs : Fmt gLs (fun l => enc l.length ++ l.flatMap lfKB) fun l => okLs l ∧ l = l :=
  ((fN 8 (by decide)).seq fun n => fLf.many n.toNat).iso (fun p => p.2) (fun l => ((l.length : Int), l)) (by
    rintro ⟨n, l⟩ ⟨h1, h2, -⟩
    simp only at h1 h2
    rw [h2, Int.toNat_of_nonneg h1.1])
abbrev okCx (x : ClX) : Prop := (0 ≤ x.1 ∧ x.1 ≤ 4294967295) ∧ (0 ≤ x.2.1 ∧ x.2.1 ≤ 4294967295) ∧ (0 ≤ x.2.2.1 ∧ x.2.2.1 ≤ 4294967295) ∧ (0 ≤ x.2.2.2.1 ∧ x.2.2.2.1 ≤ 4294967295) ∧ (x.2.2.2.2.1.length = 32 ∧ By x.2.2.2.2.1) ∧ (okPr x.2.2.2.2.2.1 ∧ x.2.2.2.2.2.1 = x.2.2.2.2.2.1) ∧ (okLs x.2.2.2.2.2.2 ∧ x.2.2.2.2.2.2 = x.2.2.2.2.2.2)
theorem fCl : Fmt gCl clKB fun c => okCx (clTo c) ∧ c = c :=
  ((fN 4294967295 (by decide)).seq fun _ => (fN 4294967295 (by decide)).seq fun _ => (fN 4294967295 (by decide)).seq fun _ => (fN 4294967295 (by decide)).seq fun _ => fH.seq fun _ => fPr.seq fun _ => fLs).iso clOf clTo (fun _ _ => rfl)
abbrev okTl (c : Bool) : Int → Prop := if c = true then fun n => 0 ≤ n ∧ n ≤ 8 else fun n => n = 0
theorem fTl (c : Bool) : Fmt (gTail c) (if c = true then fun n => enc n.toNat else fun _ => []) (okTl c) := Fmt.cond c (fN 8 (by decide)) (Fmt.unit 0)
abbrev okN : Int → Prop := fun n => 0 ≤ n ∧ n ≤ 1099511627776
theorem fNums (s : Shp) : Fmt (gNums s) (fun x => x.1.flatMap (fun n => enc n.toNat) ++ ((if s.t = true then fun n : Int => enc n.toNat else fun _ => []) x.2.1 ++ x.2.2.flatMap fun n => enc n.toNat)) fun x => (x.1.length = s.n.toNat ∧ ∀ y ∈ x.1, okN y) ∧ okTl s.t x.2.1 ∧ (x.2.2.length = x.2.1.toNat ∧ ∀ y ∈ x.2.2, okN y) :=
  ((fN 1099511627776 (by decide)).many s.n.toNat).seq fun _ => (fTl s.t).seq fun tl => (fN 1099511627776 (by decide)).many tl.toNat
theorem fCo (c : Bool) : Fmt (gCo c) (if c = true then clKB else fun _ => []) (if c = true then fun c => okCx (clTo c) ∧ c = c else fun c => c = cm0.key) := Fmt.cond c fCl (Fmt.unit _)
abbrev okTX (x : TxX) : Prop := (0 ≤ x.1 ∧ x.1 ≤ 28) ∧ (0 ≤ x.2.1 ∧ x.2.1 ≤ 4294967295) ∧ ((x.2.2.1.1.length = (shpOf x.1).n.toNat ∧ ∀ y ∈ x.2.2.1.1, okN y) ∧ okTl (shpOf x.1).t x.2.2.1.2.1 ∧ (x.2.2.1.2.2.length = x.2.2.1.2.1.toNat ∧ ∀ y ∈ x.2.2.1.2.2, okN y)) ∧
  (x.2.2.2.1.length = (if (shpOf x.1).e = true then x.2.2.1.2.1 else (shpOf x.1).a).toNat ∧ ∀ y ∈ x.2.2.2.1, y < M) ∧ (x.2.2.2.2.1.length = (shpOf x.1).h.toNat ∧ ∀ y ∈ x.2.2.2.2.1, y.length = 32 ∧ By y) ∧ (if (shpOf x.1).c = true then fun c => okCx (clTo c) ∧ c = c else fun c => c = cm0.key) x.2.2.2.2.2
def txE (t : TxK) : List Int := enc t.1.toNat ++ (enc t.2.1.toNat ++ (((txG t).2.2.1.1.flatMap (fun n => enc n.toNat) ++ ((if (shpOf t.1).t = true then fun n : Int => enc n.toNat else fun _ => []) (txG t).2.2.1.2.1 ++ (txG t).2.2.1.2.2.flatMap fun n => enc n.toNat)) ++ (t.2.2.2.1.flatMap amtL ++ (t.2.2.2.2.1.flatMap (fun y => y) ++ (if (shpOf t.1).c = true then clKB else fun _ => []) t.2.2.2.2.2))))
theorem fTx : Fmt gTx txE fun t => okTX (txG t) ∧ txF (txG t) = t :=
  ((fN 28 (by decide)).seq fun k => (fN 4294967295 (by decide)).seq fun _ => (fNums (shpOf k)).seq fun nt => (fA.many (if (shpOf k).e = true then nt.2.1 else (shpOf k).a).toNat).seq fun _ => (fH.many (shpOf k).h.toNat).seq fun _ => fCo (shpOf k).c).iso txF txG (by
    rintro ⟨k, f, ⟨n1, tl, n2⟩, r⟩ h
    obtain ⟨-, -, ⟨⟨h1, -⟩, h3, ⟨h4, -⟩⟩, -⟩ := h
    simp only at h1 h3 h4
    have hs := shp_n k
    have ht : 0 ≤ tl := by
      unfold okTl at h3
      split at h3
      · exact h3.1
      · have h9 : tl = 0 := h3
        omega
    unfold txF txG
    simp only
    rw [← h1, List.take_left, List.drop_left, List.length_append, h4]
    have e : ((n1.length + tl.toNat : Nat) : Int) - (shpOf k).n = tl := by omega
    rw [e])
theorem numB_is (s : Shp) (l : List Int) (h0 : 0 ≤ s.n) (h1 : s.t = true → s.n.toNat < l.length) (h2 : s.t = false → l.length = s.n.toNat) :
    numB s l l.length = (l.take s.n.toNat).flatMap (fun n => enc n.toNat) ++ ((if s.t = true then fun n : Int => enc n.toNat else fun _ => []) ((l.length : Int) - s.n) ++ (l.drop s.n.toNat).flatMap fun n => enc n.toNat) := by
  obtain ⟨q, hq⟩ : ∃ q, s.n.toNat = q := ⟨_, rfl⟩
  have hqn : s.n = (q : Int) := by omega
  rw [hq] at h1 h2 ⊢
  have key : ∀ (a : Nat) (m : List Int), l.drop a = m → (∀ i, a ≤ i → ¬ (s.t = true ∧ (i : Int) = s.n)) → (List.range' a m.length).flatMap (nst s l) = m.flatMap fun n => enc n.toNat := by
    intro a m
    induction m generalizing a with
    | nil => intro _ _; rfl
    | cons x m ih =>
      intro hd hn
      rw [List.length_cons, List.range'_succ, List.flatMap_cons, List.flatMap_cons]
      have hx : l[a]? = some x := by
        have h := congrArg (·[0]?) hd
        simp only [List.getElem?_drop] at h
        simpa using h
      have hd2 : l.drop (a + 1) = m := by rw [← List.drop_drop, hd]; rfl
      rw [ih (a + 1) hd2 fun i hi => hn i (by omega)]
      congr 1
      unfold nst
      rw [if_neg (hn a (Nat.le_refl a)), List.nil_append, List.getD_eq_getElem?_getD, hx]
      rfl
  have keyT : ∀ (b : Nat), b ≤ q → b ≤ l.length → (List.range b).flatMap (nst s l) = (l.take b).flatMap fun n => enc n.toNat := by
    intro b
    induction b with
    | zero => intro _ _; rw [List.take_zero]; rfl
    | succ b ih =>
      intro h3 h4
      have hx : l[b]? = some l[b] := List.getElem?_eq_getElem (by omega)
      rw [List.range_succ, List.flatMap_append, ih (by omega) (by omega), List.take_add_one, hx, Option.toList_some, List.flatMap_append]
      congr 1
      rw [List.flatMap_cons, List.flatMap_nil, List.append_nil, List.flatMap_cons, List.flatMap_nil, List.append_nil]
      unfold nst
      rw [if_neg (by rintro ⟨-, h⟩; omega), List.nil_append, List.getD_eq_getElem?_getD, hx]
      rfl
  unfold numB
  cases ht : s.t with
  | false =>
    have h5 := h2 ht
    rw [h5, keyT q (Nat.le_refl q) (by omega)]
    rw [List.drop_eq_nil_of_le (by omega)]
    simp
  | true =>
    have h5 := h1 ht
    have e : List.range l.length = List.range q ++ List.range' q (l.length - q) := by
      rw [List.range_eq_range', List.range_eq_range']
      have := @List.range'_append_1 0 q (l.length - q)
      rw [Nat.zero_add] at this
      rw [this]
      congr 1
      omega
    rw [e, List.flatMap_append, keyT q (Nat.le_refl q) (by omega)]
    congr 1
    obtain ⟨x, m, hm⟩ : ∃ x m, l.drop q = x :: m := by
      match hd : l.drop q with
      | [] => have := congrArg List.length hd; rw [List.length_drop] at this; simp at this; omega
      | x :: m => exact ⟨x, m, rfl⟩
    have hl : l.length - q = m.length + 1 := by
      have := congrArg List.length hm
      rw [List.length_drop, List.length_cons] at this
      exact this
    have hx : l[q]? = some x := by
      have h := congrArg (·[0]?) hm
      simp only [List.getElem?_drop] at h
      simpa using h
    have hd2 : l.drop (q + 1) = m := by rw [← List.drop_drop, hm]; rfl
    rw [hl, List.range'_succ, List.flatMap_cons, hm, List.flatMap_cons, key (q + 1) m hd2 (by rintro i hi ⟨-, h⟩; omega)]
    rw [if_pos rfl]
    unfold nst
    rw [if_pos ⟨ht, hqn.symm⟩, List.getD_eq_getElem?_getD, hx]
    simp only [Option.getD_some, List.append_assoc]
structure GoodX (t : TxK) : Prop where
  ok : okTX (txG t) ∧ txF (txG t) = t
  en : txE t = putK t
structure KeyOk (t : TxK) : Prop where
  h : ∀ y ∈ t.2.2.2.2.1, y.length = 32 ∧ By y
  k : t.2.2.2.2.2.2.2.2.1.length = 32 ∧ By t.2.2.2.2.2.2.2.2.1
  p : ∀ y ∈ t.2.2.2.2.2.2.2.2.2.2.1, y.length = 32 ∧ By y
  l : ∀ x ∈ t.2.2.2.2.2.2.2.2.2.2.2, ∀ y ∈ x.2.2.2, y.length = 32 ∧ By y
theorem M2_M {a : Nat} (h : okA a = true) : a < M := Nat.lt_of_lt_of_le (of_decide_eq_true h) (by decide)
theorem goodK_x {t : TxK} (hk : KeyOk t) (h : goodK t = true) : GoodX t := by
  obtain ⟨k, f, n, a, hh, c⟩ := t
  unfold goodK at h
  simp only [Bool.and_eq_true, decide_eq_true_eq] at h
  obtain ⟨h1, h2, h3, h4, h5, h6⟩ := h
  have hkk : 1 ≤ k ∧ k ≤ 28 := by unfold okK at h1; simpa using h1
  have hs := shp_n k
  obtain ⟨S, hS⟩ : ∃ S, shpOf k = S := ⟨_, rfl⟩
  rw [hS] at h3 h4 h6 hs
  unfold cntB at h3
  simp only [Bool.and_eq_true, decide_eq_true_eq] at h3
  obtain ⟨h7, h8, h9⟩ := h3
  have h10 : ∀ y ∈ n, okN y := fun y hy => by
    obtain ⟨i, hi, rfl⟩ := List.mem_iff_getElem.1 hy
    have h := (of_decide_eq_true h4 i hi).1
    rw [List.getD_eq_getElem?_getD, List.getElem?_eq_getElem hi] at h
    exact h
  have ht : (S.t = true → 1 ≤ (n.length : Int) - S.n ∧ (n.length : Int) - S.n ≤ 8) ∧ (S.t = false → (n.length : Int) - S.n = 0) := by
    cases hst : S.t with
    | true => rw [hst] at h7; exact ⟨fun _ => by simpa using h7, fun h => (by cases h)⟩
    | false => rw [hst] at h7; exact ⟨(fun h => (by cases h)), fun _ => by simpa using h7⟩
  have hle : S.n.toNat ≤ n.length := by
    cases hst : S.t with
    | true => have := ht.1 hst; omega
    | false => have := ht.2 hst; omega
  have hE : (0 : Int) ≤ (if S.e = true then (n.length : Int) - S.n else S.a) := by rw [← h8]; omega
  have hH : 0 ≤ S.h := by rw [← h9]; omega
  refine ⟨⟨⟨⟨by show 0 ≤ k; omega, hkk.2⟩, ⟨by show 0 ≤ f; omega, h2.2⟩, ⟨⟨?_, ?_⟩, ?_, ⟨?_, ?_⟩⟩, ⟨?_, fun y hy => M2_M (List.all_eq_true.1 h5 y hy)⟩, ⟨?_, hk.h⟩, ?_⟩, ?_⟩, ?_⟩
  · show (n.take (shpOf k).n.toNat).length = (shpOf k).n.toNat
    rw [hS, List.length_take]; omega
  · exact fun y hy => h10 y (List.mem_of_mem_take hy)
  · show okTl (shpOf k).t ((n.length : Int) - (shpOf k).n)
    rw [hS]
    unfold okTl
    cases hst : S.t with
    | true => have := ht.1 hst; exact ⟨by omega, by omega⟩
    | false => exact ht.2 hst
  · show (n.drop (shpOf k).n.toNat).length = ((n.length : Int) - (shpOf k).n).toNat
    rw [hS, List.length_drop]; omega
  · exact fun y hy => h10 y (List.mem_of_mem_drop hy)
  · show a.length = (if (shpOf k).e = true then (n.length : Int) - (shpOf k).n else (shpOf k).a).toNat
    rw [hS]; omega
  · show hh.length = (shpOf k).h.toNat
    rw [hS]; omega
  · show (if (shpOf k).c = true then fun c => okCx (clTo c) ∧ c = c else fun c => c = cm0.key) c
    rw [hS]
    cases hsc : S.c with
    | false =>
      rw [hsc] at h6
      show c = cm0.key
      exact of_decide_eq_true h6
    | true =>
      rw [hsc, if_pos rfl] at h6
      unfold goodCK headB at h6
      simp only [Bool.and_eq_true, decide_eq_true_eq] at h6
      obtain ⟨⟨c1, c2, c3, c4⟩, c5, c6, c7⟩ := h6
      refine ⟨⟨c1, c2, ⟨by show 0 ≤ c.2.2.1; omega, c3.2⟩, ⟨by show 0 ≤ c.2.2.2.2.1; omega, c4.2⟩, hk.k, ⟨⟨⟨by omega, by show (c.2.2.2.2.2.1.length : Int) ≤ 10; omega⟩, rfl, hk.p⟩, rfl⟩, ⟨⟨⟨by omega, c6.2⟩, rfl, fun y hy => ?_⟩, rfl⟩⟩, rfl⟩
      have hy2 := List.all_eq_true.1 c7 y hy
      unfold okLfK at hy2
      simp only [Bool.and_eq_true, decide_eq_true_eq] at hy2
      exact ⟨hy2.1, hy2.2.1, M2_M hy2.2.2.2, ⟨⟨by omega, by show (y.2.2.2.length : Int) ≤ 10; omega⟩, rfl, hk.l y hy⟩, rfl⟩
  · show (k, f, n.take (shpOf k).n.toNat ++ n.drop (shpOf k).n.toNat, a, hh, c) = _
    rw [List.take_append_drop]
  · unfold txE putK txG
    simp only
    rw [hS, numB_is S n hs.1 (fun h => by have := ht.1 h; omega) (fun h => by have := ht.2 h; omega)]
    congr 4
    cases S.c <;> rfl
theorem gTx_put {t : TxK} (h : GoodX t) (r : List Int) : gTx (0, putK t ++ r) = (t, 0, r) := by
  rw [← h.en]; exact fTx.put t r h.ok
theorem gTx_cut {t : TxK} (h : GoodX t) {j : Nat} (hj : j < (putK t).length) : (gTx (0, (putK t).take j)).2 = Short := by
  rw [← h.en] at hj ⊢; exact fTx.cut t j h.ok hj
theorem gTx_back {t : TxK} {xs r : List Int} (hb : By xs) (h : gTx (0, xs) = (t, 0, r)) (hk : KeyOk t) (hg : goodK t = true) : xs = putK t ++ r := by
  rw [← (goodK_x hk hg).en]; exact (fTx.back xs t r hb h).1
end Go.Proofs.Ytpdenhmkpiafiaa
namespace Go.Proofs.Ytpdenhmkpiafiaa
open Go Go.RowKit K6
theorem app_step {ts te z : Nat} (T : AppT ts te z) {w : World} {B n : Nat} {v : Value} {zs : List Value} {cs : Array Value} (own : w.ownsRow B te z v n zs) (hs : cs.size = z) (h1 : cs.all (·.oneCell') = true) (hL : n ≤ 1000000) (hB : B ≤ w.heap.size) :
    ∃ v' w', (Builtin.append_ #[ts, ts] ts #[v, .slice (some ⟨w.heap.size, 0, none⟩) 1 1]).run Try.prog (w.alloc (.cells cs te)) = .ok v' w' ∧ w'.ownsRow B te z v' (n + 1) (zs ++ cs.toList) ∧ Tr (fun b => v.ownBlock = some b) w w' ∧ (v'.ownBlock = v.ownBlock ∨ v'.ownBlock = some (w.heap.size + 1)) := by
  have hA : Below w.heap.size w (w.alloc (.cells cs te)) := (Below.refl _ _).alloc (Nat.le_refl _) _
  have own' : (w.alloc (.cells cs te)).ownsRow B te z v n zs := own_tr own (X := None_) (Tr.of hA) (fun _ _ => id)
  obtain ⟨v', w', hrun, ho, hg, hw⟩ := append1 T own' (Row.new_at rfl) hs h1 hL (Nat.le_trans hB hA.size)
  refine ⟨v', w', hrun, ho, ?_, by simpa using hw⟩
  exact (Tr.of hA : Tr (fun b => v.ownBlock = some b) w _).trans ⟨hg.os, hg.tape, hg.output, hg.size, fun b hb hx => hg.block b hb (fun e => hx (by first | exact e | exact e.symm))⟩
structure ManyI {α : Type} (one : St → α × St) (Own : World → Nat → Value → List α → Prop) (w wr : World) (lo hi g B : Nat) (v : Value) (i gg : Nat) (LX : List α) (e3 : Int) (x3 : List Int) (es : Int) (ys : List Int) (K : List α) : Prop where
  own : Own wr B v K
  src : SA wr lo hi g es ys
  tr : Tr (fun b => b = g) w wr
  mi : MI one gg es ys K LX e3 x3
  len : K.length = i
  sz : B ≤ wr.heap.size
def ManP {α : Type} (Own : World → Nat → Value → List α → Prop) (w : World) (lo hi g : Nat) (LX : List α) (e3 : Int) (x3 : List Int) (r : Ending) (w' : World) : Prop := ∃ v, r = .returned v ∧ Own w' w.heap.size v LX ∧ SA w' lo hi g e3 x3 ∧ Tr (fun b => b = g) w w'
theorem tr_old {w w' : World} {g b : Nat} {v : Value} (hT : Tr (fun b => b = g) w w') (hb : b < w.heap.size) (hg : b ≠ g) (h : w.cell? ⟨b, 0, none⟩ = some v) : w'.cell? ⟨b, 0, none⟩ = some v := (World.cell?_of_block (hT.block b hb hg)).trans h
theorem gH_len (s : St) : (gH s).1.length = 32 := by
  unfold gH gT tkE tkO
  simp only
  by_cases h : s.1 = 0
  · by_cases h1 : 32 ≤ s.2.length
    · simp only [if_pos h, if_pos h1, if_true, List.length_take]; omega
    · simp [h, h1]
  · simp [h]
theorem gH_byO {s : St} (hb : By s.2) : By (gH s).1 := by
  unfold gH gT tkE tkO
  simp only
  by_cases h : s.1 = 0
  · by_cases h1 : 32 ≤ s.2.length
    · simp only [if_pos h, if_pos h1, if_true]; exact hb.take _
    · simp only [if_pos h, if_neg h1]
      rw [if_neg (by decide)]
      exact fun x hx => by rw [(List.mem_replicate.1 hx).2]; omega
  · simp only [if_neg h]
    exact fun x hx => by rw [(List.mem_replicate.1 hx).2]; omega
theorem gHs_ok (n : Nat) : ∀ {s : St}, By s.2 → HsOk (gMany gH n s).1 := by
  induction n with
  | zero => intro s _ y hy; cases hy
  | succ n ih =>
    intro s h
    by_cases h0 : s.1 = 0
    · rw [gMany_go _ _ h0]
      intro y hy
      rcases List.mem_cons.1 hy with rfl | hy
      · exact ⟨gH_len s, gH_byO h⟩
      · exact ih (gH_by h) y hy
    · rw [gMany_stop _ _ h0]; intro y hy; cases hy
theorem list32 {l : List Int} (h : l.length = 32) : ∃ z0 z1 z2 z3 z4 z5 z6 z7 z8 z9 z10 z11 z12 z13 z14 z15 z16 z17 z18 z19 z20 z21 z22 z23 z24 z25 z26 z27 z28 z29 z30 z31 : Int, l = [z0, z1, z2, z3, z4, z5, z6, z7, z8, z9, z10, z11, z12, z13, z14, z15, z16, z17, z18, z19, z20, z21, z22, z23, z24, z25, z26, z27, z28, z29, z30, z31] := by
  match l, h with
  | [z0, z1, z2, z3, z4, z5, z6, z7, z8, z9, z10, z11, z12, z13, z14, z15, z16, z17, z18, z19, z20, z21, z22, z23, z24, z25, z26, z27, z28, z29, z30, z31], _ => exact ⟨z0, z1, z2, z3, z4, z5, z6, z7, z8, z9, z10, z11, z12, z13, z14, z15, z16, z17, z18, z19, z20, z21, z22, z23, z24, z25, z26, z27, z28, z29, z30, z31, rfl⟩
theorem clos247_at {w : World} {lo hi g bx k : Nat} {e e1 : Int} {xs x1 : List Int} (h : SA w lo hi g e xs) (hc : w.cell? ⟨bx, 0, none⟩ = some (.pointer (some ⟨g, 0, none⟩))) (hg : gV 1099511627776 (e, xs) = (k, e1, x1)) :
    Calls Try.prog 247 #[.pointer (some ⟨bx, 0, none⟩)] w (GotV w lo hi g (.int .i64 (k : Int)) e1 x1) := by
  have kv := Lib.hid (svar_V h hg)
  clear h hg
  go_enter Try.func247, Try.ntmps247
  go_wp2_with fail
  refine kv.out.mono ?_
  rintro r w1 ⟨rfl, hs, ht⟩
  have H1 := Lib.hid (show _ ∧ _ from ⟨hs, ht⟩)
  clear kv hs ht hc
  go_wp2_with fail
  go_ret
  exact ⟨rfl, H1.out.1, H1.out.2⟩
set_option maxRecDepth 100000 in
set_option maxHeartbeats 64000000 in
theorem manyI_at {w : World} {lo hi g : Nat} {e : Int} {xs : List Int} (h : SA w lo hi g e xs) (hhi : hi ≤ w.heap.size) (n : Nat) (hn : n ≤ 1000) {bx : Nat} (hbx : bx < w.heap.size) (hbg : bx ≠ g) (hc : w.cell? ⟨bx, 0, none⟩ = some (.pointer (some ⟨g, 0, none⟩))) {LX : List Int} {e3 : Int} {x3 : List Int} (hg : gMany (gN 1099511627776) n (e, xs) = (LX, e3, x3)) :
    Calls Try.prog 246 #[.pointer (some ⟨g, 0, none⟩), .int .i64 (n : Int), .func (.func 247) #[] #[.pointer (some ⟨bx, 0, none⟩)]] w (ManP Oi w lo hi g LX e3 x3) := by
  have hgh : g < hi := h.2.1
  obtain ⟨B, hB⟩ : ∃ B, w.heap.size = B := ⟨_, rfl⟩
  have H0 : ManyI (gN 1099511627776) Oi w w lo hi g B (.slice none 0 0) 0 n LX e3 x3 e xs [] := ⟨Oi.nil _ _, h, Tr.refl _ _, MI.start hg, rfl, by omega⟩
  replace H0 := Lib.hid H0
  clear h hg
  go_enter Try.func246, Try.ntmps246
  go_wp2_with fail
  go_loopg [7, 9] n (fun gg s7 s9 wr => ∃ (i : Nat) (es : Int) (ys : List Int) (K : List Int), i + gg = n ∧ s9 = .int .i64 (i : Int) ∧ Hid (ManyI (gN 1099511627776) Oi w wr lo hi g B s7 i gg LX e3 x3 es ys K))
  case atStart => exact ⟨0, e, xs, [], by omega, rfl, H0⟩
  case round =>
    clear H0
    obtain ⟨i, es, ys, K, him, rfl, hinv⟩ := hrel
    obtain ⟨q0, c0, hv0⟩ := own_sl (show wr.ownsRow B 3 1 u7 _ _ from hinv.out.own)
    rw [hinv.out.len] at hv0
    subst hv0
    by_cases hi' : i < n
    · obtain ⟨gn, rfl⟩ : ∃ gn, gk = gn + 1 := ⟨gk - 1, by omega⟩
      have hlt : (i : Int) < (n : Int) := by omega
      have er := Lib.hid (err_at hinv.out.src)
      by_cases hes : es = 0
      · subst hes
        obtain ⟨own, src, tr, mi, hlen, hsz⟩ := hinv.out
        clear hinv
        obtain ⟨a, e4, y4, hg4⟩ := tri (gV 1099511627776 (0, ys))
        have hgo : gN 1099511627776 (0, ys) = ((a : Int), e4, y4) := by unfold gN; rw [hg4]
        have ka := Lib.hid (clos247_at src (tr_old tr hbx hbg hc) hg4)
        have mi' := Lib.hid (mi.step hgo)
        have HO := Lib.hid (show _ ∧ _ ∧ _ ∧ _ from ⟨own, tr, hlen, hsz⟩)
        clear own src tr mi hlen hsz hg4 hgo
        go_wp2_with fail
        refine er.out.mono ?_
        rintro r w8 ⟨rfl, rfl⟩
        clear er
        go_wp2_with fail
        refine ka.out.mono ?_
        rintro r w9 ⟨rfl, hs9, ht9⟩
        obtain ⟨own, tr, hlen, hsz⟩ := HO.out
        clear HO ka
        have own' := own_tr (show w8.ownsRow B 3 1 _ _ _ from own) ht9 (fun b hb hc => by have h1 := (own_lt (show w8.ownsRow B 3 1 _ _ _ from own) b hb).1; have hc' : b = g := hc; omega)
        rw [hlen] at own'
        have hsz9 := Nat.le_trans hsz ht9.size
        obtain ⟨v', w', hrun, ho, hT, -⟩ := app_step appT22 (cs := #[.int .i64 (a : Int)]) own' rfl (by kernel_rfl) (by omega) hsz9
        have hlt9 := fun b hb => (own_lt own' b hb).1
        have H := Lib.hid (show ManyI (gN 1099511627776) Oi w w' lo hi g B v' (i + 1) gn LX e3 x3 e4 y4 (K ++ [(a : Int)]) from ⟨by unfold Oi; rw [List.length_append, flat_snoc, hlen]; exact ho, hs9.keep hT (fun b h1 h2 hx => by have := hlt9 b hx; omega), (tr.trans ht9).trans_new hT (fun b hc hlt => by have := hlt9 b hc; omega), mi'.out, by rw [List.length_append, hlen]; rfl, Nat.le_trans hsz9 hT.size⟩)
        clear own own' ho hT hs9 ht9 tr mi' hlt9 hlen hsz hsz9
        go_wp2_with (at_builtin; refine wpList_app rfl rfl rfl rfl hrun ?_)
        go_roundg gn
        case measure => omega
        case rel => exact ⟨i + 1, e4, y4, K ++ [(a : Int)], by omega, by go_num, H⟩
      · have hq : (es != 0) = true := by rw [bne_iff_ne]; exact hes
        obtain ⟨rfl, rfl, rfl⟩ := hinv.out.mi.stop (.inl hes)
        go_wp2_with fail
        refine er.out.mono ?_
        rintro r w8 ⟨rfl, rfl⟩
        clear er
        go_wp2_with fail
        go_ret
        exact ⟨_, rfl, by first | exact hinv.out.own | (rw [hB]; exact hinv.out.own), hinv.out.src, hinv.out.tr⟩
    · obtain rfl : gk = 0 := by omega
      obtain rfl : i = n := by omega
      have hlt : ¬ (i : Int) < (i : Int) := by omega
      obtain ⟨rfl, rfl, rfl⟩ := hinv.out.mi.stop (.inr rfl)
      go_wp2_with fail
      go_ret
      exact ⟨_, rfl, by first | exact hinv.out.own | (rw [hB]; exact hinv.out.own), hinv.out.src, hinv.out.tr⟩
set_option maxRecDepth 100000 in
set_option maxHeartbeats 64000000 in
theorem manyU_at {w : World} {lo hi g : Nat} {e : Int} {xs : List Int} (h : SA w lo hi g e xs) (hhi : hi ≤ w.heap.size) (n : Nat) (hn : n ≤ 1000) {LX : List Nat} {e3 : Int} {x3 : List Int} (hg : gMany gA n (e, xs) = (LX, e3, x3)) :
    Calls Try.prog 225 #[.pointer (some ⟨g, 0, none⟩), .int .i64 (n : Int), .func (.func 62) #[.pointer (some ⟨g, 0, none⟩)] #[]] w (ManP Oe w lo hi g LX e3 x3) := by
  have hgh : g < hi := h.2.1
  obtain ⟨B, hB⟩ : ∃ B, w.heap.size = B := ⟨_, rfl⟩
  have H0 : ManyI gA Oe w w lo hi g B (.slice none 0 0) 0 n LX e3 x3 e xs [] := ⟨Oe.nil _ _, h, Tr.refl _ _, MI.start hg, rfl, by omega⟩
  replace H0 := Lib.hid H0
  clear h hg
  go_enter Try.func225, Try.ntmps225
  go_wp2_with fail
  go_loopg [7, 9] n (fun gg s7 s9 wr => ∃ (i : Nat) (es : Int) (ys : List Int) (K : List Nat), i + gg = n ∧ s9 = .int .i64 (i : Int) ∧ Hid (ManyI gA Oe w wr lo hi g B s7 i gg LX e3 x3 es ys K))
  case atStart => exact ⟨0, e, xs, [], by omega, rfl, H0⟩
  case round =>
    clear H0
    obtain ⟨i, es, ys, K, him, rfl, hinv⟩ := hrel
    obtain ⟨q0, c0, hv0⟩ := own_sl (show wr.ownsRow B 31 4 u7 _ _ from hinv.out.own)
    rw [hinv.out.len] at hv0
    subst hv0
    by_cases hi' : i < n
    · obtain ⟨gn, rfl⟩ : ∃ gn, gk = gn + 1 := ⟨gk - 1, by omega⟩
      have hlt : (i : Int) < (n : Int) := by omega
      have er := Lib.hid (err_at hinv.out.src)
      by_cases hes : es = 0
      · subst hes
        obtain ⟨own, src, tr, mi, hlen, hsz⟩ := hinv.out
        clear hinv
        obtain ⟨a, e4, y4, hg4⟩ := tri (gA (0, ys))
        have hgo := hg4
        have ka0 := samt_V src (by omega) hg4
        obtain ⟨y0, y1, y2, y3, hW⟩ : ∃ y0 y1 y2 y3 : Int, W4 a = #[.int .u64 y0, .int .u64 y1, .int .u64 y2, .int .u64 y3] := ⟨_, _, _, _, rfl⟩
        rw [hW] at ka0
        have ka := Lib.hid ka0
        replace hW := Lib.hid hW
        clear ka0
        have mi' := Lib.hid (mi.step hgo)
        have HO := Lib.hid (show _ ∧ _ ∧ _ ∧ _ from ⟨own, tr, hlen, hsz⟩)
        clear own src tr mi hlen hsz hg4 hgo
        go_wp2_with fail
        refine er.out.mono ?_
        rintro r w8 ⟨rfl, rfl⟩
        clear er
        go_wp2_with fail
        refine ka.out.mono ?_
        rintro r w9 ⟨rfl, hs9, ht9⟩
        obtain ⟨own, tr, hlen, hsz⟩ := HO.out
        clear HO ka
        have own' := own_tr (show w8.ownsRow B 31 4 _ _ _ from own) ht9 (fun b hb hc => by have h1 := (own_lt (show w8.ownsRow B 31 4 _ _ _ from own) b hb).1; have hc' : b = g := hc; omega)
        rw [hlen] at own'
        have hsz9 := Nat.le_trans hsz ht9.size
        obtain ⟨v', w', hrun, ho, hT, -⟩ := app_step appT23 (cs := #[.int .u64 y0, .int .u64 y1, .int .u64 y2, .int .u64 y3]) own' rfl (by kernel_rfl) (by omega) hsz9
        have hlt9 := fun b hb => (own_lt own' b hb).1
        have H := Lib.hid (show ManyI gA Oe w w' lo hi g B v' (i + 1) gn LX e3 x3 e4 y4 (K ++ [a]) from ⟨by unfold Oe; rw [List.length_append, uw_snoc, hW.out, hlen]; exact ho, hs9.keep hT (fun b h1 h2 hx => by have := hlt9 b hx; omega), (tr.trans ht9).trans_new hT (fun b hc hlt => by have := hlt9 b hc; omega), mi'.out, by rw [List.length_append, hlen]; rfl, Nat.le_trans hsz9 hT.size⟩)
        clear own own' ho hT hs9 ht9 tr mi' hlt9 hlen hsz hsz9
        go_wp2_with (at_builtin; refine wpList_app rfl rfl rfl rfl hrun ?_)
        go_roundg gn
        case measure => omega
        case rel => exact ⟨i + 1, e4, y4, K ++ [a], by omega, by go_num, H⟩
      · have hq : (es != 0) = true := by rw [bne_iff_ne]; exact hes
        obtain ⟨rfl, rfl, rfl⟩ := hinv.out.mi.stop (.inl hes)
        go_wp2_with fail
        refine er.out.mono ?_
        rintro r w8 ⟨rfl, rfl⟩
        clear er
        go_wp2_with fail
        go_ret
        exact ⟨_, rfl, by first | exact hinv.out.own | (rw [hB]; exact hinv.out.own), hinv.out.src, hinv.out.tr⟩
    · obtain rfl : gk = 0 := by omega
      obtain rfl : i = n := by omega
      have hlt : ¬ (i : Int) < (i : Int) := by omega
      obtain ⟨rfl, rfl, rfl⟩ := hinv.out.mi.stop (.inr rfl)
      go_wp2_with fail
      go_ret
      exact ⟨_, rfl, by first | exact hinv.out.own | (rw [hB]; exact hinv.out.own), hinv.out.src, hinv.out.tr⟩
set_option maxRecDepth 100000 in
set_option maxHeartbeats 64000000 in
theorem manyH_at {w : World} {lo hi g : Nat} {e : Int} {xs : List Int} (h : SA w lo hi g e xs) (hhi : hi ≤ w.heap.size) (n : Nat) (hn : n ≤ 1000) {LX : List (List Int)} {e3 : Int} {x3 : List Int} (hg : gMany gH n (e, xs) = (LX, e3, x3)) :
    Calls Try.prog 226 #[.pointer (some ⟨g, 0, none⟩), .int .i64 (n : Int), .func (.func 68) #[.pointer (some ⟨g, 0, none⟩)] #[]] w (ManP Oh w lo hi g LX e3 x3) := by
  have hgh : g < hi := h.2.1
  obtain ⟨B, hB⟩ : ∃ B, w.heap.size = B := ⟨_, rfl⟩
  have H0 : ManyI gH Oh w w lo hi g B (.slice none 0 0) 0 n LX e3 x3 e xs [] := ⟨Oh.nil _ _, h, Tr.refl _ _, MI.start hg, rfl, by omega⟩
  replace H0 := Lib.hid H0
  clear h hg
  go_enter Try.func226, Try.ntmps226
  go_wp2_with fail
  go_loopg [7, 9] n (fun gg s7 s9 wr => ∃ (i : Nat) (es : Int) (ys : List Int) (K : List (List Int)), i + gg = n ∧ s9 = .int .i64 (i : Int) ∧ Hid (ManyI gH Oh w wr lo hi g B s7 i gg LX e3 x3 es ys K))
  case atStart => exact ⟨0, e, xs, [], by omega, rfl, H0⟩
  case round =>
    clear H0
    obtain ⟨i, es, ys, K, him, rfl, hinv⟩ := hrel
    obtain ⟨q0, c0, hv0⟩ := own_sl (show wr.ownsRow B 35 32 u7 _ _ from hinv.out.own)
    rw [hinv.out.len] at hv0
    subst hv0
    by_cases hi' : i < n
    · obtain ⟨gn, rfl⟩ : ∃ gn, gk = gn + 1 := ⟨gk - 1, by omega⟩
      have hlt : (i : Int) < (n : Int) := by omega
      have er := Lib.hid (err_at hinv.out.src)
      by_cases hes : es = 0
      · subst hes
        obtain ⟨own, src, tr, mi, hlen, hsz⟩ := hinv.out
        clear hinv
        obtain ⟨a, e4, y4, hg4⟩ := tri (gH (0, ys))
        have hgo := hg4
        have ka0 := shash_at src (by omega)
        have ha32 : a.length = 32 := by have h := gH_len (0, ys); rw [hg4] at h; exact h
        rw [hg4] at ka0
        simp only at ka0
        obtain ⟨z0, z1, z2, z3, z4, z5, z6, z7, z8, z9, z10, z11, z12, z13, z14, z15, z16, z17, z18, z19, z20, z21, z22, z23, z24, z25, z26, z27, z28, z29, z30, z31, rfl⟩ := list32 ha32
        have ka := Lib.hid (show Calls Try.prog 68 #[.pointer (some ⟨g, 0, none⟩)] wr (GotV wr lo hi g (.agg #[.int .u8 z0, .int .u8 z1, .int .u8 z2, .int .u8 z3, .int .u8 z4, .int .u8 z5, .int .u8 z6, .int .u8 z7, .int .u8 z8, .int .u8 z9, .int .u8 z10, .int .u8 z11, .int .u8 z12, .int .u8 z13, .int .u8 z14, .int .u8 z15, .int .u8 z16, .int .u8 z17, .int .u8 z18, .int .u8 z19, .int .u8 z20, .int .u8 z21, .int .u8 z22, .int .u8 z23, .int .u8 z24, .int .u8 z25, .int .u8 z26, .int .u8 z27, .int .u8 z28, .int .u8 z29, .int .u8 z30, .int .u8 z31]) e4 y4) from ka0)
        clear ka0 ha32
        have mi' := Lib.hid (mi.step hgo)
        have HO := Lib.hid (show _ ∧ _ ∧ _ ∧ _ from ⟨own, tr, hlen, hsz⟩)
        clear own src tr mi hlen hsz hg4 hgo
        go_wp2_with fail
        refine er.out.mono ?_
        rintro r w8 ⟨rfl, rfl⟩
        clear er
        go_wp2_with fail
        refine ka.out.mono ?_
        rintro r w9 ⟨rfl, hs9, ht9⟩
        obtain ⟨own, tr, hlen, hsz⟩ := HO.out
        clear HO ka
        have own' := own_tr (show w8.ownsRow B 35 32 _ _ _ from own) ht9 (fun b hb hc => by have h1 := (own_lt (show w8.ownsRow B 35 32 _ _ _ from own) b hb).1; have hc' : b = g := hc; omega)
        rw [hlen] at own'
        have hsz9 := Nat.le_trans hsz ht9.size
        obtain ⟨v', w', hrun, ho, hT, -⟩ := app_step appT111 (cs := #[.int .u8 z0, .int .u8 z1, .int .u8 z2, .int .u8 z3, .int .u8 z4, .int .u8 z5, .int .u8 z6, .int .u8 z7, .int .u8 z8, .int .u8 z9, .int .u8 z10, .int .u8 z11, .int .u8 z12, .int .u8 z13, .int .u8 z14, .int .u8 z15, .int .u8 z16, .int .u8 z17, .int .u8 z18, .int .u8 z19, .int .u8 z20, .int .u8 z21, .int .u8 z22, .int .u8 z23, .int .u8 z24, .int .u8 z25, .int .u8 z26, .int .u8 z27, .int .u8 z28, .int .u8 z29, .int .u8 z30, .int .u8 z31]) own' rfl (by kernel_rfl) (by omega) hsz9
        have hlt9 := fun b hb => (own_lt own' b hb).1
        have H := Lib.hid (show ManyI gH Oh w w' lo hi g B v' (i + 1) gn LX e3 x3 e4 y4 (K ++ [[z0, z1, z2, z3, z4, z5, z6, z7, z8, z9, z10, z11, z12, z13, z14, z15, z16, z17, z18, z19, z20, z21, z22, z23, z24, z25, z26, z27, z28, z29, z30, z31]]) from ⟨by unfold Oh; rw [List.length_append, flat_snoc, hlen]; exact ho, hs9.keep hT (fun b h1 h2 hx => by have := hlt9 b hx; omega), (tr.trans ht9).trans_new hT (fun b hc hlt => by have := hlt9 b hc; omega), mi'.out, by rw [List.length_append, hlen]; rfl, Nat.le_trans hsz9 hT.size⟩)
        clear own own' ho hT hs9 ht9 tr mi' hlt9 hlen hsz hsz9
        go_wp2_with (at_builtin; refine wpList_app rfl rfl rfl rfl hrun ?_)
        go_roundg gn
        case measure => omega
        case rel => exact ⟨i + 1, e4, y4, K ++ [[z0, z1, z2, z3, z4, z5, z6, z7, z8, z9, z10, z11, z12, z13, z14, z15, z16, z17, z18, z19, z20, z21, z22, z23, z24, z25, z26, z27, z28, z29, z30, z31]], by omega, by go_num, H⟩
      · have hq : (es != 0) = true := by rw [bne_iff_ne]; exact hes
        obtain ⟨rfl, rfl, rfl⟩ := hinv.out.mi.stop (.inl hes)
        go_wp2_with fail
        refine er.out.mono ?_
        rintro r w8 ⟨rfl, rfl⟩
        clear er
        go_wp2_with fail
        go_ret
        exact ⟨_, rfl, by first | exact hinv.out.own | (rw [hB]; exact hinv.out.own), hinv.out.src, hinv.out.tr⟩
    · obtain rfl : gk = 0 := by omega
      obtain rfl : i = n := by omega
      have hlt : ¬ (i : Int) < (i : Int) := by omega
      obtain ⟨rfl, rfl, rfl⟩ := hinv.out.mi.stop (.inr rfl)
      go_wp2_with fail
      go_ret
      exact ⟨_, rfl, by first | exact hinv.out.own | (rw [hB]; exact hinv.out.own), hinv.out.src, hinv.out.tr⟩
end Go.Proofs.Ytpdenhmkpiafiaa
