/-
  What the statement rests on, part 5: TxOf Amt3 TxGood TxDef OctHash TxPut.
-/
import Derived.Test.YtpdenhmkpiafiaaQTF1
import Derived.Test.YtpdenhmkpiafiaaQTF2
import Derived.Test.YtpdenhmkpiafiaaQTF3
namespace Go.Proofs.Ytpdenhmkpiafiaa
open Go Go.RowKit K6
structure Shp where
  n : Int
  t : Bool
  a : Int
  e : Bool
  h : Int
  c : Bool
def Shp.cs (s : Shp) : Array Value := #[.int .i64 s.n, .bool s.t, .int .i64 s.a, .bool s.e, .int .i64 s.h, .bool s.c]
def shpL : List Shp := [⟨2, false, 1, false, 0, false⟩, ⟨1, false, 0, false, 0, false⟩, ⟨1, false, 0, false, 0, false⟩, ⟨2, false, 0, false, 0, false⟩, ⟨2, false, 1, false, 0, false⟩, ⟨1, false, 1, false, 0, false⟩, ⟨1, false, 1, false, 0, false⟩, ⟨1, false, 0, false, 0, false⟩, ⟨1, false, 0, false, 0, false⟩, ⟨1, false, 0, false, 0, false⟩, ⟨1, false, 0, false, 0, false⟩, ⟨1, false, 1, false, 0, false⟩, ⟨2, false, 0, false, 0, false⟩, ⟨1, false, 0, false, 0, false⟩, ⟨0, false, 0, false, 0, false⟩, ⟨0, true, 0, false, 0, false⟩, ⟨2, false, 0, false, 0, false⟩, ⟨2, false, 0, false, 0, false⟩, ⟨2, false, 0, false, 0, false⟩, ⟨3, false, 0, false, 0, false⟩, ⟨3, false, 1, false, 0, false⟩, ⟨2, true, 0, true, 0, false⟩, ⟨1, false, 1, false, 0, false⟩, ⟨0, false, 0, false, 1, false⟩, ⟨1, false, 0, false, 0, false⟩, ⟨1, false, 0, false, 0, false⟩, ⟨0, false, 0, false, 0, true⟩, ⟨2, false, 0, false, 0, false⟩]
def shpZ : Shp := ⟨0, false, 0, false, 0, false⟩
def shpOf (k : Int) : Shp := if 1 ≤ k ∧ k ≤ 28 then shpL.getD (k - 1).toNat shpZ else shpZ
def okK (k : Int) : Bool := decide (1 ≤ k) && decide (k ≤ 28)
def OfP (w : World) (k : Int) (r : Ending) (w' : World) : Prop := r = .returned (.tuple #[.agg (shpOf k).cs, .bool (okK k)]) ∧ Below w.heap.size w w'
theorem aggT107 : AggT Try.prog 107 6 := ⟨⟨_, Try.underlying107, rfl⟩, by kernel_rfl⟩
set_option maxRecDepth 100000 in
set_option maxHeartbeats 4000000 in
theorem of_1 (w : World) : Calls Try.prog 131 #[.int .i64 1] w (OfP w 1) := by
  go_enter Try.func131, Try.ntmps131
  go_upto_region 4 with (fail)
  refine wp_abs (Mem w [(w.heap.size, 107, #[.int .i64 0, .bool false, .int .i64 0, .bool false, .int .i64 0, .bool false])]) ⟨by go_grown, by (repeat (first | (refine Row.new_at ?_; simp; done) | refine Row.alloc ?_ _)), trivial⟩ ?_
  intro w0 hM
  obtain ⟨hl, r0, -⟩ := hM
  let L : List Sp := [sO 1 (w.heap.size) 107 [0] (fun g => aggOf g 0)]
  refine wp_region_six0 (shs L) (look6 L) (fun c => c = w.heap.size) (by kernel_rfl) (by kernel_rfl) (mk_St L [1] [1] (by kernel_rfl) (by kernel_rfl) ⟨ok_O aggOf_congr r0.lt (rfl), trivial⟩ (by simp)) ?_
  intro QQ hQ
  refine stepK rfl (by kernel_rfl) (fun K hK => ?_); go_simp
  apply Exists.intro; apply And.intro; (focus (intro wk hk; go_simp; exact ⟨rfl, rfl⟩)); refine hK _ _ ?_; clear hK K
  refine stepS _ rfl (by kernel_rfl) (fun K hK => ?_); go_simp
  refine ⟨?_, ?_⟩
  · exact sStoreO rfl rfl rfl rfl rfl rfl r0 id (by kernel_rfl) rfl (by kernel_rfl) (by decide) aggOf_congr
  rintro ⟨v1, lo1, hi1⟩ - - (rfl : v1 = undef)
  refine hK _ _ ?_; clear hK K
  refine stepKz rfl (fun K hK => ?_); go_simp
  apply Exists.intro; apply And.intro; (focus (intro wk hk; go_simp; exact ⟨rfl, rfl⟩)); refine hK _ _ ?_; clear hK K
  refine stepN ?_
  refine hQ _ _ ?_
  intro w9 hT hG hF
  have x0 : Row w9 w.heap.size 107 (#[.int .i64 2, .bool false, .int .i64 1, .bool false, .int .i64 0, .bool false]) := hF 1 _ rfl rfl (by decide)
  have hl9 := Lib.hid (hl.trans (hT.below_of hl.size (by intro c hc; have hc' : c = w.heap.size := hc; omega)))
  clear hT hG hF hQ QQ L hl r0
  go_wp2_with fail
  refine bodyPost_ret (results_ct rfl aggT107 rfl x0 rfl) rfl ?_
  exact ⟨by kernel_rfl, hl9.out⟩
set_option maxRecDepth 100000 in
set_option maxHeartbeats 4000000 in
theorem of_2 (w : World) : Calls Try.prog 131 #[.int .i64 2] w (OfP w 2) := by
  go_enter Try.func131, Try.ntmps131
  go_upto_region 14 with (fail)
  refine wp_abs (Mem w [(w.heap.size, 107, #[.int .i64 0, .bool false, .int .i64 0, .bool false, .int .i64 0, .bool false])]) ⟨by go_grown, by (repeat (first | (refine Row.new_at ?_; simp; done) | refine Row.alloc ?_ _)), trivial⟩ ?_
  intro w0 hM
  obtain ⟨hl, r0, -⟩ := hM
  let L : List Sp := [sO 1 (w.heap.size) 107 [0] (fun g => aggOf g 0)]
  refine wp_region_six0 (shs L) (look6 L) (fun c => c = w.heap.size) (by kernel_rfl) (by kernel_rfl) (mk_St L [1] [1] (by kernel_rfl) (by kernel_rfl) ⟨ok_O aggOf_congr r0.lt (rfl), trivial⟩ (by simp)) ?_
  intro QQ hQ
  refine stepK rfl (by kernel_rfl) (fun K hK => ?_); go_simp
  apply Exists.intro; apply And.intro; (focus (intro wk hk; go_simp; exact ⟨rfl, rfl⟩)); refine hK _ _ ?_; clear hK K
  refine stepS _ rfl (by kernel_rfl) (fun K hK => ?_); go_simp
  refine ⟨?_, ?_⟩
  · exact sStoreO rfl rfl rfl rfl rfl rfl r0 id (by kernel_rfl) rfl (by kernel_rfl) (by decide) aggOf_congr
  rintro ⟨v1, lo1, hi1⟩ - - (rfl : v1 = undef)
  refine hK _ _ ?_; clear hK K
  refine stepKz rfl (fun K hK => ?_); go_simp
  apply Exists.intro; apply And.intro; (focus (intro wk hk; go_simp; exact ⟨rfl, rfl⟩)); refine hK _ _ ?_; clear hK K
  refine stepN ?_
  refine hQ _ _ ?_
  intro w9 hT hG hF
  have x0 : Row w9 w.heap.size 107 (#[.int .i64 1, .bool false, .int .i64 0, .bool false, .int .i64 0, .bool false]) := hF 1 _ rfl rfl (by decide)
  have hl9 := Lib.hid (hl.trans (hT.below_of hl.size (by intro c hc; have hc' : c = w.heap.size := hc; omega)))
  clear hT hG hF hQ QQ L hl r0
  go_wp2_with fail
  refine bodyPost_ret (results_ct rfl aggT107 rfl x0 rfl) rfl ?_
  exact ⟨by kernel_rfl, hl9.out⟩
set_option maxRecDepth 100000 in
set_option maxHeartbeats 4000000 in
theorem of_3 (w : World) : Calls Try.prog 131 #[.int .i64 3] w (OfP w 3) := by
  go_enter Try.func131, Try.ntmps131
  go_upto_region 14 with (fail)
  refine wp_abs (Mem w [(w.heap.size, 107, #[.int .i64 0, .bool false, .int .i64 0, .bool false, .int .i64 0, .bool false])]) ⟨by go_grown, by (repeat (first | (refine Row.new_at ?_; simp; done) | refine Row.alloc ?_ _)), trivial⟩ ?_
  intro w0 hM
  obtain ⟨hl, r0, -⟩ := hM
  let L : List Sp := [sO 1 (w.heap.size) 107 [0] (fun g => aggOf g 0)]
  refine wp_region_six0 (shs L) (look6 L) (fun c => c = w.heap.size) (by kernel_rfl) (by kernel_rfl) (mk_St L [1] [1] (by kernel_rfl) (by kernel_rfl) ⟨ok_O aggOf_congr r0.lt (rfl), trivial⟩ (by simp)) ?_
  intro QQ hQ
  refine stepK rfl (by kernel_rfl) (fun K hK => ?_); go_simp
  apply Exists.intro; apply And.intro; (focus (intro wk hk; go_simp; exact ⟨rfl, rfl⟩)); refine hK _ _ ?_; clear hK K
  refine stepS _ rfl (by kernel_rfl) (fun K hK => ?_); go_simp
  refine ⟨?_, ?_⟩
  · exact sStoreO rfl rfl rfl rfl rfl rfl r0 id (by kernel_rfl) rfl (by kernel_rfl) (by decide) aggOf_congr
  rintro ⟨v1, lo1, hi1⟩ - - (rfl : v1 = undef)
  refine hK _ _ ?_; clear hK K
  refine stepKz rfl (fun K hK => ?_); go_simp
  apply Exists.intro; apply And.intro; (focus (intro wk hk; go_simp; exact ⟨rfl, rfl⟩)); refine hK _ _ ?_; clear hK K
  refine stepN ?_
  refine hQ _ _ ?_
  intro w9 hT hG hF
  have x0 : Row w9 w.heap.size 107 (#[.int .i64 1, .bool false, .int .i64 0, .bool false, .int .i64 0, .bool false]) := hF 1 _ rfl rfl (by decide)
  have hl9 := Lib.hid (hl.trans (hT.below_of hl.size (by intro c hc; have hc' : c = w.heap.size := hc; omega)))
  clear hT hG hF hQ QQ L hl r0
  go_wp2_with fail
  refine bodyPost_ret (results_ct rfl aggT107 rfl x0 rfl) rfl ?_
  exact ⟨by kernel_rfl, hl9.out⟩
set_option maxRecDepth 100000 in
set_option maxHeartbeats 4000000 in
theorem of_4 (w : World) : Calls Try.prog 131 #[.int .i64 4] w (OfP w 4) := by
  go_enter Try.func131, Try.ntmps131
  go_upto_region 21 with (fail)
  refine wp_abs (Mem w [(w.heap.size, 107, #[.int .i64 0, .bool false, .int .i64 0, .bool false, .int .i64 0, .bool false])]) ⟨by go_grown, by (repeat (first | (refine Row.new_at ?_; simp; done) | refine Row.alloc ?_ _)), trivial⟩ ?_
  intro w0 hM
  obtain ⟨hl, r0, -⟩ := hM
  let L : List Sp := [sO 1 (w.heap.size) 107 [0] (fun g => aggOf g 0)]
  refine wp_region_six0 (shs L) (look6 L) (fun c => c = w.heap.size) (by kernel_rfl) (by kernel_rfl) (mk_St L [1] [1] (by kernel_rfl) (by kernel_rfl) ⟨ok_O aggOf_congr r0.lt (rfl), trivial⟩ (by simp)) ?_
  intro QQ hQ
  refine stepK rfl (by kernel_rfl) (fun K hK => ?_); go_simp
  apply Exists.intro; apply And.intro; (focus (intro wk hk; go_simp; exact ⟨rfl, rfl⟩)); refine hK _ _ ?_; clear hK K
  refine stepS _ rfl (by kernel_rfl) (fun K hK => ?_); go_simp
  refine ⟨?_, ?_⟩
  · exact sStoreO rfl rfl rfl rfl rfl rfl r0 id (by kernel_rfl) rfl (by kernel_rfl) (by decide) aggOf_congr
  rintro ⟨v1, lo1, hi1⟩ - - (rfl : v1 = undef)
  refine hK _ _ ?_; clear hK K
  refine stepKz rfl (fun K hK => ?_); go_simp
  apply Exists.intro; apply And.intro; (focus (intro wk hk; go_simp; exact ⟨rfl, rfl⟩)); refine hK _ _ ?_; clear hK K
  refine stepN ?_
  refine hQ _ _ ?_
  intro w9 hT hG hF
  have x0 : Row w9 w.heap.size 107 (#[.int .i64 2, .bool false, .int .i64 0, .bool false, .int .i64 0, .bool false]) := hF 1 _ rfl rfl (by decide)
  have hl9 := Lib.hid (hl.trans (hT.below_of hl.size (by intro c hc; have hc' : c = w.heap.size := hc; omega)))
  clear hT hG hF hQ QQ L hl r0
  go_wp2_with fail
  refine bodyPost_ret (results_ct rfl aggT107 rfl x0 rfl) rfl ?_
  exact ⟨by kernel_rfl, hl9.out⟩
set_option maxRecDepth 100000 in
set_option maxHeartbeats 4000000 in
theorem of_5 (w : World) : Calls Try.prog 131 #[.int .i64 5] w (OfP w 5) := by
  go_enter Try.func131, Try.ntmps131
  go_upto_region 4 with (fail)
  refine wp_abs (Mem w [(w.heap.size, 107, #[.int .i64 0, .bool false, .int .i64 0, .bool false, .int .i64 0, .bool false])]) ⟨by go_grown, by (repeat (first | (refine Row.new_at ?_; simp; done) | refine Row.alloc ?_ _)), trivial⟩ ?_
  intro w0 hM
  obtain ⟨hl, r0, -⟩ := hM
  let L : List Sp := [sO 1 (w.heap.size) 107 [0] (fun g => aggOf g 0)]
  refine wp_region_six0 (shs L) (look6 L) (fun c => c = w.heap.size) (by kernel_rfl) (by kernel_rfl) (mk_St L [1] [1] (by kernel_rfl) (by kernel_rfl) ⟨ok_O aggOf_congr r0.lt (rfl), trivial⟩ (by simp)) ?_
  intro QQ hQ
  refine stepK rfl (by kernel_rfl) (fun K hK => ?_); go_simp
  apply Exists.intro; apply And.intro; (focus (intro wk hk; go_simp; exact ⟨rfl, rfl⟩)); refine hK _ _ ?_; clear hK K
  refine stepS _ rfl (by kernel_rfl) (fun K hK => ?_); go_simp
  refine ⟨?_, ?_⟩
  · exact sStoreO rfl rfl rfl rfl rfl rfl r0 id (by kernel_rfl) rfl (by kernel_rfl) (by decide) aggOf_congr
  rintro ⟨v1, lo1, hi1⟩ - - (rfl : v1 = undef)
  refine hK _ _ ?_; clear hK K
  refine stepKz rfl (fun K hK => ?_); go_simp
  apply Exists.intro; apply And.intro; (focus (intro wk hk; go_simp; exact ⟨rfl, rfl⟩)); refine hK _ _ ?_; clear hK K
  refine stepN ?_
  refine hQ _ _ ?_
  intro w9 hT hG hF
  have x0 : Row w9 w.heap.size 107 (#[.int .i64 2, .bool false, .int .i64 1, .bool false, .int .i64 0, .bool false]) := hF 1 _ rfl rfl (by decide)
  have hl9 := Lib.hid (hl.trans (hT.below_of hl.size (by intro c hc; have hc' : c = w.heap.size := hc; omega)))
  clear hT hG hF hQ QQ L hl r0
  go_wp2_with fail
  refine bodyPost_ret (results_ct rfl aggT107 rfl x0 rfl) rfl ?_
  exact ⟨by kernel_rfl, hl9.out⟩
set_option maxRecDepth 100000 in
set_option maxHeartbeats 4000000 in
theorem of_6 (w : World) : Calls Try.prog 131 #[.int .i64 6] w (OfP w 6) := by
  go_enter Try.func131, Try.ntmps131
  go_upto_region 26 with (fail)
  refine wp_abs (Mem w [(w.heap.size, 107, #[.int .i64 0, .bool false, .int .i64 0, .bool false, .int .i64 0, .bool false])]) ⟨by go_grown, by (repeat (first | (refine Row.new_at ?_; simp; done) | refine Row.alloc ?_ _)), trivial⟩ ?_
  intro w0 hM
  obtain ⟨hl, r0, -⟩ := hM
  let L : List Sp := [sO 1 (w.heap.size) 107 [0] (fun g => aggOf g 0)]
  refine wp_region_six0 (shs L) (look6 L) (fun c => c = w.heap.size) (by kernel_rfl) (by kernel_rfl) (mk_St L [1] [1] (by kernel_rfl) (by kernel_rfl) ⟨ok_O aggOf_congr r0.lt (rfl), trivial⟩ (by simp)) ?_
  intro QQ hQ
  refine stepK rfl (by kernel_rfl) (fun K hK => ?_); go_simp
  apply Exists.intro; apply And.intro; (focus (intro wk hk; go_simp; exact ⟨rfl, rfl⟩)); refine hK _ _ ?_; clear hK K
  refine stepS _ rfl (by kernel_rfl) (fun K hK => ?_); go_simp
  refine ⟨?_, ?_⟩
  · exact sStoreO rfl rfl rfl rfl rfl rfl r0 id (by kernel_rfl) rfl (by kernel_rfl) (by decide) aggOf_congr
  rintro ⟨v1, lo1, hi1⟩ - - (rfl : v1 = undef)
  refine hK _ _ ?_; clear hK K
  refine stepKz rfl (fun K hK => ?_); go_simp
  apply Exists.intro; apply And.intro; (focus (intro wk hk; go_simp; exact ⟨rfl, rfl⟩)); refine hK _ _ ?_; clear hK K
  refine stepN ?_
  refine hQ _ _ ?_
  intro w9 hT hG hF
  have x0 : Row w9 w.heap.size 107 (#[.int .i64 1, .bool false, .int .i64 1, .bool false, .int .i64 0, .bool false]) := hF 1 _ rfl rfl (by decide)
  have hl9 := Lib.hid (hl.trans (hT.below_of hl.size (by intro c hc; have hc' : c = w.heap.size := hc; omega)))
  clear hT hG hF hQ QQ L hl r0
  go_wp2_with fail
  refine bodyPost_ret (results_ct rfl aggT107 rfl x0 rfl) rfl ?_
  exact ⟨by kernel_rfl, hl9.out⟩
set_option maxRecDepth 100000 in
set_option maxHeartbeats 4000000 in
theorem of_7 (w : World) : Calls Try.prog 131 #[.int .i64 7] w (OfP w 7) := by
  go_enter Try.func131, Try.ntmps131
  go_upto_region 26 with (fail)
  refine wp_abs (Mem w [(w.heap.size, 107, #[.int .i64 0, .bool false, .int .i64 0, .bool false, .int .i64 0, .bool false])]) ⟨by go_grown, by (repeat (first | (refine Row.new_at ?_; simp; done) | refine Row.alloc ?_ _)), trivial⟩ ?_
  intro w0 hM
  obtain ⟨hl, r0, -⟩ := hM
  let L : List Sp := [sO 1 (w.heap.size) 107 [0] (fun g => aggOf g 0)]
  refine wp_region_six0 (shs L) (look6 L) (fun c => c = w.heap.size) (by kernel_rfl) (by kernel_rfl) (mk_St L [1] [1] (by kernel_rfl) (by kernel_rfl) ⟨ok_O aggOf_congr r0.lt (rfl), trivial⟩ (by simp)) ?_
  intro QQ hQ
  refine stepK rfl (by kernel_rfl) (fun K hK => ?_); go_simp
  apply Exists.intro; apply And.intro; (focus (intro wk hk; go_simp; exact ⟨rfl, rfl⟩)); refine hK _ _ ?_; clear hK K
  refine stepS _ rfl (by kernel_rfl) (fun K hK => ?_); go_simp
  refine ⟨?_, ?_⟩
  · exact sStoreO rfl rfl rfl rfl rfl rfl r0 id (by kernel_rfl) rfl (by kernel_rfl) (by decide) aggOf_congr
  rintro ⟨v1, lo1, hi1⟩ - - (rfl : v1 = undef)
  refine hK _ _ ?_; clear hK K
  refine stepKz rfl (fun K hK => ?_); go_simp
  apply Exists.intro; apply And.intro; (focus (intro wk hk; go_simp; exact ⟨rfl, rfl⟩)); refine hK _ _ ?_; clear hK K
  refine stepN ?_
  refine hQ _ _ ?_
  intro w9 hT hG hF
  have x0 : Row w9 w.heap.size 107 (#[.int .i64 1, .bool false, .int .i64 1, .bool false, .int .i64 0, .bool false]) := hF 1 _ rfl rfl (by decide)
  have hl9 := Lib.hid (hl.trans (hT.below_of hl.size (by intro c hc; have hc' : c = w.heap.size := hc; omega)))
  clear hT hG hF hQ QQ L hl r0
  go_wp2_with fail
  refine bodyPost_ret (results_ct rfl aggT107 rfl x0 rfl) rfl ?_
  exact ⟨by kernel_rfl, hl9.out⟩
set_option maxRecDepth 100000 in
set_option maxHeartbeats 4000000 in
theorem of_8 (w : World) : Calls Try.prog 131 #[.int .i64 8] w (OfP w 8) := by
  go_enter Try.func131, Try.ntmps131
  go_upto_region 14 with (fail)
  refine wp_abs (Mem w [(w.heap.size, 107, #[.int .i64 0, .bool false, .int .i64 0, .bool false, .int .i64 0, .bool false])]) ⟨by go_grown, by (repeat (first | (refine Row.new_at ?_; simp; done) | refine Row.alloc ?_ _)), trivial⟩ ?_
  intro w0 hM
  obtain ⟨hl, r0, -⟩ := hM
  let L : List Sp := [sO 1 (w.heap.size) 107 [0] (fun g => aggOf g 0)]
  refine wp_region_six0 (shs L) (look6 L) (fun c => c = w.heap.size) (by kernel_rfl) (by kernel_rfl) (mk_St L [1] [1] (by kernel_rfl) (by kernel_rfl) ⟨ok_O aggOf_congr r0.lt (rfl), trivial⟩ (by simp)) ?_
  intro QQ hQ
  refine stepK rfl (by kernel_rfl) (fun K hK => ?_); go_simp
  apply Exists.intro; apply And.intro; (focus (intro wk hk; go_simp; exact ⟨rfl, rfl⟩)); refine hK _ _ ?_; clear hK K
  refine stepS _ rfl (by kernel_rfl) (fun K hK => ?_); go_simp
  refine ⟨?_, ?_⟩
  · exact sStoreO rfl rfl rfl rfl rfl rfl r0 id (by kernel_rfl) rfl (by kernel_rfl) (by decide) aggOf_congr
  rintro ⟨v1, lo1, hi1⟩ - - (rfl : v1 = undef)
  refine hK _ _ ?_; clear hK K
  refine stepKz rfl (fun K hK => ?_); go_simp
  apply Exists.intro; apply And.intro; (focus (intro wk hk; go_simp; exact ⟨rfl, rfl⟩)); refine hK _ _ ?_; clear hK K
  refine stepN ?_
  refine hQ _ _ ?_
  intro w9 hT hG hF
  have x0 : Row w9 w.heap.size 107 (#[.int .i64 1, .bool false, .int .i64 0, .bool false, .int .i64 0, .bool false]) := hF 1 _ rfl rfl (by decide)
  have hl9 := Lib.hid (hl.trans (hT.below_of hl.size (by intro c hc; have hc' : c = w.heap.size := hc; omega)))
  clear hT hG hF hQ QQ L hl r0
  go_wp2_with fail
  refine bodyPost_ret (results_ct rfl aggT107 rfl x0 rfl) rfl ?_
  exact ⟨by kernel_rfl, hl9.out⟩
set_option maxRecDepth 100000 in
set_option maxHeartbeats 4000000 in
theorem of_9 (w : World) : Calls Try.prog 131 #[.int .i64 9] w (OfP w 9) := by
  go_enter Try.func131, Try.ntmps131
  go_upto_region 14 with (fail)
  refine wp_abs (Mem w [(w.heap.size, 107, #[.int .i64 0, .bool false, .int .i64 0, .bool false, .int .i64 0, .bool false])]) ⟨by go_grown, by (repeat (first | (refine Row.new_at ?_; simp; done) | refine Row.alloc ?_ _)), trivial⟩ ?_
  intro w0 hM
  obtain ⟨hl, r0, -⟩ := hM
  let L : List Sp := [sO 1 (w.heap.size) 107 [0] (fun g => aggOf g 0)]
  refine wp_region_six0 (shs L) (look6 L) (fun c => c = w.heap.size) (by kernel_rfl) (by kernel_rfl) (mk_St L [1] [1] (by kernel_rfl) (by kernel_rfl) ⟨ok_O aggOf_congr r0.lt (rfl), trivial⟩ (by simp)) ?_
  intro QQ hQ
  refine stepK rfl (by kernel_rfl) (fun K hK => ?_); go_simp
  apply Exists.intro; apply And.intro; (focus (intro wk hk; go_simp; exact ⟨rfl, rfl⟩)); refine hK _ _ ?_; clear hK K
  refine stepS _ rfl (by kernel_rfl) (fun K hK => ?_); go_simp
  refine ⟨?_, ?_⟩
  · exact sStoreO rfl rfl rfl rfl rfl rfl r0 id (by kernel_rfl) rfl (by kernel_rfl) (by decide) aggOf_congr
  rintro ⟨v1, lo1, hi1⟩ - - (rfl : v1 = undef)
  refine hK _ _ ?_; clear hK K
  refine stepKz rfl (fun K hK => ?_); go_simp
  apply Exists.intro; apply And.intro; (focus (intro wk hk; go_simp; exact ⟨rfl, rfl⟩)); refine hK _ _ ?_; clear hK K
  refine stepN ?_
  refine hQ _ _ ?_
  intro w9 hT hG hF
  have x0 : Row w9 w.heap.size 107 (#[.int .i64 1, .bool false, .int .i64 0, .bool false, .int .i64 0, .bool false]) := hF 1 _ rfl rfl (by decide)
  have hl9 := Lib.hid (hl.trans (hT.below_of hl.size (by intro c hc; have hc' : c = w.heap.size := hc; omega)))
  clear hT hG hF hQ QQ L hl r0
  go_wp2_with fail
  refine bodyPost_ret (results_ct rfl aggT107 rfl x0 rfl) rfl ?_
  exact ⟨by kernel_rfl, hl9.out⟩
set_option maxRecDepth 100000 in
set_option maxHeartbeats 4000000 in
theorem of_10 (w : World) : Calls Try.prog 131 #[.int .i64 10] w (OfP w 10) := by
  go_enter Try.func131, Try.ntmps131
  go_upto_region 14 with (fail)
  refine wp_abs (Mem w [(w.heap.size, 107, #[.int .i64 0, .bool false, .int .i64 0, .bool false, .int .i64 0, .bool false])]) ⟨by go_grown, by (repeat (first | (refine Row.new_at ?_; simp; done) | refine Row.alloc ?_ _)), trivial⟩ ?_
  intro w0 hM
  obtain ⟨hl, r0, -⟩ := hM
  let L : List Sp := [sO 1 (w.heap.size) 107 [0] (fun g => aggOf g 0)]
  refine wp_region_six0 (shs L) (look6 L) (fun c => c = w.heap.size) (by kernel_rfl) (by kernel_rfl) (mk_St L [1] [1] (by kernel_rfl) (by kernel_rfl) ⟨ok_O aggOf_congr r0.lt (rfl), trivial⟩ (by simp)) ?_
  intro QQ hQ
  refine stepK rfl (by kernel_rfl) (fun K hK => ?_); go_simp
  apply Exists.intro; apply And.intro; (focus (intro wk hk; go_simp; exact ⟨rfl, rfl⟩)); refine hK _ _ ?_; clear hK K
  refine stepS _ rfl (by kernel_rfl) (fun K hK => ?_); go_simp
  refine ⟨?_, ?_⟩
  · exact sStoreO rfl rfl rfl rfl rfl rfl r0 id (by kernel_rfl) rfl (by kernel_rfl) (by decide) aggOf_congr
  rintro ⟨v1, lo1, hi1⟩ - - (rfl : v1 = undef)
  refine hK _ _ ?_; clear hK K
  refine stepKz rfl (fun K hK => ?_); go_simp
  apply Exists.intro; apply And.intro; (focus (intro wk hk; go_simp; exact ⟨rfl, rfl⟩)); refine hK _ _ ?_; clear hK K
  refine stepN ?_
  refine hQ _ _ ?_
  intro w9 hT hG hF
  have x0 : Row w9 w.heap.size 107 (#[.int .i64 1, .bool false, .int .i64 0, .bool false, .int .i64 0, .bool false]) := hF 1 _ rfl rfl (by decide)
  have hl9 := Lib.hid (hl.trans (hT.below_of hl.size (by intro c hc; have hc' : c = w.heap.size := hc; omega)))
  clear hT hG hF hQ QQ L hl r0
  go_wp2_with fail
  refine bodyPost_ret (results_ct rfl aggT107 rfl x0 rfl) rfl ?_
  exact ⟨by kernel_rfl, hl9.out⟩
set_option maxRecDepth 100000 in
set_option maxHeartbeats 4000000 in
theorem of_11 (w : World) : Calls Try.prog 131 #[.int .i64 11] w (OfP w 11) := by
  go_enter Try.func131, Try.ntmps131
  go_upto_region 14 with (fail)
  refine wp_abs (Mem w [(w.heap.size, 107, #[.int .i64 0, .bool false, .int .i64 0, .bool false, .int .i64 0, .bool false])]) ⟨by go_grown, by (repeat (first | (refine Row.new_at ?_; simp; done) | refine Row.alloc ?_ _)), trivial⟩ ?_
  intro w0 hM
  obtain ⟨hl, r0, -⟩ := hM
  let L : List Sp := [sO 1 (w.heap.size) 107 [0] (fun g => aggOf g 0)]
  refine wp_region_six0 (shs L) (look6 L) (fun c => c = w.heap.size) (by kernel_rfl) (by kernel_rfl) (mk_St L [1] [1] (by kernel_rfl) (by kernel_rfl) ⟨ok_O aggOf_congr r0.lt (rfl), trivial⟩ (by simp)) ?_
  intro QQ hQ
  refine stepK rfl (by kernel_rfl) (fun K hK => ?_); go_simp
  apply Exists.intro; apply And.intro; (focus (intro wk hk; go_simp; exact ⟨rfl, rfl⟩)); refine hK _ _ ?_; clear hK K
  refine stepS _ rfl (by kernel_rfl) (fun K hK => ?_); go_simp
  refine ⟨?_, ?_⟩
  · exact sStoreO rfl rfl rfl rfl rfl rfl r0 id (by kernel_rfl) rfl (by kernel_rfl) (by decide) aggOf_congr
  rintro ⟨v1, lo1, hi1⟩ - - (rfl : v1 = undef)
  refine hK _ _ ?_; clear hK K
  refine stepKz rfl (fun K hK => ?_); go_simp
  apply Exists.intro; apply And.intro; (focus (intro wk hk; go_simp; exact ⟨rfl, rfl⟩)); refine hK _ _ ?_; clear hK K
  refine stepN ?_
  refine hQ _ _ ?_
  intro w9 hT hG hF
  have x0 : Row w9 w.heap.size 107 (#[.int .i64 1, .bool false, .int .i64 0, .bool false, .int .i64 0, .bool false]) := hF 1 _ rfl rfl (by decide)
  have hl9 := Lib.hid (hl.trans (hT.below_of hl.size (by intro c hc; have hc' : c = w.heap.size := hc; omega)))
  clear hT hG hF hQ QQ L hl r0
  go_wp2_with fail
  refine bodyPost_ret (results_ct rfl aggT107 rfl x0 rfl) rfl ?_
  exact ⟨by kernel_rfl, hl9.out⟩
set_option maxRecDepth 100000 in
set_option maxHeartbeats 4000000 in
theorem of_12 (w : World) : Calls Try.prog 131 #[.int .i64 12] w (OfP w 12) := by
  go_enter Try.func131, Try.ntmps131
  go_upto_region 26 with (fail)
  refine wp_abs (Mem w [(w.heap.size, 107, #[.int .i64 0, .bool false, .int .i64 0, .bool false, .int .i64 0, .bool false])]) ⟨by go_grown, by (repeat (first | (refine Row.new_at ?_; simp; done) | refine Row.alloc ?_ _)), trivial⟩ ?_
  intro w0 hM
  obtain ⟨hl, r0, -⟩ := hM
  let L : List Sp := [sO 1 (w.heap.size) 107 [0] (fun g => aggOf g 0)]
  refine wp_region_six0 (shs L) (look6 L) (fun c => c = w.heap.size) (by kernel_rfl) (by kernel_rfl) (mk_St L [1] [1] (by kernel_rfl) (by kernel_rfl) ⟨ok_O aggOf_congr r0.lt (rfl), trivial⟩ (by simp)) ?_
  intro QQ hQ
  refine stepK rfl (by kernel_rfl) (fun K hK => ?_); go_simp
  apply Exists.intro; apply And.intro; (focus (intro wk hk; go_simp; exact ⟨rfl, rfl⟩)); refine hK _ _ ?_; clear hK K
  refine stepS _ rfl (by kernel_rfl) (fun K hK => ?_); go_simp
  refine ⟨?_, ?_⟩
  · exact sStoreO rfl rfl rfl rfl rfl rfl r0 id (by kernel_rfl) rfl (by kernel_rfl) (by decide) aggOf_congr
  rintro ⟨v1, lo1, hi1⟩ - - (rfl : v1 = undef)
  refine hK _ _ ?_; clear hK K
  refine stepKz rfl (fun K hK => ?_); go_simp
  apply Exists.intro; apply And.intro; (focus (intro wk hk; go_simp; exact ⟨rfl, rfl⟩)); refine hK _ _ ?_; clear hK K
  refine stepN ?_
  refine hQ _ _ ?_
  intro w9 hT hG hF
  have x0 : Row w9 w.heap.size 107 (#[.int .i64 1, .bool false, .int .i64 1, .bool false, .int .i64 0, .bool false]) := hF 1 _ rfl rfl (by decide)
  have hl9 := Lib.hid (hl.trans (hT.below_of hl.size (by intro c hc; have hc' : c = w.heap.size := hc; omega)))
  clear hT hG hF hQ QQ L hl r0
  go_wp2_with fail
  refine bodyPost_ret (results_ct rfl aggT107 rfl x0 rfl) rfl ?_
  exact ⟨by kernel_rfl, hl9.out⟩
set_option maxRecDepth 100000 in
set_option maxHeartbeats 4000000 in
theorem of_13 (w : World) : Calls Try.prog 131 #[.int .i64 13] w (OfP w 13) := by
  go_enter Try.func131, Try.ntmps131
  go_upto_region 21 with (fail)
  refine wp_abs (Mem w [(w.heap.size, 107, #[.int .i64 0, .bool false, .int .i64 0, .bool false, .int .i64 0, .bool false])]) ⟨by go_grown, by (repeat (first | (refine Row.new_at ?_; simp; done) | refine Row.alloc ?_ _)), trivial⟩ ?_
  intro w0 hM
  obtain ⟨hl, r0, -⟩ := hM
  let L : List Sp := [sO 1 (w.heap.size) 107 [0] (fun g => aggOf g 0)]
  refine wp_region_six0 (shs L) (look6 L) (fun c => c = w.heap.size) (by kernel_rfl) (by kernel_rfl) (mk_St L [1] [1] (by kernel_rfl) (by kernel_rfl) ⟨ok_O aggOf_congr r0.lt (rfl), trivial⟩ (by simp)) ?_
  intro QQ hQ
  refine stepK rfl (by kernel_rfl) (fun K hK => ?_); go_simp
  apply Exists.intro; apply And.intro; (focus (intro wk hk; go_simp; exact ⟨rfl, rfl⟩)); refine hK _ _ ?_; clear hK K
  refine stepS _ rfl (by kernel_rfl) (fun K hK => ?_); go_simp
  refine ⟨?_, ?_⟩
  · exact sStoreO rfl rfl rfl rfl rfl rfl r0 id (by kernel_rfl) rfl (by kernel_rfl) (by decide) aggOf_congr
  rintro ⟨v1, lo1, hi1⟩ - - (rfl : v1 = undef)
  refine hK _ _ ?_; clear hK K
  refine stepKz rfl (fun K hK => ?_); go_simp
  apply Exists.intro; apply And.intro; (focus (intro wk hk; go_simp; exact ⟨rfl, rfl⟩)); refine hK _ _ ?_; clear hK K
  refine stepN ?_
  refine hQ _ _ ?_
  intro w9 hT hG hF
  have x0 : Row w9 w.heap.size 107 (#[.int .i64 2, .bool false, .int .i64 0, .bool false, .int .i64 0, .bool false]) := hF 1 _ rfl rfl (by decide)
  have hl9 := Lib.hid (hl.trans (hT.below_of hl.size (by intro c hc; have hc' : c = w.heap.size := hc; omega)))
  clear hT hG hF hQ QQ L hl r0
  go_wp2_with fail
  refine bodyPost_ret (results_ct rfl aggT107 rfl x0 rfl) rfl ?_
  exact ⟨by kernel_rfl, hl9.out⟩
set_option maxRecDepth 100000 in
set_option maxHeartbeats 4000000 in
theorem of_14 (w : World) : Calls Try.prog 131 #[.int .i64 14] w (OfP w 14) := by
  go_enter Try.func131, Try.ntmps131
  go_upto_region 14 with (fail)
  refine wp_abs (Mem w [(w.heap.size, 107, #[.int .i64 0, .bool false, .int .i64 0, .bool false, .int .i64 0, .bool false])]) ⟨by go_grown, by (repeat (first | (refine Row.new_at ?_; simp; done) | refine Row.alloc ?_ _)), trivial⟩ ?_
  intro w0 hM
  obtain ⟨hl, r0, -⟩ := hM
  let L : List Sp := [sO 1 (w.heap.size) 107 [0] (fun g => aggOf g 0)]
  refine wp_region_six0 (shs L) (look6 L) (fun c => c = w.heap.size) (by kernel_rfl) (by kernel_rfl) (mk_St L [1] [1] (by kernel_rfl) (by kernel_rfl) ⟨ok_O aggOf_congr r0.lt (rfl), trivial⟩ (by simp)) ?_
  intro QQ hQ
  refine stepK rfl (by kernel_rfl) (fun K hK => ?_); go_simp
  apply Exists.intro; apply And.intro; (focus (intro wk hk; go_simp; exact ⟨rfl, rfl⟩)); refine hK _ _ ?_; clear hK K
  refine stepS _ rfl (by kernel_rfl) (fun K hK => ?_); go_simp
  refine ⟨?_, ?_⟩
  · exact sStoreO rfl rfl rfl rfl rfl rfl r0 id (by kernel_rfl) rfl (by kernel_rfl) (by decide) aggOf_congr
  rintro ⟨v1, lo1, hi1⟩ - - (rfl : v1 = undef)
  refine hK _ _ ?_; clear hK K
  refine stepKz rfl (fun K hK => ?_); go_simp
  apply Exists.intro; apply And.intro; (focus (intro wk hk; go_simp; exact ⟨rfl, rfl⟩)); refine hK _ _ ?_; clear hK K
  refine stepN ?_
  refine hQ _ _ ?_
  intro w9 hT hG hF
  have x0 : Row w9 w.heap.size 107 (#[.int .i64 1, .bool false, .int .i64 0, .bool false, .int .i64 0, .bool false]) := hF 1 _ rfl rfl (by decide)
  have hl9 := Lib.hid (hl.trans (hT.below_of hl.size (by intro c hc; have hc' : c = w.heap.size := hc; omega)))
  clear hT hG hF hQ QQ L hl r0
  go_wp2_with fail
  refine bodyPost_ret (results_ct rfl aggT107 rfl x0 rfl) rfl ?_
  exact ⟨by kernel_rfl, hl9.out⟩
set_option maxRecDepth 100000 in
set_option maxHeartbeats 4000000 in
theorem of_15 (w : World) : Calls Try.prog 131 #[.int .i64 15] w (OfP w 15) := by
  go_enter Try.func131, Try.ntmps131
  go_upto_region 28 with (fail)
  refine wp_abs (Mem w [(w.heap.size, 107, #[.int .i64 0, .bool false, .int .i64 0, .bool false, .int .i64 0, .bool false])]) ⟨by go_grown, by (repeat (first | (refine Row.new_at ?_; simp; done) | refine Row.alloc ?_ _)), trivial⟩ ?_
  intro w0 hM
  obtain ⟨hl, r0, -⟩ := hM
  let L : List Sp := [sO 1 (w.heap.size) 107 [0] (fun g => aggOf g 0)]
  refine wp_region_six0 (shs L) (look6 L) (fun c => c = w.heap.size) (by kernel_rfl) (by kernel_rfl) (mk_St L [1] [1] (by kernel_rfl) (by kernel_rfl) ⟨ok_O aggOf_congr r0.lt (rfl), trivial⟩ (by simp)) ?_
  intro QQ hQ
  refine stepK rfl (by kernel_rfl) (fun K hK => ?_); go_simp
  apply Exists.intro; apply And.intro; (focus (intro wk hk; go_simp; exact ⟨rfl, rfl⟩)); refine hK _ _ ?_; clear hK K
  refine stepS _ rfl (by kernel_rfl) (fun K hK => ?_); go_simp
  refine ⟨?_, ?_⟩
  · exact sStoreO rfl rfl rfl rfl rfl rfl r0 id (by kernel_rfl) rfl (by kernel_rfl) (by decide) aggOf_congr
  rintro ⟨v1, lo1, hi1⟩ - - (rfl : v1 = undef)
  refine hK _ _ ?_; clear hK K
  refine stepKz rfl (fun K hK => ?_); go_simp
  apply Exists.intro; apply And.intro; (focus (intro wk hk; go_simp; exact ⟨rfl, rfl⟩)); refine hK _ _ ?_; clear hK K
  refine stepN ?_
  refine hQ _ _ ?_
  intro w9 hT hG hF
  have x0 : Row w9 w.heap.size 107 (#[.int .i64 0, .bool false, .int .i64 0, .bool false, .int .i64 0, .bool false]) := hF 1 _ rfl rfl (by decide)
  have hl9 := Lib.hid (hl.trans (hT.below_of hl.size (by intro c hc; have hc' : c = w.heap.size := hc; omega)))
  clear hT hG hF hQ QQ L hl r0
  go_wp2_with fail
  refine bodyPost_ret (results_ct rfl aggT107 rfl x0 rfl) rfl ?_
  exact ⟨by kernel_rfl, hl9.out⟩
set_option maxRecDepth 100000 in
set_option maxHeartbeats 4000000 in
theorem of_16 (w : World) : Calls Try.prog 131 #[.int .i64 16] w (OfP w 16) := by
  go_enter Try.func131, Try.ntmps131
  go_upto_region 30 with (fail)
  refine wp_abs (Mem w [(w.heap.size, 107, #[.int .i64 0, .bool false, .int .i64 0, .bool false, .int .i64 0, .bool false])]) ⟨by go_grown, by (repeat (first | (refine Row.new_at ?_; simp; done) | refine Row.alloc ?_ _)), trivial⟩ ?_
  intro w0 hM
  obtain ⟨hl, r0, -⟩ := hM
  let L : List Sp := [sO 1 (w.heap.size) 107 [0] (fun g => aggOf g 0)]
  refine wp_region_six0 (shs L) (look6 L) (fun c => c = w.heap.size) (by kernel_rfl) (by kernel_rfl) (mk_St L [1] [1] (by kernel_rfl) (by kernel_rfl) ⟨ok_O aggOf_congr r0.lt (rfl), trivial⟩ (by simp)) ?_
  intro QQ hQ
  refine stepK rfl (by kernel_rfl) (fun K hK => ?_); go_simp
  apply Exists.intro; apply And.intro; (focus (intro wk hk; go_simp; exact ⟨rfl, rfl⟩)); refine hK _ _ ?_; clear hK K
  refine stepS _ rfl (by kernel_rfl) (fun K hK => ?_); go_simp
  refine ⟨?_, ?_⟩
  · exact sStoreO rfl rfl rfl rfl rfl rfl r0 id (by kernel_rfl) rfl (by kernel_rfl) (by decide) aggOf_congr
  rintro ⟨v1, lo1, hi1⟩ - - (rfl : v1 = undef)
  refine hK _ _ ?_; clear hK K
  refine stepKz rfl (fun K hK => ?_); go_simp
  apply Exists.intro; apply And.intro; (focus (intro wk hk; go_simp; exact ⟨rfl, rfl⟩)); refine hK _ _ ?_; clear hK K
  refine stepN ?_
  refine hQ _ _ ?_
  intro w9 hT hG hF
  have x0 : Row w9 w.heap.size 107 (#[.int .i64 0, .bool true, .int .i64 0, .bool false, .int .i64 0, .bool false]) := hF 1 _ rfl rfl (by decide)
  have hl9 := Lib.hid (hl.trans (hT.below_of hl.size (by intro c hc; have hc' : c = w.heap.size := hc; omega)))
  clear hT hG hF hQ QQ L hl r0
  go_wp2_with fail
  refine bodyPost_ret (results_ct rfl aggT107 rfl x0 rfl) rfl ?_
  exact ⟨by kernel_rfl, hl9.out⟩
set_option maxRecDepth 100000 in
set_option maxHeartbeats 4000000 in
theorem of_17 (w : World) : Calls Try.prog 131 #[.int .i64 17] w (OfP w 17) := by
  go_enter Try.func131, Try.ntmps131
  go_upto_region 21 with (fail)
  refine wp_abs (Mem w [(w.heap.size, 107, #[.int .i64 0, .bool false, .int .i64 0, .bool false, .int .i64 0, .bool false])]) ⟨by go_grown, by (repeat (first | (refine Row.new_at ?_; simp; done) | refine Row.alloc ?_ _)), trivial⟩ ?_
  intro w0 hM
  obtain ⟨hl, r0, -⟩ := hM
  let L : List Sp := [sO 1 (w.heap.size) 107 [0] (fun g => aggOf g 0)]
  refine wp_region_six0 (shs L) (look6 L) (fun c => c = w.heap.size) (by kernel_rfl) (by kernel_rfl) (mk_St L [1] [1] (by kernel_rfl) (by kernel_rfl) ⟨ok_O aggOf_congr r0.lt (rfl), trivial⟩ (by simp)) ?_
  intro QQ hQ
  refine stepK rfl (by kernel_rfl) (fun K hK => ?_); go_simp
  apply Exists.intro; apply And.intro; (focus (intro wk hk; go_simp; exact ⟨rfl, rfl⟩)); refine hK _ _ ?_; clear hK K
  refine stepS _ rfl (by kernel_rfl) (fun K hK => ?_); go_simp
  refine ⟨?_, ?_⟩
  · exact sStoreO rfl rfl rfl rfl rfl rfl r0 id (by kernel_rfl) rfl (by kernel_rfl) (by decide) aggOf_congr
  rintro ⟨v1, lo1, hi1⟩ - - (rfl : v1 = undef)
  refine hK _ _ ?_; clear hK K
  refine stepKz rfl (fun K hK => ?_); go_simp
  apply Exists.intro; apply And.intro; (focus (intro wk hk; go_simp; exact ⟨rfl, rfl⟩)); refine hK _ _ ?_; clear hK K
  refine stepN ?_
  refine hQ _ _ ?_
  intro w9 hT hG hF
  have x0 : Row w9 w.heap.size 107 (#[.int .i64 2, .bool false, .int .i64 0, .bool false, .int .i64 0, .bool false]) := hF 1 _ rfl rfl (by decide)
  have hl9 := Lib.hid (hl.trans (hT.below_of hl.size (by intro c hc; have hc' : c = w.heap.size := hc; omega)))
  clear hT hG hF hQ QQ L hl r0
  go_wp2_with fail
  refine bodyPost_ret (results_ct rfl aggT107 rfl x0 rfl) rfl ?_
  exact ⟨by kernel_rfl, hl9.out⟩
set_option maxRecDepth 100000 in
set_option maxHeartbeats 4000000 in
theorem of_18 (w : World) : Calls Try.prog 131 #[.int .i64 18] w (OfP w 18) := by
  go_enter Try.func131, Try.ntmps131
  go_upto_region 21 with (fail)
  refine wp_abs (Mem w [(w.heap.size, 107, #[.int .i64 0, .bool false, .int .i64 0, .bool false, .int .i64 0, .bool false])]) ⟨by go_grown, by (repeat (first | (refine Row.new_at ?_; simp; done) | refine Row.alloc ?_ _)), trivial⟩ ?_
  intro w0 hM
  obtain ⟨hl, r0, -⟩ := hM
  let L : List Sp := [sO 1 (w.heap.size) 107 [0] (fun g => aggOf g 0)]
  refine wp_region_six0 (shs L) (look6 L) (fun c => c = w.heap.size) (by kernel_rfl) (by kernel_rfl) (mk_St L [1] [1] (by kernel_rfl) (by kernel_rfl) ⟨ok_O aggOf_congr r0.lt (rfl), trivial⟩ (by simp)) ?_
  intro QQ hQ
  refine stepK rfl (by kernel_rfl) (fun K hK => ?_); go_simp
  apply Exists.intro; apply And.intro; (focus (intro wk hk; go_simp; exact ⟨rfl, rfl⟩)); refine hK _ _ ?_; clear hK K
  refine stepS _ rfl (by kernel_rfl) (fun K hK => ?_); go_simp
  refine ⟨?_, ?_⟩
  · exact sStoreO rfl rfl rfl rfl rfl rfl r0 id (by kernel_rfl) rfl (by kernel_rfl) (by decide) aggOf_congr
  rintro ⟨v1, lo1, hi1⟩ - - (rfl : v1 = undef)
  refine hK _ _ ?_; clear hK K
  refine stepKz rfl (fun K hK => ?_); go_simp
  apply Exists.intro; apply And.intro; (focus (intro wk hk; go_simp; exact ⟨rfl, rfl⟩)); refine hK _ _ ?_; clear hK K
  refine stepN ?_
  refine hQ _ _ ?_
  intro w9 hT hG hF
  have x0 : Row w9 w.heap.size 107 (#[.int .i64 2, .bool false, .int .i64 0, .bool false, .int .i64 0, .bool false]) := hF 1 _ rfl rfl (by decide)
  have hl9 := Lib.hid (hl.trans (hT.below_of hl.size (by intro c hc; have hc' : c = w.heap.size := hc; omega)))
  clear hT hG hF hQ QQ L hl r0
  go_wp2_with fail
  refine bodyPost_ret (results_ct rfl aggT107 rfl x0 rfl) rfl ?_
  exact ⟨by kernel_rfl, hl9.out⟩
set_option maxRecDepth 100000 in
set_option maxHeartbeats 4000000 in
theorem of_19 (w : World) : Calls Try.prog 131 #[.int .i64 19] w (OfP w 19) := by
  go_enter Try.func131, Try.ntmps131
  go_upto_region 21 with (fail)
  refine wp_abs (Mem w [(w.heap.size, 107, #[.int .i64 0, .bool false, .int .i64 0, .bool false, .int .i64 0, .bool false])]) ⟨by go_grown, by (repeat (first | (refine Row.new_at ?_; simp; done) | refine Row.alloc ?_ _)), trivial⟩ ?_
  intro w0 hM
  obtain ⟨hl, r0, -⟩ := hM
  let L : List Sp := [sO 1 (w.heap.size) 107 [0] (fun g => aggOf g 0)]
  refine wp_region_six0 (shs L) (look6 L) (fun c => c = w.heap.size) (by kernel_rfl) (by kernel_rfl) (mk_St L [1] [1] (by kernel_rfl) (by kernel_rfl) ⟨ok_O aggOf_congr r0.lt (rfl), trivial⟩ (by simp)) ?_
  intro QQ hQ
  refine stepK rfl (by kernel_rfl) (fun K hK => ?_); go_simp
  apply Exists.intro; apply And.intro; (focus (intro wk hk; go_simp; exact ⟨rfl, rfl⟩)); refine hK _ _ ?_; clear hK K
  refine stepS _ rfl (by kernel_rfl) (fun K hK => ?_); go_simp
  refine ⟨?_, ?_⟩
  · exact sStoreO rfl rfl rfl rfl rfl rfl r0 id (by kernel_rfl) rfl (by kernel_rfl) (by decide) aggOf_congr
  rintro ⟨v1, lo1, hi1⟩ - - (rfl : v1 = undef)
  refine hK _ _ ?_; clear hK K
  refine stepKz rfl (fun K hK => ?_); go_simp
  apply Exists.intro; apply And.intro; (focus (intro wk hk; go_simp; exact ⟨rfl, rfl⟩)); refine hK _ _ ?_; clear hK K
  refine stepN ?_
  refine hQ _ _ ?_
  intro w9 hT hG hF
  have x0 : Row w9 w.heap.size 107 (#[.int .i64 2, .bool false, .int .i64 0, .bool false, .int .i64 0, .bool false]) := hF 1 _ rfl rfl (by decide)
  have hl9 := Lib.hid (hl.trans (hT.below_of hl.size (by intro c hc; have hc' : c = w.heap.size := hc; omega)))
  clear hT hG hF hQ QQ L hl r0
  go_wp2_with fail
  refine bodyPost_ret (results_ct rfl aggT107 rfl x0 rfl) rfl ?_
  exact ⟨by kernel_rfl, hl9.out⟩
set_option maxRecDepth 100000 in
set_option maxHeartbeats 4000000 in
theorem of_20 (w : World) : Calls Try.prog 131 #[.int .i64 20] w (OfP w 20) := by
  go_enter Try.func131, Try.ntmps131
  go_upto_region 32 with (fail)
  refine wp_abs (Mem w [(w.heap.size, 107, #[.int .i64 0, .bool false, .int .i64 0, .bool false, .int .i64 0, .bool false])]) ⟨by go_grown, by (repeat (first | (refine Row.new_at ?_; simp; done) | refine Row.alloc ?_ _)), trivial⟩ ?_
  intro w0 hM
  obtain ⟨hl, r0, -⟩ := hM
  let L : List Sp := [sO 1 (w.heap.size) 107 [0] (fun g => aggOf g 0)]
  refine wp_region_six0 (shs L) (look6 L) (fun c => c = w.heap.size) (by kernel_rfl) (by kernel_rfl) (mk_St L [1] [1] (by kernel_rfl) (by kernel_rfl) ⟨ok_O aggOf_congr r0.lt (rfl), trivial⟩ (by simp)) ?_
  intro QQ hQ
  refine stepK rfl (by kernel_rfl) (fun K hK => ?_); go_simp
  apply Exists.intro; apply And.intro; (focus (intro wk hk; go_simp; exact ⟨rfl, rfl⟩)); refine hK _ _ ?_; clear hK K
  refine stepS _ rfl (by kernel_rfl) (fun K hK => ?_); go_simp
  refine ⟨?_, ?_⟩
  · exact sStoreO rfl rfl rfl rfl rfl rfl r0 id (by kernel_rfl) rfl (by kernel_rfl) (by decide) aggOf_congr
  rintro ⟨v1, lo1, hi1⟩ - - (rfl : v1 = undef)
  refine hK _ _ ?_; clear hK K
  refine stepKz rfl (fun K hK => ?_); go_simp
  apply Exists.intro; apply And.intro; (focus (intro wk hk; go_simp; exact ⟨rfl, rfl⟩)); refine hK _ _ ?_; clear hK K
  refine stepN ?_
  refine hQ _ _ ?_
  intro w9 hT hG hF
  have x0 : Row w9 w.heap.size 107 (#[.int .i64 3, .bool false, .int .i64 0, .bool false, .int .i64 0, .bool false]) := hF 1 _ rfl rfl (by decide)
  have hl9 := Lib.hid (hl.trans (hT.below_of hl.size (by intro c hc; have hc' : c = w.heap.size := hc; omega)))
  clear hT hG hF hQ QQ L hl r0
  go_wp2_with fail
  refine bodyPost_ret (results_ct rfl aggT107 rfl x0 rfl) rfl ?_
  exact ⟨by kernel_rfl, hl9.out⟩
set_option maxRecDepth 100000 in
set_option maxHeartbeats 4000000 in
theorem of_21 (w : World) : Calls Try.prog 131 #[.int .i64 21] w (OfP w 21) := by
  go_enter Try.func131, Try.ntmps131
  go_upto_region 34 with (fail)
  refine wp_abs (Mem w [(w.heap.size, 107, #[.int .i64 0, .bool false, .int .i64 0, .bool false, .int .i64 0, .bool false])]) ⟨by go_grown, by (repeat (first | (refine Row.new_at ?_; simp; done) | refine Row.alloc ?_ _)), trivial⟩ ?_
  intro w0 hM
  obtain ⟨hl, r0, -⟩ := hM
  let L : List Sp := [sO 1 (w.heap.size) 107 [0] (fun g => aggOf g 0)]
  refine wp_region_six0 (shs L) (look6 L) (fun c => c = w.heap.size) (by kernel_rfl) (by kernel_rfl) (mk_St L [1] [1] (by kernel_rfl) (by kernel_rfl) ⟨ok_O aggOf_congr r0.lt (rfl), trivial⟩ (by simp)) ?_
  intro QQ hQ
  refine stepK rfl (by kernel_rfl) (fun K hK => ?_); go_simp
  apply Exists.intro; apply And.intro; (focus (intro wk hk; go_simp; exact ⟨rfl, rfl⟩)); refine hK _ _ ?_; clear hK K
  refine stepS _ rfl (by kernel_rfl) (fun K hK => ?_); go_simp
  refine ⟨?_, ?_⟩
  · exact sStoreO rfl rfl rfl rfl rfl rfl r0 id (by kernel_rfl) rfl (by kernel_rfl) (by decide) aggOf_congr
  rintro ⟨v1, lo1, hi1⟩ - - (rfl : v1 = undef)
  refine hK _ _ ?_; clear hK K
  refine stepKz rfl (fun K hK => ?_); go_simp
  apply Exists.intro; apply And.intro; (focus (intro wk hk; go_simp; exact ⟨rfl, rfl⟩)); refine hK _ _ ?_; clear hK K
  refine stepN ?_
  refine hQ _ _ ?_
  intro w9 hT hG hF
  have x0 : Row w9 w.heap.size 107 (#[.int .i64 3, .bool false, .int .i64 1, .bool false, .int .i64 0, .bool false]) := hF 1 _ rfl rfl (by decide)
  have hl9 := Lib.hid (hl.trans (hT.below_of hl.size (by intro c hc; have hc' : c = w.heap.size := hc; omega)))
  clear hT hG hF hQ QQ L hl r0
  go_wp2_with fail
  refine bodyPost_ret (results_ct rfl aggT107 rfl x0 rfl) rfl ?_
  exact ⟨by kernel_rfl, hl9.out⟩
set_option maxRecDepth 100000 in
set_option maxHeartbeats 4000000 in
theorem of_22 (w : World) : Calls Try.prog 131 #[.int .i64 22] w (OfP w 22) := by
  go_enter Try.func131, Try.ntmps131
  go_upto_region 36 with (fail)
  refine wp_abs (Mem w [(w.heap.size, 107, #[.int .i64 0, .bool false, .int .i64 0, .bool false, .int .i64 0, .bool false])]) ⟨by go_grown, by (repeat (first | (refine Row.new_at ?_; simp; done) | refine Row.alloc ?_ _)), trivial⟩ ?_
  intro w0 hM
  obtain ⟨hl, r0, -⟩ := hM
  let L : List Sp := [sO 1 (w.heap.size) 107 [0] (fun g => aggOf g 0)]
  refine wp_region_six0 (shs L) (look6 L) (fun c => c = w.heap.size) (by kernel_rfl) (by kernel_rfl) (mk_St L [1] [1] (by kernel_rfl) (by kernel_rfl) ⟨ok_O aggOf_congr r0.lt (rfl), trivial⟩ (by simp)) ?_
  intro QQ hQ
  refine stepK rfl (by kernel_rfl) (fun K hK => ?_); go_simp
  apply Exists.intro; apply And.intro; (focus (intro wk hk; go_simp; exact ⟨rfl, rfl⟩)); refine hK _ _ ?_; clear hK K
  refine stepS _ rfl (by kernel_rfl) (fun K hK => ?_); go_simp
  refine ⟨?_, ?_⟩
  · exact sStoreO rfl rfl rfl rfl rfl rfl r0 id (by kernel_rfl) rfl (by kernel_rfl) (by decide) aggOf_congr
  rintro ⟨v1, lo1, hi1⟩ - - (rfl : v1 = undef)
  refine hK _ _ ?_; clear hK K
  refine stepKz rfl (fun K hK => ?_); go_simp
  apply Exists.intro; apply And.intro; (focus (intro wk hk; go_simp; exact ⟨rfl, rfl⟩)); refine hK _ _ ?_; clear hK K
  refine stepN ?_
  refine hQ _ _ ?_
  intro w9 hT hG hF
  have x0 : Row w9 w.heap.size 107 (#[.int .i64 2, .bool true, .int .i64 0, .bool true, .int .i64 0, .bool false]) := hF 1 _ rfl rfl (by decide)
  have hl9 := Lib.hid (hl.trans (hT.below_of hl.size (by intro c hc; have hc' : c = w.heap.size := hc; omega)))
  clear hT hG hF hQ QQ L hl r0
  go_wp2_with fail
  refine bodyPost_ret (results_ct rfl aggT107 rfl x0 rfl) rfl ?_
  exact ⟨by kernel_rfl, hl9.out⟩
set_option maxRecDepth 100000 in
set_option maxHeartbeats 4000000 in
theorem of_23 (w : World) : Calls Try.prog 131 #[.int .i64 23] w (OfP w 23) := by
  go_enter Try.func131, Try.ntmps131
  go_upto_region 26 with (fail)
  refine wp_abs (Mem w [(w.heap.size, 107, #[.int .i64 0, .bool false, .int .i64 0, .bool false, .int .i64 0, .bool false])]) ⟨by go_grown, by (repeat (first | (refine Row.new_at ?_; simp; done) | refine Row.alloc ?_ _)), trivial⟩ ?_
  intro w0 hM
  obtain ⟨hl, r0, -⟩ := hM
  let L : List Sp := [sO 1 (w.heap.size) 107 [0] (fun g => aggOf g 0)]
  refine wp_region_six0 (shs L) (look6 L) (fun c => c = w.heap.size) (by kernel_rfl) (by kernel_rfl) (mk_St L [1] [1] (by kernel_rfl) (by kernel_rfl) ⟨ok_O aggOf_congr r0.lt (rfl), trivial⟩ (by simp)) ?_
  intro QQ hQ
  refine stepK rfl (by kernel_rfl) (fun K hK => ?_); go_simp
  apply Exists.intro; apply And.intro; (focus (intro wk hk; go_simp; exact ⟨rfl, rfl⟩)); refine hK _ _ ?_; clear hK K
  refine stepS _ rfl (by kernel_rfl) (fun K hK => ?_); go_simp
  refine ⟨?_, ?_⟩
  · exact sStoreO rfl rfl rfl rfl rfl rfl r0 id (by kernel_rfl) rfl (by kernel_rfl) (by decide) aggOf_congr
  rintro ⟨v1, lo1, hi1⟩ - - (rfl : v1 = undef)
  refine hK _ _ ?_; clear hK K
  refine stepKz rfl (fun K hK => ?_); go_simp
  apply Exists.intro; apply And.intro; (focus (intro wk hk; go_simp; exact ⟨rfl, rfl⟩)); refine hK _ _ ?_; clear hK K
  refine stepN ?_
  refine hQ _ _ ?_
  intro w9 hT hG hF
  have x0 : Row w9 w.heap.size 107 (#[.int .i64 1, .bool false, .int .i64 1, .bool false, .int .i64 0, .bool false]) := hF 1 _ rfl rfl (by decide)
  have hl9 := Lib.hid (hl.trans (hT.below_of hl.size (by intro c hc; have hc' : c = w.heap.size := hc; omega)))
  clear hT hG hF hQ QQ L hl r0
  go_wp2_with fail
  refine bodyPost_ret (results_ct rfl aggT107 rfl x0 rfl) rfl ?_
  exact ⟨by kernel_rfl, hl9.out⟩
set_option maxRecDepth 100000 in
set_option maxHeartbeats 4000000 in
theorem of_24 (w : World) : Calls Try.prog 131 #[.int .i64 24] w (OfP w 24) := by
  go_enter Try.func131, Try.ntmps131
  go_upto_region 38 with (fail)
  refine wp_abs (Mem w [(w.heap.size, 107, #[.int .i64 0, .bool false, .int .i64 0, .bool false, .int .i64 0, .bool false])]) ⟨by go_grown, by (repeat (first | (refine Row.new_at ?_; simp; done) | refine Row.alloc ?_ _)), trivial⟩ ?_
  intro w0 hM
  obtain ⟨hl, r0, -⟩ := hM
  let L : List Sp := [sO 1 (w.heap.size) 107 [0] (fun g => aggOf g 0)]
  refine wp_region_six0 (shs L) (look6 L) (fun c => c = w.heap.size) (by kernel_rfl) (by kernel_rfl) (mk_St L [1] [1] (by kernel_rfl) (by kernel_rfl) ⟨ok_O aggOf_congr r0.lt (rfl), trivial⟩ (by simp)) ?_
  intro QQ hQ
  refine stepK rfl (by kernel_rfl) (fun K hK => ?_); go_simp
  apply Exists.intro; apply And.intro; (focus (intro wk hk; go_simp; exact ⟨rfl, rfl⟩)); refine hK _ _ ?_; clear hK K
  refine stepS _ rfl (by kernel_rfl) (fun K hK => ?_); go_simp
  refine ⟨?_, ?_⟩
  · exact sStoreO rfl rfl rfl rfl rfl rfl r0 id (by kernel_rfl) rfl (by kernel_rfl) (by decide) aggOf_congr
  rintro ⟨v1, lo1, hi1⟩ - - (rfl : v1 = undef)
  refine hK _ _ ?_; clear hK K
  refine stepKz rfl (fun K hK => ?_); go_simp
  apply Exists.intro; apply And.intro; (focus (intro wk hk; go_simp; exact ⟨rfl, rfl⟩)); refine hK _ _ ?_; clear hK K
  refine stepN ?_
  refine hQ _ _ ?_
  intro w9 hT hG hF
  have x0 : Row w9 w.heap.size 107 (#[.int .i64 0, .bool false, .int .i64 0, .bool false, .int .i64 1, .bool false]) := hF 1 _ rfl rfl (by decide)
  have hl9 := Lib.hid (hl.trans (hT.below_of hl.size (by intro c hc; have hc' : c = w.heap.size := hc; omega)))
  clear hT hG hF hQ QQ L hl r0
  go_wp2_with fail
  refine bodyPost_ret (results_ct rfl aggT107 rfl x0 rfl) rfl ?_
  exact ⟨by kernel_rfl, hl9.out⟩
set_option maxRecDepth 100000 in
set_option maxHeartbeats 4000000 in
theorem of_25 (w : World) : Calls Try.prog 131 #[.int .i64 25] w (OfP w 25) := by
  go_enter Try.func131, Try.ntmps131
  go_upto_region 14 with (fail)
  refine wp_abs (Mem w [(w.heap.size, 107, #[.int .i64 0, .bool false, .int .i64 0, .bool false, .int .i64 0, .bool false])]) ⟨by go_grown, by (repeat (first | (refine Row.new_at ?_; simp; done) | refine Row.alloc ?_ _)), trivial⟩ ?_
  intro w0 hM
  obtain ⟨hl, r0, -⟩ := hM
  let L : List Sp := [sO 1 (w.heap.size) 107 [0] (fun g => aggOf g 0)]
  refine wp_region_six0 (shs L) (look6 L) (fun c => c = w.heap.size) (by kernel_rfl) (by kernel_rfl) (mk_St L [1] [1] (by kernel_rfl) (by kernel_rfl) ⟨ok_O aggOf_congr r0.lt (rfl), trivial⟩ (by simp)) ?_
  intro QQ hQ
  refine stepK rfl (by kernel_rfl) (fun K hK => ?_); go_simp
  apply Exists.intro; apply And.intro; (focus (intro wk hk; go_simp; exact ⟨rfl, rfl⟩)); refine hK _ _ ?_; clear hK K
  refine stepS _ rfl (by kernel_rfl) (fun K hK => ?_); go_simp
  refine ⟨?_, ?_⟩
  · exact sStoreO rfl rfl rfl rfl rfl rfl r0 id (by kernel_rfl) rfl (by kernel_rfl) (by decide) aggOf_congr
  rintro ⟨v1, lo1, hi1⟩ - - (rfl : v1 = undef)
  refine hK _ _ ?_; clear hK K
  refine stepKz rfl (fun K hK => ?_); go_simp
  apply Exists.intro; apply And.intro; (focus (intro wk hk; go_simp; exact ⟨rfl, rfl⟩)); refine hK _ _ ?_; clear hK K
  refine stepN ?_
  refine hQ _ _ ?_
  intro w9 hT hG hF
  have x0 : Row w9 w.heap.size 107 (#[.int .i64 1, .bool false, .int .i64 0, .bool false, .int .i64 0, .bool false]) := hF 1 _ rfl rfl (by decide)
  have hl9 := Lib.hid (hl.trans (hT.below_of hl.size (by intro c hc; have hc' : c = w.heap.size := hc; omega)))
  clear hT hG hF hQ QQ L hl r0
  go_wp2_with fail
  refine bodyPost_ret (results_ct rfl aggT107 rfl x0 rfl) rfl ?_
  exact ⟨by kernel_rfl, hl9.out⟩
set_option maxRecDepth 100000 in
set_option maxHeartbeats 4000000 in
theorem of_26 (w : World) : Calls Try.prog 131 #[.int .i64 26] w (OfP w 26) := by
  go_enter Try.func131, Try.ntmps131
  go_upto_region 14 with (fail)
  refine wp_abs (Mem w [(w.heap.size, 107, #[.int .i64 0, .bool false, .int .i64 0, .bool false, .int .i64 0, .bool false])]) ⟨by go_grown, by (repeat (first | (refine Row.new_at ?_; simp; done) | refine Row.alloc ?_ _)), trivial⟩ ?_
  intro w0 hM
  obtain ⟨hl, r0, -⟩ := hM
  let L : List Sp := [sO 1 (w.heap.size) 107 [0] (fun g => aggOf g 0)]
  refine wp_region_six0 (shs L) (look6 L) (fun c => c = w.heap.size) (by kernel_rfl) (by kernel_rfl) (mk_St L [1] [1] (by kernel_rfl) (by kernel_rfl) ⟨ok_O aggOf_congr r0.lt (rfl), trivial⟩ (by simp)) ?_
  intro QQ hQ
  refine stepK rfl (by kernel_rfl) (fun K hK => ?_); go_simp
  apply Exists.intro; apply And.intro; (focus (intro wk hk; go_simp; exact ⟨rfl, rfl⟩)); refine hK _ _ ?_; clear hK K
  refine stepS _ rfl (by kernel_rfl) (fun K hK => ?_); go_simp
  refine ⟨?_, ?_⟩
  · exact sStoreO rfl rfl rfl rfl rfl rfl r0 id (by kernel_rfl) rfl (by kernel_rfl) (by decide) aggOf_congr
  rintro ⟨v1, lo1, hi1⟩ - - (rfl : v1 = undef)
  refine hK _ _ ?_; clear hK K
  refine stepKz rfl (fun K hK => ?_); go_simp
  apply Exists.intro; apply And.intro; (focus (intro wk hk; go_simp; exact ⟨rfl, rfl⟩)); refine hK _ _ ?_; clear hK K
  refine stepN ?_
  refine hQ _ _ ?_
  intro w9 hT hG hF
  have x0 : Row w9 w.heap.size 107 (#[.int .i64 1, .bool false, .int .i64 0, .bool false, .int .i64 0, .bool false]) := hF 1 _ rfl rfl (by decide)
  have hl9 := Lib.hid (hl.trans (hT.below_of hl.size (by intro c hc; have hc' : c = w.heap.size := hc; omega)))
  clear hT hG hF hQ QQ L hl r0
  go_wp2_with fail
  refine bodyPost_ret (results_ct rfl aggT107 rfl x0 rfl) rfl ?_
  exact ⟨by kernel_rfl, hl9.out⟩
set_option maxRecDepth 100000 in
set_option maxHeartbeats 4000000 in
theorem of_27 (w : World) : Calls Try.prog 131 #[.int .i64 27] w (OfP w 27) := by
  go_enter Try.func131, Try.ntmps131
  go_upto_region 40 with (fail)
  refine wp_abs (Mem w [(w.heap.size, 107, #[.int .i64 0, .bool false, .int .i64 0, .bool false, .int .i64 0, .bool false])]) ⟨by go_grown, by (repeat (first | (refine Row.new_at ?_; simp; done) | refine Row.alloc ?_ _)), trivial⟩ ?_
  intro w0 hM
  obtain ⟨hl, r0, -⟩ := hM
  let L : List Sp := [sO 1 (w.heap.size) 107 [0] (fun g => aggOf g 0)]
  refine wp_region_six0 (shs L) (look6 L) (fun c => c = w.heap.size) (by kernel_rfl) (by kernel_rfl) (mk_St L [1] [1] (by kernel_rfl) (by kernel_rfl) ⟨ok_O aggOf_congr r0.lt (rfl), trivial⟩ (by simp)) ?_
  intro QQ hQ
  refine stepK rfl (by kernel_rfl) (fun K hK => ?_); go_simp
  apply Exists.intro; apply And.intro; (focus (intro wk hk; go_simp; exact ⟨rfl, rfl⟩)); refine hK _ _ ?_; clear hK K
  refine stepS _ rfl (by kernel_rfl) (fun K hK => ?_); go_simp
  refine ⟨?_, ?_⟩
  · exact sStoreO rfl rfl rfl rfl rfl rfl r0 id (by kernel_rfl) rfl (by kernel_rfl) (by decide) aggOf_congr
  rintro ⟨v1, lo1, hi1⟩ - - (rfl : v1 = undef)
  refine hK _ _ ?_; clear hK K
  refine stepKz rfl (fun K hK => ?_); go_simp
  apply Exists.intro; apply And.intro; (focus (intro wk hk; go_simp; exact ⟨rfl, rfl⟩)); refine hK _ _ ?_; clear hK K
  refine stepN ?_
  refine hQ _ _ ?_
  intro w9 hT hG hF
  have x0 : Row w9 w.heap.size 107 (#[.int .i64 0, .bool false, .int .i64 0, .bool false, .int .i64 0, .bool true]) := hF 1 _ rfl rfl (by decide)
  have hl9 := Lib.hid (hl.trans (hT.below_of hl.size (by intro c hc; have hc' : c = w.heap.size := hc; omega)))
  clear hT hG hF hQ QQ L hl r0
  go_wp2_with fail
  refine bodyPost_ret (results_ct rfl aggT107 rfl x0 rfl) rfl ?_
  exact ⟨by kernel_rfl, hl9.out⟩
set_option maxRecDepth 100000 in
set_option maxHeartbeats 4000000 in
theorem of_28 (w : World) : Calls Try.prog 131 #[.int .i64 28] w (OfP w 28) := by
  go_enter Try.func131, Try.ntmps131
  go_upto_region 21 with (fail)
  refine wp_abs (Mem w [(w.heap.size, 107, #[.int .i64 0, .bool false, .int .i64 0, .bool false, .int .i64 0, .bool false])]) ⟨by go_grown, by (repeat (first | (refine Row.new_at ?_; simp; done) | refine Row.alloc ?_ _)), trivial⟩ ?_
  intro w0 hM
  obtain ⟨hl, r0, -⟩ := hM
  let L : List Sp := [sO 1 (w.heap.size) 107 [0] (fun g => aggOf g 0)]
  refine wp_region_six0 (shs L) (look6 L) (fun c => c = w.heap.size) (by kernel_rfl) (by kernel_rfl) (mk_St L [1] [1] (by kernel_rfl) (by kernel_rfl) ⟨ok_O aggOf_congr r0.lt (rfl), trivial⟩ (by simp)) ?_
  intro QQ hQ
  refine stepK rfl (by kernel_rfl) (fun K hK => ?_); go_simp
  apply Exists.intro; apply And.intro; (focus (intro wk hk; go_simp; exact ⟨rfl, rfl⟩)); refine hK _ _ ?_; clear hK K
  refine stepS _ rfl (by kernel_rfl) (fun K hK => ?_); go_simp
  refine ⟨?_, ?_⟩
  · exact sStoreO rfl rfl rfl rfl rfl rfl r0 id (by kernel_rfl) rfl (by kernel_rfl) (by decide) aggOf_congr
  rintro ⟨v1, lo1, hi1⟩ - - (rfl : v1 = undef)
  refine hK _ _ ?_; clear hK K
  refine stepKz rfl (fun K hK => ?_); go_simp
  apply Exists.intro; apply And.intro; (focus (intro wk hk; go_simp; exact ⟨rfl, rfl⟩)); refine hK _ _ ?_; clear hK K
  refine stepN ?_
  refine hQ _ _ ?_
  intro w9 hT hG hF
  have x0 : Row w9 w.heap.size 107 (#[.int .i64 2, .bool false, .int .i64 0, .bool false, .int .i64 0, .bool false]) := hF 1 _ rfl rfl (by decide)
  have hl9 := Lib.hid (hl.trans (hT.below_of hl.size (by intro c hc; have hc' : c = w.heap.size := hc; omega)))
  clear hT hG hF hQ QQ L hl r0
  go_wp2_with fail
  refine bodyPost_ret (results_ct rfl aggT107 rfl x0 rfl) rfl ?_
  exact ⟨by kernel_rfl, hl9.out⟩
set_option maxRecDepth 100000 in
set_option maxHeartbeats 16000000 in
theorem of_no (k : Int) (hk : k < 1 ∨ 28 < k) (w : World) : Calls Try.prog 131 #[.int .i64 k] w (OfP w k) := by
  have h1 : shpOf k = shpZ := by unfold shpOf; rw [if_neg (by omega)]
  have h2 : okK k = false := by
    unfold okK
    rcases hk with h | h
    · rw [decide_eq_false (by omega : ¬ 1 ≤ k), Bool.false_and]
    · rw [decide_eq_false (by omega : ¬ k ≤ 28), Bool.and_false]
  have q1 : (k == 1) = false := by rw [beq_eq_false_iff_ne]; omega
  have q2 : (k == 2) = false := by rw [beq_eq_false_iff_ne]; omega
  have q3 : (k == 3) = false := by rw [beq_eq_false_iff_ne]; omega
  have q4 : (k == 4) = false := by rw [beq_eq_false_iff_ne]; omega
  have q5 : (k == 5) = false := by rw [beq_eq_false_iff_ne]; omega
  have q6 : (k == 6) = false := by rw [beq_eq_false_iff_ne]; omega
  have q7 : (k == 7) = false := by rw [beq_eq_false_iff_ne]; omega
  have q8 : (k == 8) = false := by rw [beq_eq_false_iff_ne]; omega
  have q9 : (k == 9) = false := by rw [beq_eq_false_iff_ne]; omega
  have q10 : (k == 10) = false := by rw [beq_eq_false_iff_ne]; omega
  have q11 : (k == 11) = false := by rw [beq_eq_false_iff_ne]; omega
  have q12 : (k == 12) = false := by rw [beq_eq_false_iff_ne]; omega
  have q13 : (k == 13) = false := by rw [beq_eq_false_iff_ne]; omega
  have q14 : (k == 14) = false := by rw [beq_eq_false_iff_ne]; omega
  have q15 : (k == 15) = false := by rw [beq_eq_false_iff_ne]; omega
  have q16 : (k == 16) = false := by rw [beq_eq_false_iff_ne]; omega
  have q17 : (k == 17) = false := by rw [beq_eq_false_iff_ne]; omega
  have q18 : (k == 18) = false := by rw [beq_eq_false_iff_ne]; omega
  have q19 : (k == 19) = false := by rw [beq_eq_false_iff_ne]; omega
  have q20 : (k == 20) = false := by rw [beq_eq_false_iff_ne]; omega
  have q21 : (k == 21) = false := by rw [beq_eq_false_iff_ne]; omega
  have q22 : (k == 22) = false := by rw [beq_eq_false_iff_ne]; omega
  have q23 : (k == 23) = false := by rw [beq_eq_false_iff_ne]; omega
  have q24 : (k == 24) = false := by rw [beq_eq_false_iff_ne]; omega
  have q25 : (k == 25) = false := by rw [beq_eq_false_iff_ne]; omega
  have q26 : (k == 26) = false := by rw [beq_eq_false_iff_ne]; omega
  have q27 : (k == 27) = false := by rw [beq_eq_false_iff_ne]; omega
  have q28 : (k == 28) = false := by rw [beq_eq_false_iff_ne]; omega
  have HH := Lib.hid (show _ ∧ _ from ⟨h1, h2⟩)
  clear h1 h2 hk
  go_enter Try.func131, Try.ntmps131
  go_upto_region 41 with (fail)
  refine wp_abs (Mem w [(w.heap.size, 107, #[.int .i64 0, .bool false, .int .i64 0, .bool false, .int .i64 0, .bool false])]) ⟨by go_grown, by (repeat (first | (refine Row.new_at ?_; simp; done) | refine Row.alloc ?_ _)), trivial⟩ ?_
  intro w0 hM
  obtain ⟨hl, r0, -⟩ := hM
  let L : List Sp := [sO 1 (w.heap.size) 107 [0] (fun g => aggOf g 0)]
  refine wp_region_six0 (shs L) (look6 L) (fun c => c = w.heap.size) (by kernel_rfl) (by kernel_rfl) (mk_St L [1] [1] (by kernel_rfl) (by kernel_rfl) ⟨ok_O aggOf_congr r0.lt (rfl), trivial⟩ (by simp)) ?_
  intro QQ hQ
  refine stepK rfl (by kernel_rfl) (fun K hK => ?_); go_simp
  apply Exists.intro; apply And.intro; (focus (intro wk hk; go_simp; exact ⟨rfl, rfl⟩)); refine hK _ _ ?_; clear hK K
  refine stepS _ rfl (by kernel_rfl) (fun K hK => ?_); go_simp
  refine ⟨?_, ?_⟩
  · exact sStoreO rfl rfl rfl rfl rfl rfl r0 id (by kernel_rfl) rfl (by kernel_rfl) (by decide) aggOf_congr
  rintro ⟨v1, lo1, hi1⟩ - - (rfl : v1 = undef)
  refine hK _ _ ?_; clear hK K
  refine stepKz rfl (fun K hK => ?_); go_simp
  apply Exists.intro; apply And.intro; (focus (intro wk hk; go_simp; exact ⟨rfl, rfl⟩)); refine hK _ _ ?_; clear hK K
  refine stepN ?_
  refine hQ _ _ ?_
  intro w9 hT hG hF
  have x0 : Row w9 w.heap.size 107 (#[.int .i64 0, .bool false, .int .i64 0, .bool false, .int .i64 0, .bool false]) := hF 1 _ rfl rfl (by decide)
  have hl9 := Lib.hid (hl.trans (hT.below_of hl.size (by intro c hc; have hc' : c = w.heap.size := hc; omega)))
  clear hT hG hF hQ QQ L hl r0 q1 q2 q3 q4 q5 q6 q7 q8 q9 q10 q11 q12 q13 q14 q15 q16 q17 q18 q19 q20 q21 q22 q23 q24 q25 q26 q27 q28
  go_wp2_with fail
  refine bodyPost_ret (results_ct rfl aggT107 rfl x0 rfl) rfl ?_
  exact ⟨by rw [HH.out.1, HH.out.2]; rfl, hl9.out⟩
theorem txof_any (k : Int) (w : World) : Calls Try.prog 131 #[.int .i64 k] w (OfP w k) := by
  by_cases h : k < 1 ∨ 28 < k
  · exact of_no k h w
  · have h2 : k = 1 ∨ k = 2 ∨ k = 3 ∨ k = 4 ∨ k = 5 ∨ k = 6 ∨ k = 7 ∨ k = 8 ∨ k = 9 ∨ k = 10 ∨ k = 11 ∨ k = 12 ∨ k = 13 ∨ k = 14 ∨ k = 15 ∨ k = 16 ∨ k = 17 ∨ k = 18 ∨ k = 19 ∨ k = 20 ∨ k = 21 ∨ k = 22 ∨ k = 23 ∨ k = 24 ∨ k = 25 ∨ k = 26 ∨ k = 27 ∨ k = 28 := by omega
    rcases h2 with rfl | rfl | rfl | rfl | rfl | rfl | rfl | rfl | rfl | rfl | rfl | rfl | rfl | rfl | rfl | rfl | rfl | rfl | rfl | rfl | rfl | rfl | rfl | rfl | rfl | rfl | rfl | rfl
    · exact of_1 w
    · exact of_2 w
    · exact of_3 w
    · exact of_4 w
    · exact of_5 w
    · exact of_6 w
    · exact of_7 w
    · exact of_8 w
    · exact of_9 w
    · exact of_10 w
    · exact of_11 w
    · exact of_12 w
    · exact of_13 w
    · exact of_14 w
    · exact of_15 w
    · exact of_16 w
    · exact of_17 w
    · exact of_18 w
    · exact of_19 w
    · exact of_20 w
    · exact of_21 w
    · exact of_22 w
    · exact of_23 w
    · exact of_24 w
    · exact of_25 w
    · exact of_26 w
    · exact of_27 w
    · exact of_28 w
def txB : List ByteArray := [ByteArray.mk #[117, 110, 107, 110, 111, 119, 110], ByteArray.mk #[109, 105, 110, 116], ByteArray.mk #[112, 97, 117, 115, 101], ByteArray.mk #[115, 116, 114, 97, 116, 101, 103, 121], ByteArray.mk #[97, 108, 108, 111, 119], ByteArray.mk #[116, 114, 97, 110, 115, 102, 101, 114], ByteArray.mk #[100, 101, 112, 111, 115, 105, 116], ByteArray.mk #[100, 111, 110, 97, 116, 101], ByteArray.mk #[111, 112, 101, 114, 97, 116, 111, 114], ByteArray.mk #[100, 101, 108, 101, 103, 97, 116, 101], ByteArray.mk #[117, 110, 100, 101, 108, 101, 103, 97, 116, 101], ByteArray.mk #[114, 101, 100, 101, 108, 101, 103, 97, 116, 101], ByteArray.mk #[101, 120, 105, 116], ByteArray.mk #[99, 111, 109, 112, 108, 101, 116, 101], ByteArray.mk #[100, 101, 108, 97, 121], ByteArray.mk #[115, 101, 114, 118, 105, 99, 101], ByteArray.mk #[115, 101, 116], ByteArray.mk #[105, 110, 99, 108, 117, 100, 101], ByteArray.mk #[101, 120, 99, 108, 117, 100, 101], ByteArray.mk #[106, 111, 105, 110], ByteArray.mk #[108, 101, 97, 118, 101], ByteArray.mk #[97, 108, 108, 111, 99, 97, 116, 101], ByteArray.mk #[115, 108, 97, 115, 104], ByteArray.mk #[115, 117, 98, 109, 105, 116], ByteArray.mk #[112, 111, 115, 116], ByteArray.mk #[100, 105, 115, 97, 98, 108, 101], ByteArray.mk #[99, 108, 97, 105, 109, 101, 114], ByteArray.mk #[99, 108, 97, 105, 109], ByteArray.mk #[115, 112, 108, 105, 116]]
def txU : ByteArray := ByteArray.mk #[117, 110, 107, 110, 111, 119, 110]
def txOf (k : Int) : ByteArray := if 1 ≤ k ∧ k ≤ 28 then txB.getD k.toNat txU else txU
def txA : Array Value := #[.string (ByteArray.mk #[117, 110, 107, 110, 111, 119, 110]), .string (ByteArray.mk #[109, 105, 110, 116]), .string (ByteArray.mk #[112, 97, 117, 115, 101]), .string (ByteArray.mk #[115, 116, 114, 97, 116, 101, 103, 121]), .string (ByteArray.mk #[97, 108, 108, 111, 119]), .string (ByteArray.mk #[116, 114, 97, 110, 115, 102, 101, 114]), .string (ByteArray.mk #[100, 101, 112, 111, 115, 105, 116]), .string (ByteArray.mk #[100, 111, 110, 97, 116, 101]), .string (ByteArray.mk #[111, 112, 101, 114, 97, 116, 111, 114]), .string (ByteArray.mk #[100, 101, 108, 101, 103, 97, 116, 101]), .string (ByteArray.mk #[117, 110, 100, 101, 108, 101, 103, 97, 116, 101]), .string (ByteArray.mk #[114, 101, 100, 101, 108, 101, 103, 97, 116, 101]), .string (ByteArray.mk #[101, 120, 105, 116]), .string (ByteArray.mk #[99, 111, 109, 112, 108, 101, 116, 101]), .string (ByteArray.mk #[100, 101, 108, 97, 121]), .string (ByteArray.mk #[115, 101, 114, 118, 105, 99, 101]), .string (ByteArray.mk #[115, 101, 116]), .string (ByteArray.mk #[105, 110, 99, 108, 117, 100, 101]), .string (ByteArray.mk #[101, 120, 99, 108, 117, 100, 101]), .string (ByteArray.mk #[106, 111, 105, 110]), .string (ByteArray.mk #[108, 101, 97, 118, 101]), .string (ByteArray.mk #[97, 108, 108, 111, 99, 97, 116, 101]), .string (ByteArray.mk #[115, 108, 97, 115, 104]), .string (ByteArray.mk #[115, 117, 98, 109, 105, 116]), .string (ByteArray.mk #[112, 111, 115, 116]), .string (ByteArray.mk #[100, 105, 115, 97, 98, 108, 101]), .string (ByteArray.mk #[99, 108, 97, 105, 109, 101, 114]), .string (ByteArray.mk #[99, 108, 97, 105, 109]), .string (ByteArray.mk #[115, 112, 108, 105, 116])]
def txZ : Array Value := #[.string (ByteArray.mk #[]), .string (ByteArray.mk #[]), .string (ByteArray.mk #[]), .string (ByteArray.mk #[]), .string (ByteArray.mk #[]), .string (ByteArray.mk #[]), .string (ByteArray.mk #[]), .string (ByteArray.mk #[]), .string (ByteArray.mk #[]), .string (ByteArray.mk #[]), .string (ByteArray.mk #[]), .string (ByteArray.mk #[]), .string (ByteArray.mk #[]), .string (ByteArray.mk #[]), .string (ByteArray.mk #[]), .string (ByteArray.mk #[]), .string (ByteArray.mk #[]), .string (ByteArray.mk #[]), .string (ByteArray.mk #[]), .string (ByteArray.mk #[]), .string (ByteArray.mk #[]), .string (ByteArray.mk #[]), .string (ByteArray.mk #[]), .string (ByteArray.mk #[]), .string (ByteArray.mk #[]), .string (ByteArray.mk #[]), .string (ByteArray.mk #[]), .string (ByteArray.mk #[]), .string (ByteArray.mk #[])]
theorem tx_at : ∀ i, i < 29 → txA[i]? = some (.string (txB.getD i txU)) := fun i hi => by
  have h : i = 0 ∨ i = 1 ∨ i = 2 ∨ i = 3 ∨ i = 4 ∨ i = 5 ∨ i = 6 ∨ i = 7 ∨ i = 8 ∨ i = 9 ∨ i = 10 ∨ i = 11 ∨ i = 12 ∨ i = 13 ∨ i = 14 ∨ i = 15 ∨ i = 16 ∨ i = 17 ∨ i = 18 ∨ i = 19 ∨ i = 20 ∨ i = 21 ∨ i = 22 ∨ i = 23 ∨ i = 24 ∨ i = 25 ∨ i = 26 ∨ i = 27 ∨ i = 28 := by omega
  rcases h with rfl | rfl | rfl | rfl | rfl | rfl | rfl | rfl | rfl | rfl | rfl | rfl | rfl | rfl | rfl | rfl | rfl | rfl | rfl | rfl | rfl | rfl | rfl | rfl | rfl | rfl | rfl | rfl | rfl <;> rfl
set_option maxRecDepth 100000 in
set_option maxHeartbeats 8000000 in
theorem txname_at (k : Int) (w : World) : Calls Try.prog 132 #[.int .i64 k] w fun e w' => e = .returned (.string (txOf k)) ∧ Below w.heap.size w w' := by
  obtain ⟨S, hS⟩ : ∃ S, txOf k = S := ⟨_, rfl⟩
  rw [hS]
  have hS' := Lib.hid hS
  clear hS
  go_enter Try.func132, Try.ntmps132
  go_upto_region 1 with (fail)
  let L : List Sp := [sV 0 [] [] (fun u => u = .agg txA), sA 1 196 [2] txZ, sT 2 1 196 [0] (fun g => aggOf g 0)]
  refine wp_region_six0 (shs L) (look6 L) (None_) (by kernel_rfl) (by kernel_rfl) (mk_St L [] [] (by kernel_rfl) (by kernel_rfl) ⟨ok_V ⟨_, rfl⟩, ok_A, ok_T aggOf_congr, trivial⟩ (by simp)) ?_
  intro QQ hQ
  refine stepS _ rfl (by kernel_rfl) (fun K hK => ?_); go_simp
  refine ⟨?_, ?_⟩
  · intro wk hk hg hu; go_simp; exact left_V (p := fun u => u = .agg txA) rfl (Below.refl _ _) (by unfold txA; rfl)
  rintro ⟨v0, lo0, hi0⟩ - - (rfl : v0 = _)
  refine hK _ _ ?_; clear hK K
  refine stepS _ rfl (by kernel_rfl) (fun K hK => ?_); go_simp
  refine ⟨?_, ?_⟩
  · intro wk hk hg hu; go_simp; exact left_A rfl rfl
  rintro ⟨v1, lo1, hi1⟩ hlo1 hhi1 ⟨e1, f1⟩
  replace e1 : v1 = .pointer (some ⟨lo1, 0, none⟩) := e1; replace f1 : hi1 = lo1 + 1 := f1; replace hlo1 : _ ≤ lo1 := hlo1; subst e1; subst f1
  refine hK _ _ ?_; clear hK K
  refine stepS _ rfl (by kernel_rfl) (fun K hK => ?_); go_simp
  refine ⟨?_, ?_⟩
  · exact sStoreT rfl rfl rfl rfl rfl rfl rfl (by kernel_rfl) rfl (by kernel_rfl) (by decide) aggOf_congr
  rintro ⟨v2, lo2, hi2⟩ - - (rfl : v2 = undef)
  refine hK _ _ ?_; clear hK K
  refine stepN ?_
  refine hQ _ _ ?_
  intro w1 hT hG hF
  have hb := hT.below
  have r3 : Row w1 lo1 196 txA := (hF 2 _ rfl rfl (by decide)).2
  clear hT hG hF hQ QQ L
  by_cases h1 : k < 0
  · have e : S = txU := by rw [← hS'.out]; unfold txOf; rw [if_neg (by omega)]
    subst e
    have c0 : w1.cell? ⟨lo1, 0, none⟩ = some (.string txU) := r3.cell 0
    have H := Lib.hid hb
    clear hS' hb r3 hlo1
    go_wp2_with fail
    go_ret
    exact ⟨by first | rfl | (simp; done), H.out⟩
  · by_cases h2 : 29 ≤ k
    · have e : S = txU := by rw [← hS'.out]; unfold txOf; rw [if_neg (by omega)]
      subst e
      have c0 : w1.cell? ⟨lo1, 0, none⟩ = some (.string txU) := r3.cell 0
      have H := Lib.hid hb
      clear hS' hb r3 hlo1
      go_wp2_with fail
      go_ret
      exact ⟨by first | rfl | (simp; done), H.out⟩
    · obtain ⟨i, hi⟩ : ∃ i : Nat, k = (i : Int) := ⟨k.toNat, by omega⟩
      have e : txB.getD i txU = S := by
        rw [← hS'.out, hi]
        unfold txOf
        by_cases h0 : i = 0
        · subst h0; rw [if_neg (by omega)]; rfl
        · rw [if_pos (by omega), Int.toNat_natCast]
      have c0 : w1.cell? ⟨lo1, i, none⟩ = some (.string S) := by rw [← e, ← tx_at i (by omega)]; exact r3.cell i
      have hlt : (i : Int) < 29 := by omega
      have hge : (0 : Int) ≤ (i : Int) := by omega
      have h1' : ¬ (i : Int) < 0 := by omega
      have h2' : ¬ (29 : Int) ≤ (i : Int) := by omega
      have H := Lib.hid hb
      clear hS' e hb r3 hlo1 h1 h2
      subst hi
      go_wp2_with fail
      go_ret
      exact ⟨by first | rfl | (simp; done), H.out⟩
set_option maxRecDepth 100000 in
set_option maxHeartbeats 4000000 in
theorem within_at (n lo hi : Int) (w : World) : Calls Try.prog 207 #[.int .i64 n, .int .i64 lo, .int .i64 hi] w fun r w' => r = .returned (.bool (decide (lo ≤ n ∧ n ≤ hi))) ∧ Below w.heap.size w w' := by
  by_cases h1 : lo ≤ n
  · by_cases h2 : n ≤ hi
    · rw [decide_eq_true ⟨h1, h2⟩]
      go_enter Try.func207, Try.ntmps207
      go_wp2_with fail
      go_ret
      exact ⟨by first | rfl | (simp; done), Below.refl _ _⟩
    · rw [decide_eq_false (fun h => h2 h.2)]
      go_enter Try.func207, Try.ntmps207
      go_wp2_with fail
      go_ret
      exact ⟨by first | rfl | (simp; done), Below.refl _ _⟩
  · rw [decide_eq_false (fun h => h1 h.1)]
    go_enter Try.func207, Try.ntmps207
    go_wp2_with fail
    go_ret
    exact ⟨by first | rfl | (simp; done), Below.refl _ _⟩
set_option maxRecDepth 100000 in
set_option maxHeartbeats 4000000 in
theorem rwithin_at (n lo hi : Int) (w : World) : Calls Try.prog 242 #[.int .i64 n, .int .i64 lo, .int .i64 hi] w fun r w' => r = .returned (.bool (decide (lo ≤ n ∧ n ≤ hi))) ∧ Below w.heap.size w w' := by
  by_cases h1 : lo ≤ n
  · by_cases h2 : n ≤ hi
    · rw [decide_eq_true ⟨h1, h2⟩]
      go_enter Try.func242, Try.ntmps242
      go_wp2_with fail
      go_ret
      exact ⟨by first | rfl | (simp; done), Below.refl _ _⟩
    · rw [decide_eq_false (fun h => h2 h.2)]
      go_enter Try.func242, Try.ntmps242
      go_wp2_with fail
      go_ret
      exact ⟨by first | rfl | (simp; done), Below.refl _ _⟩
  · rw [decide_eq_false (fun h => h1 h.1)]
    go_enter Try.func242, Try.ntmps242
    go_wp2_with fail
    go_ret
    exact ⟨by first | rfl | (simp; done), Below.refl _ _⟩
end Go.Proofs.Ytpdenhmkpiafiaa
namespace Go.Proofs.Ytpdenhmkpiafiaa
open Go Go.RowKit K6
def M2 : Nat := 340282366920938463463374607431768211456
theorem amount_bits {a : Nat} (ha : a < M) : (bits .or .u64 (wordsOf a 2) (wordsOf a 3) == 0) = decide (a < M2) := by
  unfold wordsOf
  rw [u64_or_nat _ _ (Nat.mod_lt _ (by decide)) (Nat.mod_lt _ (by decide)), Bool.eq_iff_iff]
  simp only [beq_iff_eq, decide_eq_true_eq]
  have e : ((a / 2 ^ (64 * 2) % 2 ^ 64 ||| a / 2 ^ (64 * 3) % 2 ^ 64 : Nat) : Int) = 0 ↔ a / 2 ^ (64 * 2) % 2 ^ 64 = 0 ∧ a / 2 ^ (64 * 3) % 2 ^ 64 = 0 := by
    rw [Int.natCast_eq_zero, Nat.or_eq_zero_iff]
  rw [e]
  unfold M at ha
  unfold M2
  omega
set_option maxRecDepth 100000 in
set_option maxHeartbeats 4000000 in
theorem amountU {a : Nat} (ha : a < M) (w : World) : Calls Try.prog 105 #[.agg (W4 a)] w (Ret w (.bool (decide (a < M2)))) := by
  have hb := amount_bits ha
  obtain ⟨x2, h2⟩ : ∃ x, x = wordsOf a 2 := ⟨_, rfl⟩
  obtain ⟨x3, h3⟩ : ∃ x, x = wordsOf a 3 := ⟨_, rfl⟩
  rw [← h2, ← h3] at hb
  go_enter Try.func105, Try.ntmps105
  apply wp_seq_eq
  focus
    intro J hJ
    go_wp2_with fail
    exact hJ
  refine wp_abs (Mem w [(w.heap.size, 31, W4 a)]) ⟨by go_grown, ?_, trivial⟩ ?_
  · repeat (first | (refine Row.new_at ?_; simp; done) | refine Row.alloc ?_ _)
  intro w0 hM
  obtain ⟨hl, ra, -⟩ := hM
  go_upto_region 1 with (fail)
  have c2 : w0.cell? ⟨w.heap.size, 2, none⟩ = some (.int .u64 x2) := by rw [h2]; exact ra.cell 2
  have c3 : w0.cell? ⟨w.heap.size, 3, none⟩ = some (.int .u64 x3) := by rw [h3]; exact ra.cell 3
  go_wp2_with fail
  go_ret
  exact ⟨by rw [← hb, h2, h3]; rfl, hl⟩
end Go.Proofs.Ytpdenhmkpiafiaa
namespace Go.Proofs.Ytpdenhmkpiafiaa
open Go Go.RowKit K6
def okA (a : Nat) : Bool := decide (a < M2)
def okLf (x : Lf) : Bool := decide (0 ≤ x.i ∧ x.i ≤ 4294967295) && (decide (0 ≤ x.t ∧ x.t ≤ 4294967295) && (decide (x.p.length ≤ 10) && okA x.a))
theorem all_not {α : Type} {f : α → Bool} {l : List α} {i : Nat} {x : α} (hx : l[i]? = some x) (h : f x = false) : l.all f = false := by
  cases hk : l.all f with
  | false => rfl
  | true =>
    have := List.all_eq_true.1 hk x (List.mem_of_getElem? hx)
    rw [h] at this
    cases this
theorem all_all {α : Type} {f : α → Bool} {l : List α} (hk : ∀ (j : Nat) (x : α), j < l.length → l[j]? = some x → f x = true) : l.all f = true := by
  refine List.all_eq_true.2 fun x hx => ?_
  obtain ⟨j, hj, rfl⟩ := List.mem_iff_getElem.1 hx
  exact hk j _ hj (List.getElem?_eq_getElem hj)
set_option maxRecDepth 100000 in
set_option maxHeartbeats 4000000 in
theorem good1_at (a : Nat) (ha : a < M) (w : World) : Calls Try.prog 210 #[.agg (W4 a)] w fun r w' => r = .returned (.bool (!okA a)) ∧ Below w.heap.size w w' := by
  have ka := fun wx => amountU ha wx
  unfold okA
  obtain ⟨b, hb⟩ : ∃ b, decide (a < M2) = b := ⟨_, rfl⟩
  obtain ⟨y0, y1, y2, y3, hW⟩ : ∃ y0 y1 y2 y3 : Int, W4 a = #[.int .u64 y0, .int .u64 y1, .int .u64 y2, .int .u64 y3] := ⟨_, _, _, _, rfl⟩
  simp only [hb, hW] at ka ⊢
  replace ka := Lib.hid ka
  clear ha hb hW
  go_enter Try.func210, Try.ntmps210
  go_upto_region 1 with (fail)
  refine wp_abs (Mem w [(w.heap.size, 31, #[.int .u64 y0, .int .u64 y1, .int .u64 y2, .int .u64 y3])]) ⟨by go_grown, by (repeat (first | (refine Row.new_at ?_; simp; done) | refine Row.alloc ?_ _)), trivial⟩ ?_
  intro w0 hM
  obtain ⟨hl, r1, -⟩ := hM
  have d0 := r1.cell 0
  have d1 := r1.cell 1
  have d2 := r1.cell 2
  have d3 := r1.cell 3
  have HL := Lib.hid hl
  clear hl r1
  go_wp2_with fail
  refine (ka.out _).mono ?_
  rintro e w1 ⟨rfl, hb⟩
  have H1 := Lib.hid (HL.out.trans (hb.mono HL.out.size))
  clear ka hb HL d0 d1 d2 d3
  cases b <;>
  · go_wp2_with fail
    go_ret
    exact ⟨by first | rfl | (simp; done), H1.out⟩
set_option maxRecDepth 100000 in
set_option maxHeartbeats 16000000 in
theorem goodA_idx (v : Value) (l : List Nat) (w : World) (h : Us w v l) (hM : ∀ a ∈ l, a < M) (hE : l.length ≤ 1000) :
    Calls Try.prog 236 #[v, .func (.func 210) #[] #[]] w (IdxP (l.all okA) w) := by
  have HC := Lib.hid h
  obtain ⟨q, c, rfl, -⟩ := h
  obtain ⟨m, hm⟩ : ∃ m, l.length = m := ⟨_, rfl⟩
  rw [hm] at HC ⊢
  have hmi : (m : Int) ≤ 1000 := by omega
  go_enter Try.func236, Try.ntmps236
  go_wp2_with fail
  go_loopg [5, 8] m (fun gg s5 s8 wr => ∃ i : Nat, i + gg = m ∧ s8 = .int .i64 (i : Int) ∧ Hid (∀ (j : Nat) (x : Nat), j < i → l[j]? = some x → okA x = true) ∧ Hid (Below w.heap.size w wr))
  case atStart => exact ⟨0, by omega, rfl, Lib.hid (fun j e h => absurd h (Nat.not_lt_zero j)), Lib.hid (Below.refl _ _)⟩
  case round =>
    obtain ⟨i, him, rfl, hall, hinv⟩ := hrel
    by_cases hi : i < m
    · obtain ⟨x, hx⟩ : ∃ x, l[i]? = some x := ⟨_, List.getElem?_eq_getElem (by omega)⟩
      obtain ⟨g, o, c', hu, hg, hcs⟩ := (HC.out.below hinv.out).elem hx
      simp only [Value.slice.injEq] at hu
      obtain ⟨rfl, -, -⟩ := hu
      have kb := fun wx (hbw : Below w.heap.size w wx) => good1_at x (hM x (List.mem_of_getElem? hx)) wx
      obtain ⟨b, hb⟩ : ∃ b, okA x = b := ⟨_, rfl⟩
      simp only [hb] at kb
      replace kb := Lib.hid kb
      have he' := Lib.hid (show _ ∧ _ from ⟨hx, hb⟩)
      clear hx hb
      have hlt : (i : Int) < (m : Int) := by omega
      go_upto_region 4 with (fail)
      let L : List Sp := [sV 5 [] [] (fun u => u = .bool (!b))]
      refine wp_region_six0 (shs L) (look6 L) (None_) (by kernel_rfl) (by kernel_rfl) (mk_St L [] [] (by kernel_rfl) (by kernel_rfl) ⟨ok_V ⟨_, rfl⟩, trivial⟩ (by simp)) ?_
      intro QQ hQ
      refine stepK rfl (by kernel_rfl) (fun K hK => ?_); go_simp
      apply Exists.intro; apply And.intro; (focus (intro wk hk; go_simp; exact ⟨rfl, rfl⟩)); refine hK _ _ ?_; clear hK K
      refine stepK rfl (by kernel_rfl) (fun K hK => ?_); go_simp
      apply Exists.intro; apply And.intro; (focus (intro wk hk; go_simp; exact ⟨rfl, rfl⟩)); refine hK _ _ ?_; clear hK K
      refine stepK rfl (by kernel_rfl) (fun K hK => ?_); go_simp
      apply Exists.intro; apply And.intro; (focus (intro wk hk; go_simp; exact ⟨rfl, rfl⟩)); refine hK _ _ ?_; clear hK K
      refine stepK rfl (by kernel_rfl) (fun K hK => ?_); go_simp
      apply Exists.intro; apply And.intro; (focus (intro wk hk; go_simp; exact ⟨rfl, rfl⟩)); refine hK _ _ ?_; clear hK K
      refine stepK rfl (by kernel_rfl) (fun K hK => ?_); go_simp
      apply Exists.intro; apply And.intro; (focus exact kLoadE rfl rfl aggT31 hcs rfl hg id); refine hK _ _ ?_; clear hK K
      refine stepS _ rfl (by kernel_rfl) (fun K hK => ?_); go_simp
      refine ⟨?_, ?_⟩
      · intro wk hk hg hu; go_simp; refine upon_enter ((kb.out _ (hinv.out.trans (hk.below.mono hinv.out.size))).mono ?_); rintro e w' ⟨rfl, hb⟩; exact ⟨_, rfl, left_V (p := fun u => u = .bool (!b)) rfl (hb) rfl⟩
      rintro ⟨v5, lo5, hi5⟩ - - (rfl : v5 = _)
      refine hK _ _ ?_; clear hK K
      refine stepN ?_
      refine hQ _ _ ?_
      intro w1 hT hG hF
      have hl1 := Lib.hid (hinv.out.trans (hT.below.mono hinv.out.size))
      clear hT hG hF hQ QQ L hinv hcs kb
      cases b
      · go_wp2_with fail
        go_ret
        unfold IdxP
        exact ⟨_, rfl, (fun h => by rw [all_not he'.out.1 he'.out.2] at h; cases h), (fun _ => by omega), hl1.out⟩
      · go_wp2_with fail
        go_roundg (gk - 1)
        case measure => omega
        case rel =>
          refine ⟨i + 1, by omega, by go_num, Lib.hid fun j e hj hje => ?_, hl1⟩
          rcases Nat.lt_or_ge j i with h | h
          · exact hall.out j e h hje
          · obtain rfl : j = i := by omega
            have h1 := he'.out.1.symm.trans hje
            injection h1 with h1
            rw [← h1]
            exact he'.out.2
    · obtain rfl : i = m := by omega
      have hlt : ¬ (i : Int) < (i : Int) := by omega
      go_wp2_with fail
      go_ret
      unfold IdxP
      exact ⟨-1, rfl, (fun _ => rfl), (fun h => by rw [all_all (fun j e hj hje => hall.out j e (by omega) hje)] at h; cases h), hinv.out⟩
set_option maxRecDepth 100000 in
set_option maxHeartbeats 16000000 in
theorem goodA_cont (v : Value) (l : List Nat) (w : World) (h : Us w v l) (hM : ∀ a ∈ l, a < M) (hE : l.length ≤ 1000) :
    Calls Try.prog 209 #[v, .func (.func 210) #[] #[]] w fun r w' => r = .returned (.bool (!l.all okA)) ∧ Below w.heap.size w w' := by
  have K := Lib.hid (goodA_idx v l w h hM hE)
  obtain ⟨b, hb⟩ : ∃ b, l.all okA = b := ⟨_, rfl⟩
  rw [hb] at K ⊢
  clear h hE hb
  go_enter Try.func209, Try.ntmps209
  go_wp2_with fail
  refine K.out.mono ?_
  rintro e w1 ⟨n, rfl, hn, hn', hb⟩
  clear K
  cases b
  · have hge : (0 : Int) ≤ n := hn' rfl
    clear hn hn'
    go_wp2_with fail
    go_ret
    exact ⟨by first | rfl | (simp; done), hb⟩
  · obtain rfl : n = -1 := hn rfl
    clear hn hn'
    go_wp2_with fail
    go_ret
    exact ⟨by first | rfl | (simp; done), hb⟩
set_option maxRecDepth 100000 in
set_option maxHeartbeats 16000000 in
theorem goodLeaf_at (x : Lf) (w : World) (hx : x.a < M) (hL : x.p.length ≤ 140737488355328) :
    Calls Try.prog 239 #[.agg (lfc x).toArray] w fun r w' => r = .returned (.bool (okLf x)) ∧ Below w.heap.size w w' := by
  have ka := fun wx => amountU hx wx
  have k1 := fun wx => within_at x.i 0 4294967295 wx
  have k2 := fun wx => within_at x.t 0 4294967295 wx
  have hok : okLf x = (decide (0 ≤ x.i ∧ x.i ≤ 4294967295) && (decide (0 ≤ x.t ∧ x.t ≤ 4294967295) && (decide (x.p.length ≤ 10) && decide (x.a < M2)))) := rfl
  obtain ⟨b1, hb1⟩ : ∃ b, decide (0 ≤ x.i ∧ x.i ≤ 4294967295) = b := ⟨_, rfl⟩
  obtain ⟨b2, hb2⟩ : ∃ b, decide (0 ≤ x.t ∧ x.t ≤ 4294967295) = b := ⟨_, rfl⟩
  obtain ⟨b4, hb4⟩ : ∃ b, decide (x.a < M2) = b := ⟨_, rfl⟩
  simp only [hb1] at k1
  simp only [hb2] at k2
  simp only [hb4] at ka
  rw [hb1, hb2, hb4] at hok
  obtain ⟨y0, y1, y2, y3, hW⟩ : ∃ y0 y1 y2 y3 : Int, W4 x.a = #[.int .u64 y0, .int .u64 y1, .int .u64 y2, .int .u64 y3] := ⟨_, _, _, _, rfl⟩
  have hcsW : (lfc x).toArray = #[.int .i64 x.i, .int .i64 x.t, .int .u64 y0, .int .u64 y1, .int .u64 y2, .int .u64 y3, .slice x.pq x.p.length x.pc] := by unfold lfc Lf.pv; rw [hW]; rfl
  simp only [hW] at ka
  rw [hcsW, hok]
  obtain ⟨xi, hxi⟩ : ∃ n, x.i = n := ⟨_, rfl⟩
  obtain ⟨xt, hxt⟩ : ∃ n, x.t = n := ⟨_, rfl⟩
  obtain ⟨np, hnp⟩ : ∃ n, x.p.length = n := ⟨_, rfl⟩
  obtain ⟨pq, hpq⟩ : ∃ n, x.pq = n := ⟨_, rfl⟩
  obtain ⟨pc, hpc⟩ : ∃ n, x.pc = n := ⟨_, rfl⟩
  simp only [hxi] at k1
  simp only [hxt] at k2
  rw [hxi, hxt, hnp, hpq, hpc]
  rw [hnp] at hL
  replace ka := Lib.hid ka
  replace k1 := Lib.hid k1
  replace k2 := Lib.hid k2
  clear hx hok hb1 hb2 hb4 hW hcsW hxi hxt hnp hpq hpc
  have hcase : ((np : Int) ≤ 10 ∧ decide (np ≤ 10) = true) ∨ (¬ (np : Int) ≤ 10 ∧ decide (np ≤ 10) = false) := by
    by_cases h : np ≤ 10
    · exact .inl ⟨by omega, decide_eq_true h⟩
    · exact .inr ⟨by omega, decide_eq_false h⟩
  have hni : (np : Int) ≤ 140737488355328 := by omega
  clear hL
  go_enter Try.func239, Try.ntmps239
  go_upto_region 1 with (fail)
  refine wp_abs (Mem w [(w.heap.size, 198, #[.int .i64 xi, .int .i64 xt, .int .u64 y0, .int .u64 y1, .int .u64 y2, .int .u64 y3, .slice pq np pc])]) ⟨by go_grown, by (repeat (first | (refine Row.new_at ?_; simp; done) | refine Row.alloc ?_ _)), trivial⟩ ?_
  intro w0 hM
  obtain ⟨hl, r1, -⟩ := hM
  have HL := Lib.hid (show _ ∧ _ from ⟨hl, r1⟩)
  have d0 := r1.cell 0
  clear hl r1
  go_wp2_with fail
  refine (k1.out _).mono ?_
  rintro e w1 ⟨rfl, hb⟩
  have H1 := Lib.hid (show _ ∧ _ from ⟨HL.out.1.trans (hb.mono HL.out.1.size), HL.out.2.below hb HL.out.2.lt⟩)
  clear k1 hb HL d0
  cases b1
  · clear ka k2 hcase
    go_wp2_with fail
    go_ret
    exact ⟨by first | rfl | (simp; done), H1.out.1⟩
  have d1 := H1.out.2.cell 1
  go_wp2_with fail
  refine (k2.out _).mono ?_
  rintro e w2 ⟨rfl, hb⟩
  have H2 := Lib.hid (show _ ∧ _ from ⟨H1.out.1.trans (hb.mono H1.out.1.size), H1.out.2.below hb H1.out.2.lt⟩)
  clear k2 hb H1 d1
  cases b2
  · clear ka hcase
    go_wp2_with fail
    go_ret
    exact ⟨by first | rfl | (simp; done), H2.out.1⟩
  have d6 := H2.out.2.cell 6
  rcases hcase with ⟨h10, hd⟩ | ⟨h10, hd⟩
  · have d2 := H2.out.2.cell 2
    have d3 := H2.out.2.cell 3
    have d4 := H2.out.2.cell 4
    have d5 := H2.out.2.cell 5
    have HD := Lib.hid hd
    clear hd
    go_wp2_with fail
    refine (ka.out _).mono ?_
    rintro e w3 ⟨rfl, hb⟩
    have H3 := Lib.hid (H2.out.1.trans (hb.mono H2.out.1.size))
    clear ka hb H2 d2 d3 d4 d5 d6
    go_wp2_with fail
    go_ret
    exact ⟨by rw [HD.out]; cases b4 <;> rfl, H3.out⟩
  · have HD := Lib.hid hd
    clear hd ka
    go_wp2_with fail
    go_ret
    exact ⟨by rw [HD.out]; rfl, H2.out.1⟩
set_option maxRecDepth 100000 in
set_option maxHeartbeats 16000000 in
theorem goodLf1_at (x : Lf) (w : World) (hx : x.a < M) (hL : x.p.length ≤ 140737488355328) :
    Calls Try.prog 238 #[.agg (lfc x).toArray] w fun r w' => r = .returned (.bool (!okLf x)) ∧ Below w.heap.size w w' := by
  have ka := Lib.hid fun wx => goodLeaf_at x wx hx hL
  obtain ⟨b, hb⟩ : ∃ b, okLf x = b := ⟨_, rfl⟩
  rw [hb] at ka ⊢
  clear hb hx hL
  go_enter Try.func238, Try.ntmps238
  go_upto_region 1 with (fail)
  refine wp_abs (Mem w [(w.heap.size, 198, (lfc x).toArray)]) ⟨by go_grown, by (repeat (first | (refine Row.new_at ?_; simp; done) | refine Row.alloc ?_ _)), trivial⟩ ?_
  intro w0 hM
  obtain ⟨hl, r1, -⟩ := hM
  let L : List Sp := [sV 1 [] [] (fun u => u = .bool b)]
  refine wp_region_six0 (shs L) (look6 L) (None_) (by kernel_rfl) (by kernel_rfl) (mk_St L [] [] (by kernel_rfl) (by kernel_rfl) ⟨ok_V ⟨_, rfl⟩, trivial⟩ (by simp)) ?_
  intro QQ hQ
  refine stepK rfl (by kernel_rfl) (fun K hK => ?_); go_simp
  apply Exists.intro; apply And.intro; (focus exact kLoad rfl rfl aggT198 r1 (lfc_len x) id); refine hK _ _ ?_; clear hK K
  refine stepS _ rfl (by kernel_rfl) (fun K hK => ?_); go_simp
  refine ⟨?_, ?_⟩
  · intro wk hk hg hu; go_simp; refine upon_enter ((ka.out _).mono ?_); rintro e w' ⟨rfl, hb⟩; exact ⟨_, rfl, left_V (p := fun u => u = .bool b) rfl (hb) rfl⟩
  rintro ⟨v1, lo1, hi1⟩ - - (rfl : v1 = _)
  refine hK _ _ ?_; clear hK K
  refine stepK rfl (by kernel_rfl) (fun K hK => ?_); go_simp
  apply Exists.intro; apply And.intro; (focus (intro wk hk; go_simp; exact ⟨rfl, rfl⟩)); refine hK _ _ ?_; clear hK K
  refine stepK rfl (by kernel_rfl) (fun K hK => ?_); go_simp
  apply Exists.intro; apply And.intro; (focus (intro wk hk; go_simp; exact ⟨rfl, rfl⟩)); refine hK _ _ ?_; clear hK K
  refine stepN ?_
  refine hQ _ _ ?_
  intro w9 hT hG hF
  have H9 := Lib.hid (hl.trans (hT.below.mono hl.size))
  clear hT hG hF hQ QQ L hl r1 ka
  go_wp2_with fail
  go_ret
  exact ⟨by first | rfl | (simp; done), H9.out⟩
set_option maxRecDepth 100000 in
set_option maxHeartbeats 16000000 in
theorem goodL_idx (v : Value) (l : List Lf) (w : World) (h : Ls w v l) (hpl : ∀ x ∈ l, x.p.length ≤ 140737488355328) (hE : l.length ≤ 1000) :
    Calls Try.prog 255 #[v, .func (.func 238) #[] #[]] w (IdxP (l.all okLf) w) := by
  have HC := Lib.hid h
  obtain ⟨q, c, rfl, -⟩ := h.1
  obtain ⟨m, hm⟩ : ∃ m, l.length = m := ⟨_, rfl⟩
  rw [hm] at HC ⊢
  have hmi : (m : Int) ≤ 1000 := by omega
  go_enter Try.func255, Try.ntmps255
  go_wp2_with fail
  go_loopg [5, 8] m (fun gg s5 s8 wr => ∃ i : Nat, i + gg = m ∧ s8 = .int .i64 (i : Int) ∧ Hid (∀ (j : Nat) (x : Lf), j < i → l[j]? = some x → okLf x = true) ∧ Hid (Below w.heap.size w wr))
  case atStart => exact ⟨0, by omega, rfl, Lib.hid (fun j e h => absurd h (Nat.not_lt_zero j)), Lib.hid (Below.refl _ _)⟩
  case round =>
    obtain ⟨i, him, rfl, hall, hinv⟩ := hrel
    by_cases hi : i < m
    · obtain ⟨x, hx⟩ : ∃ x, l[i]? = some x := ⟨_, List.getElem?_eq_getElem (by omega)⟩
      obtain ⟨g, o, c', hu, hg, hcs⟩ := (HC.out.below hinv.out).1.get hx
      simp only [Value.slice.injEq] at hu
      obtain ⟨rfl, -, -⟩ := hu
      have kb := fun wx (hbw : Below w.heap.size w wx) => goodLf1_at x wx (HC.out.2 x (List.mem_of_getElem? hx)).a (hpl x (List.mem_of_getElem? hx))
      obtain ⟨b, hb⟩ : ∃ b, okLf x = b := ⟨_, rfl⟩
      simp only [hb] at kb
      replace kb := Lib.hid kb
      have he' := Lib.hid (show _ ∧ _ from ⟨hx, hb⟩)
      clear hx hb
      have hlt : (i : Int) < (m : Int) := by omega
      go_upto_region 4 with (fail)
      let L : List Sp := [sV 5 [] [] (fun u => u = .bool (!b))]
      refine wp_region_six0 (shs L) (look6 L) (None_) (by kernel_rfl) (by kernel_rfl) (mk_St L [] [] (by kernel_rfl) (by kernel_rfl) ⟨ok_V ⟨_, rfl⟩, trivial⟩ (by simp)) ?_
      intro QQ hQ
      refine stepK rfl (by kernel_rfl) (fun K hK => ?_); go_simp
      apply Exists.intro; apply And.intro; (focus (intro wk hk; go_simp; exact ⟨rfl, rfl⟩)); refine hK _ _ ?_; clear hK K
      refine stepK rfl (by kernel_rfl) (fun K hK => ?_); go_simp
      apply Exists.intro; apply And.intro; (focus (intro wk hk; go_simp; exact ⟨rfl, rfl⟩)); refine hK _ _ ?_; clear hK K
      refine stepK rfl (by kernel_rfl) (fun K hK => ?_); go_simp
      apply Exists.intro; apply And.intro; (focus (intro wk hk; go_simp; exact ⟨rfl, rfl⟩)); refine hK _ _ ?_; clear hK K
      refine stepK rfl (by kernel_rfl) (fun K hK => ?_); go_simp
      apply Exists.intro; apply And.intro; (focus (intro wk hk; go_simp; exact ⟨rfl, rfl⟩)); refine hK _ _ ?_; clear hK K
      refine stepK rfl (by kernel_rfl) (fun K hK => ?_); go_simp
      apply Exists.intro; apply And.intro; (focus exact kLoadE rfl rfl aggT198 hcs (lfc_len x) hg id); refine hK _ _ ?_; clear hK K
      refine stepS _ rfl (by kernel_rfl) (fun K hK => ?_); go_simp
      refine ⟨?_, ?_⟩
      · intro wk hk hg hu; go_simp; refine upon_enter ((kb.out _ (hinv.out.trans (hk.below.mono hinv.out.size))).mono ?_); rintro e w' ⟨rfl, hb⟩; exact ⟨_, rfl, left_V (p := fun u => u = .bool (!b)) rfl (hb) rfl⟩
      rintro ⟨v5, lo5, hi5⟩ - - (rfl : v5 = _)
      refine hK _ _ ?_; clear hK K
      refine stepN ?_
      refine hQ _ _ ?_
      intro w1 hT hG hF
      have hl1 := Lib.hid (hinv.out.trans (hT.below.mono hinv.out.size))
      clear hT hG hF hQ QQ L hinv hcs kb
      cases b
      · go_wp2_with fail
        go_ret
        unfold IdxP
        exact ⟨_, rfl, (fun h => by rw [all_not he'.out.1 he'.out.2] at h; cases h), (fun _ => by omega), hl1.out⟩
      · go_wp2_with fail
        go_roundg (gk - 1)
        case measure => omega
        case rel =>
          refine ⟨i + 1, by omega, by go_num, Lib.hid fun j e hj hje => ?_, hl1⟩
          rcases Nat.lt_or_ge j i with h | h
          · exact hall.out j e h hje
          · obtain rfl : j = i := by omega
            have h1 := he'.out.1.symm.trans hje
            injection h1 with h1
            rw [← h1]
            exact he'.out.2
    · obtain rfl : i = m := by omega
      have hlt : ¬ (i : Int) < (i : Int) := by omega
      go_wp2_with fail
      go_ret
      unfold IdxP
      exact ⟨-1, rfl, (fun _ => rfl), (fun h => by rw [all_all (fun j e hj hje => hall.out j e (by omega) hje)] at h; cases h), hinv.out⟩
set_option maxRecDepth 100000 in
set_option maxHeartbeats 16000000 in
theorem goodL_cont (v : Value) (l : List Lf) (w : World) (h : Ls w v l) (hpl : ∀ x ∈ l, x.p.length ≤ 140737488355328) (hE : l.length ≤ 1000) :
    Calls Try.prog 237 #[v, .func (.func 238) #[] #[]] w fun r w' => r = .returned (.bool (!l.all okLf)) ∧ Below w.heap.size w w' := by
  have K := Lib.hid (goodL_idx v l w h hpl hE)
  obtain ⟨b, hb⟩ : ∃ b, l.all okLf = b := ⟨_, rfl⟩
  rw [hb] at K ⊢
  clear h hE hb
  go_enter Try.func237, Try.ntmps237
  go_wp2_with fail
  refine K.out.mono ?_
  rintro e w1 ⟨n, rfl, hn, hn', hb⟩
  clear K
  cases b
  · have hge : (0 : Int) ≤ n := hn' rfl
    clear hn hn'
    go_wp2_with fail
    go_ret
    exact ⟨by first | rfl | (simp; done), hb⟩
  · obtain rfl : n = -1 := hn rfl
    clear hn hn'
    go_wp2_with fail
    go_ret
    exact ⟨by first | rfl | (simp; done), hb⟩
end Go.Proofs.Ytpdenhmkpiafiaa
namespace Go.Proofs.Ytpdenhmkpiafiaa
open Go Go.RowKit K6
def cntB (s : Shp) (n a h : Nat) : Bool := (if s.t then decide (1 ≤ (n : Int) - s.n ∧ (n : Int) - s.n ≤ 8) else decide ((n : Int) - s.n = 0)) && (decide ((a : Int) = if s.e then (n : Int) - s.n else s.a) && decide ((h : Int) = s.h))
def numsB (xn : Int) (l : List Int) : Bool := decide (∀ i, i < l.length → (0 ≤ l.getD i 0 ∧ l.getD i 0 ≤ 1099511627776) ∧ (xn < (i : Int) → l.getD (i - 1) 0 < l.getD i 0))
def okLfK (y : LfK) : Bool := decide (0 ≤ y.1 ∧ y.1 ≤ 4294967295) && (decide (0 ≤ y.2.1 ∧ y.2.1 ≤ 4294967295) && (decide (y.2.2.2.length ≤ 10) && okA y.2.2.1))
theorem all_key (l : List Lf) : l.all okLf = (l.map Lf.key).all okLfK := by
  rw [List.all_map]; rfl
def headB (c : CmK) : Bool := decide (0 ≤ c.1 ∧ c.1 ≤ 4294967295) && (decide (0 ≤ c.2.1 ∧ c.2.1 ≤ 4294967295) && (decide (1 ≤ c.2.2.1 ∧ c.2.2.1 ≤ 4294967295) && decide (1 ≤ c.2.2.2.2.1 ∧ c.2.2.2.2.1 ≤ 4294967295)))
def goodCK (c : CmK) : Bool := headB c && (decide (c.2.2.2.2.2.1.length ≤ 10) && (decide (1 ≤ (c.2.2.2.2.2.2.length : Int) ∧ (c.2.2.2.2.2.2.length : Int) ≤ 8) && c.2.2.2.2.2.2.all okLfK))
def goodK (t : TxK) : Bool := okK t.1 && (decide (1 ≤ t.2.1 ∧ t.2.1 ≤ 4294967295) && (cntB (shpOf t.1) t.2.2.1.length t.2.2.2.1.length t.2.2.2.2.1.length && (numsB (shpOf t.1).n t.2.2.1 && (t.2.2.2.1.all okA && (if (shpOf t.1).c = true then goodCK t.2.2.2.2.2 else decide (t.2.2.2.2.2 = cm0.key))))))
def prfB (l : List (List Int)) : List Int := enc l.length ++ l.flatMap fun y => y
def lfKB (y : LfK) : List Int := enc y.1.toNat ++ (enc y.2.1.toNat ++ (amtL y.2.2.1 ++ prfB y.2.2.2))
def clKB (c : CmK) : List Int := enc c.1.toNat ++ (enc c.2.1.toNat ++ (enc c.2.2.1.toNat ++ (enc c.2.2.2.2.1.toNat ++ (c.2.2.2.1 ++ (prfB c.2.2.2.2.2.1 ++ (enc c.2.2.2.2.2.2.length ++ c.2.2.2.2.2.2.flatMap lfKB))))))
def nst (s : Shp) (l : List Int) (i : Nat) : List Int := (if s.t = true ∧ (i : Int) = s.n then enc ((l.length : Int) - s.n).toNat else []) ++ enc (l.getD i 0).toNat
def numB (s : Shp) (l : List Int) (i : Nat) : List Int := (List.range i).flatMap (nst s l)
def putK (t : TxK) : List Int := enc t.1.toNat ++ (enc t.2.1.toNat ++ (numB (shpOf t.1) t.2.2.1 t.2.2.1.length ++ (t.2.2.2.1.flatMap amtL ++ (t.2.2.2.2.1.flatMap (fun y => y) ++ (if (shpOf t.1).c = true then clKB t.2.2.2.2.2 else [])))))
def bytK (t : TxK) : List Int := if goodK t = true then (if (putK t).length ≤ 4096 then putK t else []) else []
theorem flat_step {α : Type} (f : α → List Int) {l : List α} {i : Nat} {x : α} (hx : l[i]? = some x) (P : List Int) : (P ++ (l.take i).flatMap f) ++ f x = P ++ (l.take (i + 1)).flatMap f := by
  rw [List.take_add_one, hx, Option.toList_some, List.flatMap_append, List.append_assoc]
  have : [x].flatMap f = f x := List.append_nil _
  rw [this]
theorem numB_step (s : Shp) (l : List Int) (i : Nat) (P : List Int) : (P ++ numB s l i) ++ nst s l i = P ++ numB s l (i + 1) := by
  unfold numB
  rw [List.range_succ, List.flatMap_append, List.append_assoc]
  have : [i].flatMap (nst s l) = nst s l i := List.append_nil _
  rw [this]
theorem flat_le {α : Type} {f : α → List Int} {c : Nat} : ∀ {l : List α}, (∀ x ∈ l, (f x).length ≤ c) → (l.flatMap f).length ≤ c * l.length
  | [], _ => Nat.zero_le _
  | x :: l, h => by
    rw [List.flatMap_cons, List.length_append, List.length_cons, Nat.mul_succ]
    have h1 := h x (List.mem_cons_self ..)
    have h2 := flat_le fun y hy => h y (List.mem_cons_of_mem x hy)
    omega
theorem amtL_le (a : Nat) : (amtL a).length ≤ 33 := by
  unfold amtL
  rw [List.length_cons, List.length_drop, BL32_len]
  omega
theorem prf_le {l : List (List Int)} (h : ∀ y ∈ l, y.length = 32) (hl : l.length ≤ 1000) : (prfB l).length ≤ 9 + 32 * l.length := by
  unfold prfB
  rw [List.length_append]
  have h1 := enc_len9 (m := l.length) (by omega)
  have h2 := flat_le (f := fun y : List Int => y) (c := 32) (l := l) fun y hy => Nat.le_of_eq (h y hy)
  omega
theorem shp_n (k : Int) : 0 ≤ (shpOf k).n ∧ (shpOf k).n ≤ 3 := by
  unfold shpOf
  split
  · rename_i h
    have h2 : k = 1 ∨ k = 2 ∨ k = 3 ∨ k = 4 ∨ k = 5 ∨ k = 6 ∨ k = 7 ∨ k = 8 ∨ k = 9 ∨ k = 10 ∨ k = 11 ∨ k = 12 ∨ k = 13 ∨ k = 14 ∨ k = 15 ∨ k = 16 ∨ k = 17 ∨ k = 18 ∨ k = 19 ∨ k = 20 ∨ k = 21 ∨ k = 22 ∨ k = 23 ∨ k = 24 ∨ k = 25 ∨ k = 26 ∨ k = 27 ∨ k = 28 := by omega
    rcases h2 with rfl | rfl | rfl | rfl | rfl | rfl | rfl | rfl | rfl | rfl | rfl | rfl | rfl | rfl | rfl | rfl | rfl | rfl | rfl | rfl | rfl | rfl | rfl | rfl | rfl | rfl | rfl | rfl <;> exact ⟨by decide, by decide⟩
  · exact ⟨by decide, by decide⟩
end Go.Proofs.Ytpdenhmkpiafiaa
namespace Go.Proofs.Ytpdenhmkpiafiaa
open Go Go.RowKit K6
theorem Ob_new0 (w : World) : Ob (w.alloc (.cells #[] 5)) w.heap.size (.slice (some ⟨w.heap.size, 0, none⟩) 0 0) [] := ⟨rfl, .inr ⟨w.heap.size, 0, #[], rfl, Nat.le_refl _, Row.new_at (t := 5) (cs := #[]) rfl, Nat.le_refl _, Nat.zero_le _, rfl, rfl⟩⟩
theorem Bs_row {w : World} {b t n : Nat} {ys : List Int} (h : Row w b t (bv ys).toArray) (hn : ys.length = n) : Bs w (.slice (some ⟨b, 0, none⟩) n n) ys := by
  subst hn
  refine ⟨_, _, rfl, (fun h => (by cases h)), fun a ha j u hj => ?_⟩
  cases ha
  rw [add_at, Nat.zero_add, h.cell]
  simpa using hj
set_option maxRecDepth 100000 in
set_option maxHeartbeats 8000000 in
theorem hash_put (u : Value) (xs hs : List Int) (w : World) (h : Bs w u xs) (hL0 : xs.length ≤ 10000000) (hh : hs.length = 32) :
    Calls Try.prog 42 #[u, .agg (bv hs).toArray] w fun e w' => ∃ v, e = .returned v ∧ Ob w' w.heap.size v (xs ++ hs) ∧ Below w.heap.size w w' := by
  have hL := Lib.hid (show xs.length ≤ 100000000 by omega)
  have hH := Lib.hid hh
  obtain ⟨z3, hz3e⟩ : ∃ z, xs ++ hs = z := ⟨_, rfl⟩
  have hz3 := Lib.hid hz3e
  have hfin := Lib.hid hz3e.symm
  clear hz3e
  have hb0 := h
  clear h hL0 hh
  go_enter Try.func42, Try.ntmps42
  apply wp_seq_eq
  focus
    intro J hJ
    go_wp2_with fail
    exact hJ
  refine wp_abs (Mem w [(w.heap.size, 35, (bv hs).toArray)]) ⟨by go_grown, Row.new_at rfl, trivial⟩ ?_
  intro w0 hM
  obtain ⟨hl, rh, -⟩ := hM
  have hb := hb0.below hl
  clear hb0
  go_upto_region 1 with (fail)
  let L : List Sp := [sQ 1 [] [] [] [3] w0.heap.size xs (fun _ => True), sQ 3 [1] [1] [1] [] w0.heap.size z3 (fun _ => True)]
  refine wp_region_six7 (shs L) (look6 L) (None_) (by kernel_rfl) (by kernel_rfl) (mk_St L [] [] (by kernel_rfl) (by kernel_rfl) ⟨ok_Q ⟨undef, trivial⟩ (by simp), ok_Q ⟨undef, trivial⟩ (by simp), trivial⟩ (by simp)) ?_
  intro QQ hQ
  refine stepK rfl (by kernel_rfl) (fun K hK => ?_); go_simp
  apply Exists.intro; apply And.intro; (focus (intro wk hk; go_simp; exact ⟨rfl, rfl⟩)); refine hK _ _ ?_; clear hK K
  refine stepS _ rfl (by kernel_rfl) (fun K hK => ?_); go_simp
  refine ⟨?_, ?_⟩
  · intro wk hk hg hu; have hb9 := hb.below hk.undrew.below; go_simp; refine upon_enter ((clone_any u xs wk hb9 hL.out).mono ?_); rintro e w' ⟨v, rfl, ho, hbb⟩; exact ⟨_, rfl, left_Qc rfl rfl ho hbb hk.undrew.size trivial⟩
  rintro ⟨v1, lo1, hi1⟩ - - -
  refine hK _ _ ?_; clear hK K
  refine stepK rfl (by kernel_rfl) (fun K hK => ?_); go_simp
  apply Exists.intro; apply And.intro; (focus (intro wk hk; go_simp; exact ⟨rfl, rfl⟩)); refine hK _ _ ?_; clear hK K
  refine stepS _ rfl (by kernel_rfl) (fun K hK => ?_); go_simp
  refine ⟨?_, ?_⟩
  · intro wk hk hg hu; have u1 := hu 1 (show 1 ∈ [1] by decide); have o1 : OwnF 1 [] w0.heap.size (xs) _ wk := u1; have p1 : Ob wk w0.heap.size v1 (xs) := o1.1; have s9 := (Bs_row (K6.Row.tr rh hk.undrew id) hH.out); obtain ⟨v', w', hrun, ho2, hgb, hw⟩ := append_run p1 s9 (by have := hL.out; have := hH.out; omega) hk.undrew.size; rw [run_append_op rfl rfl rfl hrun]; exact left_Qa rfl rfl (by decide) o1.2 hgb (by rw [← hz3.out]; exact ho2) hw trivial
  rintro ⟨v3, lo3, hi3⟩ - - -
  refine hK _ _ ?_; clear hK K
  refine stepK rfl (by kernel_rfl) (fun K hK => ?_); go_simp
  apply Exists.intro; apply And.intro; (focus (intro wk hk; go_simp; exact ⟨rfl, rfl⟩)); refine hK _ _ ?_; clear hK K
  refine stepN ?_
  refine hQ _ _ ?_
  intro w3 hT hG hF
  have hb3 := hT.undrew.below
  have o9 : OwnF 3 [1] w0.heap.size z3 _ w3 := hF 3 _ rfl rfl (by decide)
  have H := Lib.hid (show _ ∧ _ from ⟨(show Ob w3 w0.heap.size v3 z3 from o9.1).base hl.size, hl.trans (hb3.mono hl.size)⟩)
  clear hT hG hF hb3 hQ QQ L o9 hl hb
  go_wp2_with fail
  go_ret
  exact ⟨_, rfl, by rw [← hfin.out]; exact H.out.1, H.out.2⟩
end Go.Proofs.Ytpdenhmkpiafiaa
namespace Go.Proofs.Ytpdenhmkpiafiaa
open Go Go.RowKit K6
theorem bv_arr {x : List Int} (h : x.length = 32) : (bv x).toArray.size = 32 := by rw [List.size_toArray, bv_len]; exact h
theorem bv_arr_one (x : List Int) : (bv x).toArray.all (·.oneCell') = true := by rw [List.all_toArray]; exact bv_all x
theorem W4_one_ (a : Nat) : (W4 a).all (·.oneCell') = true := by kernel_rfl
theorem info35 {Y : Array Value} (h : Y.size = 32) : (Try.prog.info? 35).map (·.size) = some Y.size := by rw [h]; kernel_rfl
theorem info31 {Y : Array Value} (h : Y.size = 4) : (Try.prog.info? 31).map (·.size) = some Y.size := by rw [h]; kernel_rfl
theorem info198 {Y : Array Value} (h : Y.size = 7) : (Try.prog.info? 198).map (·.size) = some Y.size := by rw [h]; kernel_rfl
set_option maxRecDepth 100000 in
set_option maxHeartbeats 16000000 in
theorem putProof_at (u v : Value) (xs : List Int) (l : List (List Int)) (w : World) (hu : Bs w u xs) (hL : xs.length ≤ 4000000) (h : Hs w v l) (hh : ∀ x ∈ l, x.length = 32) (hm1 : l.length ≤ 1000) :
    Calls Try.prog 243 #[u, v] w fun e w' => ∃ x, e = .returned x ∧ Ob w' w.heap.size x (xs ++ prfB l) ∧ Below w.heap.size w w' := by
  have HC1 := Lib.hid (show _ ∧ _ from ⟨h, hh⟩)
  obtain ⟨q, c, rfl, -⟩ := h
  obtain ⟨m, hm⟩ : ∃ m, l.length = m := ⟨_, rfl⟩
  rw [hm] at HC1 hm1
  obtain ⟨P, hP⟩ : ∃ P, xs ++ enc m = P := ⟨_, rfl⟩
  have hPl1 := Lib.hid (show P.length ≤ 4100000 by rw [← hP, List.length_append]; have := enc_len9 (m := m) (by omega); omega)
  have hPe := Lib.hid (show P ++ l.flatMap (fun y : List Int => y) = xs ++ prfB l by unfold prfB; rw [← hP, hm, List.append_assoc])
  have kv := var_any u xs (m : Int) w hu (by omega) (by omega)
  rw [Int.toNat_natCast, hP] at kv
  replace kv := Lib.hid kv
  rw [hm]
  have HM1 := Lib.hid hm
  have hmi : (m : Int) ≤ 1000 := by omega
  obtain ⟨B, hB⟩ : ∃ B, w.heap.size = B := ⟨_, rfl⟩
  clear hu hL hP hh hm
  go_enter Try.func243, Try.ntmps243
  go_wp2_with fail
  refine kv.out.mono ?_
  rintro e w1 ⟨x1, rfl, ho, hb⟩
  rw [hB] at ho
  have H1 := Lib.hid (show _ ∧ _ from ⟨ho, hb⟩)
  clear kv ho hb
  go_wp2_with fail
  go_loopg [0, 13] m (fun gg s0 s13 wr => ∃ i : Nat, i + gg = m ∧ s13 = .int .i64 (i : Int) ∧ Hid (Ob wr B s0 (P ++ (l.take i).flatMap (fun y : List Int => y))) ∧ Hid (Below w.heap.size w wr))
  case atStart => exact ⟨0, by omega, rfl, Lib.hid (by rw [List.take_zero, List.flatMap_nil, List.append_nil]; exact H1.out.1), Lib.hid H1.out.2⟩
  case round =>
    clear H1
    obtain ⟨i1, him1, rfl, hob1, hinv1⟩ := hrel
    by_cases hi : i1 < m
    · obtain ⟨x, hx⟩ : ∃ x, l[i1]? = some x := ⟨_, List.getElem?_eq_getElem (by have := HM1.out; omega)⟩
      obtain ⟨gx, ox, cx', hu, hgx, hcx⟩ := (HC1.out.1.below hinv1.out).get hx
      simp only [Value.slice.injEq] at hu
      obtain ⟨rfl, -, -⟩ := hu
      have hxl := HC1.out.2 x (List.mem_of_getElem? hx)
      have hst := flat_step (fun y : List Int => y) hx P
      obtain ⟨Y0, hY0⟩ : ∃ Z, P ++ (l.take i1).flatMap (fun y : List Int => y) = Z := ⟨_, rfl⟩
      obtain ⟨Z1, hZ1⟩ : ∃ Z, P ++ (l.take (i1 + 1)).flatMap (fun y : List Int => y) = Z := ⟨_, rfl⟩
      have hy0 : Y0.length ≤ 5000000 := by
        rw [← hY0, List.length_append]
        have h1 := flat_le (f := (fun y : List Int => y)) (c := 32) (l := l.take i1) (fun y hy => Nat.le_of_eq (HC1.out.2 y (List.mem_of_mem_take hy)))
        rw [List.length_take] at h1
        have h2 := hPl1.out
        omega
      rw [hY0] at hob1 hst
      rw [hZ1] at hst
      have k4 := fun wx vx (h : Bs wx vx Y0) => hash_put vx Y0 x wx h (by omega) hxl
      have hst2 := hst
      rw [hst2] at k4
      obtain ⟨Y, hY⟩ : ∃ Y, (bv x).toArray = Y := ⟨_, rfl⟩
      have hYsz := bv_arr hxl
      have hYone := bv_arr_one x
      replace hcx : ∀ j v, ((bv x).toArray).toList[j]? = some v → wr.cell? ⟨gx, ox + i1 * 32 + j, none⟩ = some v := hcx
      rw [hY] at k4 hYsz hYone hcx
      have hinf := info35 hYsz
      replace k4 := Lib.hid k4
      replace hZ1 := Lib.hid hZ1
      clear hx hY0 hst hst2 hy0 hxl hY
      have hlt : (i1 : Int) < (m : Int) := by omega
      have hBr : B ≤ wr.heap.size := by have := hinv1.out.size; omega
      go_upto_region 4 with (fail)
      let L : List Sp := [sA 2 35 [3] zr32, sT 3 2 35 [1] (fun g => aggOf g 1)]
      refine wp_region_six0 (shs L) (look6 L) (None_) (by kernel_rfl) (by kernel_rfl) (mk_St L [] [] (by kernel_rfl) (by kernel_rfl) ⟨ok_A, ok_T aggOf_congr, trivial⟩ (by simp)) ?_
      intro QQ hQ
      refine stepK rfl (by kernel_rfl) (fun K hK => ?_); go_simp
      apply Exists.intro; apply And.intro; (focus (intro wk hk; go_simp; exact ⟨rfl, rfl⟩)); refine hK _ _ ?_; clear hK K
      refine stepK rfl (by kernel_rfl) (fun K hK => ?_); go_simp
      apply Exists.intro; apply And.intro; (focus exact kLoadA rfl rfl aggR35 hcx hYsz hgx id); refine hK _ _ ?_; clear hK K
      refine stepS _ rfl (by kernel_rfl) (fun K hK => ?_); go_simp
      refine ⟨?_, ?_⟩
      · intro wk hk hg hu; go_simp; exact left_A rfl rfl
      rintro ⟨v2, lo2, hi2⟩ hlo2 hhi2 ⟨e2, f2⟩
      replace e2 : v2 = .pointer (some ⟨lo2, 0, none⟩) := e2; replace f2 : hi2 = lo2 + 1 := f2; replace hlo2 : _ ≤ lo2 := hlo2; subst e2; subst f2
      refine hK _ _ ?_; clear hK K
      refine stepS _ rfl (by kernel_rfl) (fun K hK => ?_); go_simp
      refine ⟨?_, ?_⟩
      · exact sStoreT rfl rfl rfl rfl rfl rfl rfl hinf hYsz.symm hYone (by decide) aggOf_congr
      rintro ⟨v3, lo3, hi3⟩ - - (rfl : v3 = undef)
      refine hK _ _ ?_; clear hK K
      refine stepN ?_
      refine hQ _ _ ?_
      intro w4 hT hG hF
      have hbw4 := hT.below
      have rY : Row w4 lo2 35 Y := (hF 3 _ rfl rfl (by decide)).2
      clear hT hG hF hQ QQ L hcx hgx
      have ob4 := hob1.out.below hbw4
      have hl4 := Lib.hid (hinv1.out.trans (hbw4.mono hinv1.out.size))
      have hs4 := hbw4.size
      have hB4 : B ≤ w4.heap.size := by omega
      clear hob1 hinv1 hbw4 hYone hinf hs4
      go_upto_region 5 with (fail)
      let L : List Sp := [sF 2 [] [] [] (fun _ => True) (fun x w => Ob w B x.v Z1)]
      refine wp_region_six0 (shs L) (look6 L) (None_) (by kernel_rfl) (by kernel_rfl) (mk_St L [] [] (by kernel_rfl) (by kernel_rfl) ⟨ok_F (any_some _) (fun _ _ _ h hb => Ob.below h hb), trivial⟩ (by simp)) ?_
      intro QQ hQ
      refine stepK rfl (by kernel_rfl) (fun K hK => ?_); go_simp
      apply Exists.intro; apply And.intro; (focus (intro wk hk; go_simp; exact ⟨rfl, rfl⟩)); refine hK _ _ ?_; clear hK K
      refine stepK rfl (by kernel_rfl) (fun K hK => ?_); go_simp
      apply Exists.intro; apply And.intro; (focus exact kLoad rfl rfl aggR35 rY hYsz id); refine hK _ _ ?_; clear hK K
      refine stepS _ rfl (by kernel_rfl) (fun K hK => ?_); go_simp
      refine ⟨?_, ?_⟩
      · intro wk hk hg hu; go_simp; refine upon_enter ((k4.out _ u0 (ob4.below hk.below).bs).mono ?_); rintro e w' ⟨v, rfl, hv, hb9⟩; exact ⟨_, rfl, left_F rfl rfl hb9 trivial (hv.base (by have := hk.size; omega))⟩
      rintro ⟨v2, lo2, hi2⟩ - - -
      refine hK _ _ ?_; clear hK K
      refine stepK rfl (by kernel_rfl) (fun K hK => ?_); go_simp
      apply Exists.intro; apply And.intro; (focus (intro wk hk; go_simp; exact ⟨rfl, rfl⟩)); refine hK _ _ ?_; clear hK K
      refine stepN ?_
      refine hQ _ _ ?_
      intro w5 hT hG hF
      have o5 : Ob w5 B v2 Z1 := hF 2 _ rfl rfl (by decide)
      have hb5 := hT.below
      have H5 := Lib.hid (show Ob w5 B v2 (P ++ (l.take (i1 + 1)).flatMap (fun y : List Int => y)) ∧ Below w.heap.size w w5 from ⟨by rw [hZ1.out]; exact o5, hl4.out.trans (hb5.mono hl4.out.size)⟩)
      clear hT hG hF hQ QQ L k4 ob4 rY o5 hb5 hl4 hYsz hZ1
      go_wp2_with fail
      go_roundg (gk - 1)
      case measure => omega
      case rel => exact ⟨i1 + 1, by omega, by go_num, Lib.hid H5.out.1, Lib.hid H5.out.2⟩
    · obtain rfl : i1 = m := by omega
      have hlt : ¬ (i1 : Int) < (i1 : Int) := by omega
      rw [List.take_of_length_le (by have := HM1.out; omega)] at hob1
      go_wp2_with fail
      go_ret
      exact ⟨_, rfl, by rw [← hPe.out]; exact hob1.out, by first | exact hinv1.out | (rw [hB]; exact hinv1.out) | (rw [← hB]; exact hinv1.out)⟩
end Go.Proofs.Ytpdenhmkpiafiaa
