/-
  Package wad: amounts scaled from one number to another, rounded down and up.
-/
import Derived.Test.YtpdenhmkpiafiaaWadClo
namespace Go.Proofs.Ytpdenhmkpiafiaa
open Go Go.RowKit K6

theorem quoN_zero (n : Nat) {d : Nat} (h : d = 0) : quoN n d = 0 := if_neg fun h1 => h1.1 h
theorem upN_zero (n : Nat) {d : Nat} (h : d = 0) : upN n d = 0 := by
  unfold upN
  rw [if_pos (show remN n d = 0 from if_neg fun h1 => h1.1 h)]
  exact quoN_zero n h
def scB (a t f : Nat) : Bool := if f = 0 then decide (a = 0) else quoB (a * t) f
def scUB (a t f : Nat) : Bool := if f = 0 then decide (a = 0) else upB (a * t) f
set_option maxRecDepth 100000 in
set_option maxHeartbeats 8000000 in
theorem scaledD {a t f ga gt gf : Nat} (ha : a < M) (ht : t < M) (hf : f < M) (w : World) (ra : Row w ga 31 (W4 a)) (rt : Row w gt 31 (W4 t)) (rf : Row w gf 31 (W4 f)) :
    Calls Try.prog 198 #[.agg (W4 a), .agg (W4 f), .func (.func 199) #[] #[.pointer (some ⟨ga, 0, none⟩), .pointer (some ⟨gt, 0, none⟩), .pointer (some ⟨gf, 0, none⟩)]] w (Ret w (.tuple #[.agg (W4 (quoN (a * t) f)), .bool (scB a t f)])) := by
  by_cases h0 : f = 0
  · have q0 : ∀ wx, (Op.equalIn 10000 31 (.agg (W4 f)) (.agg #[.int .u64 0, .int .u64 0, .int .u64 0, .int .u64 0])).run Try.prog wx = .ok true wx := fun wx => by rw [eqU0 hf, decide_eq_true h0]
    rw [show quoN (a * t) f = 0 from quoN_zero (a * t) h0, show scB a t f = decide (a = 0) from if_pos h0]
    clear h0
    go_enter Try.func198, Try.ntmps198
    apply wp_seq_eq
    focus
      intro J hJ
      go_wp2_with fail
      exact hJ
    refine wp_abs (Mem w [(w.heap.size, 31, W4 a), (w.heap.size + 1, 31, W4 f), (w.heap.size + 1 + 1, 31, arr .u64 (fun _ => 0) 4), (ga, 31, W4 a), (gt, 31, W4 t), (gf, 31, W4 f)]) ⟨by go_grown, ?_, ?_, ?_, ((ra.alloc _).alloc _).alloc _, ((rt.alloc _).alloc _).alloc _, ((rf.alloc _).alloc _).alloc _, trivial⟩ ?_
    · repeat (first | (refine Row.new_at ?_; simp; done) | refine Row.alloc ?_ _)
    · repeat (first | (refine Row.new_at ?_; simp; done) | refine Row.alloc ?_ _)
    · repeat (first | (refine Row.new_at ?_; simp; done) | refine Row.alloc ?_ _)
    clear ra rt rf
    intro w0 hM
    obtain ⟨hl, qa, qf, rr, ra, rt, rf, -⟩ := hM
    go_upto_region 1 with (fail)
    let L : List Sp := []
    refine wp_region_six0 (shs L) (look6 L) (None_) (by kernel_rfl) (by kernel_rfl) (mk_St L [] [] (by kernel_rfl) (by kernel_rfl) trivial (by simp)) ?_
    intro QQ hQ
    -- 0: load<31> *t4
    refine stepK rfl (by kernel_rfl) (fun K hK => ?_); go_simp
    apply Exists.intro; apply And.intro; (focus exact kLoad rfl rfl aggT31 qf rfl id); refine hK _ _ ?_; clear hK K
    -- 1: build<31> 
    refine stepK rfl (by kernel_rfl) (fun K hK => ?_); go_simp
    apply Exists.intro; apply And.intro; (focus (intro wk hk; go_simp; exact ⟨rfl, rfl⟩)); refine hK _ _ ?_; clear hK K
    -- 2: eql<31> t8, t9
    refine stepK rfl (by kernel_rfl) (fun K hK => ?_); go_simp
    apply Exists.intro; apply And.intro; (focus (intro wk hk; go_simp; exact ⟨rfl, rfl⟩)); refine hK _ _ ?_; clear hK K
    refine stepN ?_
    refine hQ _ _ ?_
    intro w1 hT hG hF
    have hbw1 := hT.below
    replace qa := qa.below hbw1 qa.lt
    replace rr := rr.below hbw1 rr.lt
    replace hl := hl.trans (hbw1.mono hl.size)
    clear hT hG hF hbw1 hQ QQ L 
    have qa0 := fun wx => eqU0 ha wx
    go_upto_region 2 with (fail)
    let L : List Sp := [sO 4 (w.heap.size + 1 + 1) 31 [0] (fun g => aggOf g 0)]
    refine wp_region_six (shs L) (look6 L) (fun c => c = w.heap.size + 1 + 1) (by kernel_rfl) (by kernel_rfl) (mk_St L [4] [4] (by kernel_rfl) (by kernel_rfl) ⟨ok_O aggOf_congr rr.lt (rfl), trivial⟩ (by simp)) ?_
    intro QQ hQ
    -- 0: build<31> 
    refine stepK rfl (by kernel_rfl) (fun K hK => ?_); go_simp
    apply Exists.intro; apply And.intro; (focus (intro wk hk; go_simp; exact ⟨rfl, rfl⟩)); refine hK _ _ ?_; clear hK K
    -- 1: load<31> *t3
    refine stepKz rfl (fun K hK => ?_); go_simp
    apply Exists.intro; apply And.intro; (focus exact kLoad rfl rfl aggT31 qa rfl (by omega)); refine hK _ _ ?_; clear hK K
    -- 2: build<31> 
    refine stepKz rfl (fun K hK => ?_); go_simp
    apply Exists.intro; apply And.intro; (focus (intro wk hk; go_simp; exact ⟨rfl, rfl⟩)); refine hK _ _ ?_; clear hK K
    -- 3: eql<31> t12, t13
    refine stepKz rfl (fun K hK => ?_); go_simp
    apply Exists.intro; apply And.intro; (focus (intro wk hk; go_simp; exact ⟨rfl, rfl⟩)); refine hK _ _ ?_; clear hK K
    -- 4: store<31> *t6 = t11
    refine stepS _ rfl (by kernel_rfl) (fun K hK => ?_); go_simp
    refine ⟨?_, ?_⟩
    · exact sStoreO rfl rfl rfl rfl rfl rfl rr id (by kernel_rfl) rfl (by kernel_rfl) (by decide) aggOf_congr
    rintro ⟨v4, lo4, hi4⟩ - - (rfl : v4 = undef)
    refine hK _ _ ?_; clear hK K
    -- 5: assign t14
    refine stepKz rfl (fun K hK => ?_); go_simp
    apply Exists.intro; apply And.intro; (focus (intro wk hk; go_simp; exact ⟨rfl, rfl⟩)); refine hK _ _ ?_; clear hK K
    refine stepN ?_
    refine hQ _ _ ?_
    intro w9 hT hG hF
    have hT' := hT.undrew
    have x2 : Row w9 (w.heap.size + 1 + 1) 31 (W4 0) := Row.congr (show Row w9 (w.heap.size + 1 + 1) 31 _ from hF 4 _ rfl rfl (by decide)) W4_zero
    have hl9 : Below w.heap.size w w9 := hl.trans (hT'.below_of hl.size (by intro c hc; omega))
    clear hT hT' hG hF hQ QQ L
    go_wp2_with fail
    refine bodyPost_ret (results_ct rfl aggT31 rfl x2 rfl) rfl ?_
    exact ⟨rfl, hl9⟩
  · have q0 : ∀ wx, (Op.equalIn 10000 31 (.agg (W4 f)) (.agg #[.int .u64 0, .int .u64 0, .int .u64 0, .int .u64 0])).run Try.prog wx = .ok false wx := fun wx => by rw [eqU0 hf, decide_eq_false h0]
    rw [show scB a t f = quoB (a * t) f from if_neg h0]
    clear h0
    go_enter Try.func198, Try.ntmps198
    apply wp_seq_eq
    focus
      intro J hJ
      go_wp2_with fail
      exact hJ
    refine wp_abs (Mem w [(w.heap.size, 31, W4 a), (w.heap.size + 1, 31, W4 f), (w.heap.size + 1 + 1, 31, arr .u64 (fun _ => 0) 4), (ga, 31, W4 a), (gt, 31, W4 t), (gf, 31, W4 f)]) ⟨by go_grown, ?_, ?_, ?_, ((ra.alloc _).alloc _).alloc _, ((rt.alloc _).alloc _).alloc _, ((rf.alloc _).alloc _).alloc _, trivial⟩ ?_
    · repeat (first | (refine Row.new_at ?_; simp; done) | refine Row.alloc ?_ _)
    · repeat (first | (refine Row.new_at ?_; simp; done) | refine Row.alloc ?_ _)
    · repeat (first | (refine Row.new_at ?_; simp; done) | refine Row.alloc ?_ _)
    clear ra rt rf
    intro w0 hM
    obtain ⟨hl, qa, qf, rr, ra, rt, rf, -⟩ := hM
    go_upto_region 1 with (fail)
    let L : List Sp := []
    refine wp_region_six0 (shs L) (look6 L) (None_) (by kernel_rfl) (by kernel_rfl) (mk_St L [] [] (by kernel_rfl) (by kernel_rfl) trivial (by simp)) ?_
    intro QQ hQ
    -- 0: load<31> *t4
    refine stepK rfl (by kernel_rfl) (fun K hK => ?_); go_simp
    apply Exists.intro; apply And.intro; (focus exact kLoad rfl rfl aggT31 qf rfl id); refine hK _ _ ?_; clear hK K
    -- 1: build<31> 
    refine stepK rfl (by kernel_rfl) (fun K hK => ?_); go_simp
    apply Exists.intro; apply And.intro; (focus (intro wk hk; go_simp; exact ⟨rfl, rfl⟩)); refine hK _ _ ?_; clear hK K
    -- 2: eql<31> t8, t9
    refine stepK rfl (by kernel_rfl) (fun K hK => ?_); go_simp
    apply Exists.intro; apply And.intro; (focus (intro wk hk; go_simp; exact ⟨rfl, rfl⟩)); refine hK _ _ ?_; clear hK K
    refine stepN ?_
    refine hQ _ _ ?_
    intro w1 hT hG hF
    have hbw1 := hT.below
    replace ra := ra.below hbw1 ra.lt
    replace rt := rt.below hbw1 rt.lt
    replace rf := rf.below hbw1 rf.lt
    replace rr := rr.below hbw1 rr.lt
    replace hl := hl.trans (hbw1.mono hl.size)
    clear hT hG hF hbw1 hQ QQ L 
    go_upto_region 3 with (fail)
    let L : List Sp := [sV 1 [] [] (fun u => u = .tuple #[.agg (W4 (quoN (a * t) f)), .bool (quoB (a * t) f)]), sO 4 (w.heap.size + 1 + 1) 31 [2] (fun g => aggOf g 2)]
    refine wp_region_six0 (shs L) (look6 L) (fun c => c = w.heap.size + 1 + 1) (by kernel_rfl) (by kernel_rfl) (mk_St L [4] [4] (by kernel_rfl) (by kernel_rfl) ⟨ok_V ⟨_, rfl⟩, ok_O aggOf_congr rr.lt (rfl), trivial⟩ (by simp)) ?_
    intro QQ hQ
    -- 0: t2
    refine stepK rfl (by kernel_rfl) (fun K hK => ?_); go_simp
    apply Exists.intro; apply And.intro; (focus (intro wk hk; go_simp; exact ⟨rfl, rfl⟩)); refine hK _ _ ?_; clear hK K
    -- 1: call t15()
    refine stepS _ rfl (by kernel_rfl) (fun K hK => ?_); go_simp
    refine ⟨?_, ?_⟩
    · intro wk hk hg hu; go_simp; refine upon_enter ((scaleDownC ha ht hf _ (ra.below hk.below ra.lt) (rt.below hk.below rt.lt) (rf.below hk.below rf.lt)).mono ?_); rintro e w' ⟨rfl, hb⟩; exact ⟨_, rfl, left_V (p := fun u => u = .tuple #[.agg (W4 (quoN (a * t) f)), .bool (quoB (a * t) f)]) rfl (hb) rfl⟩
    rintro ⟨v1, lo1, hi1⟩ - - (rfl : v1 = _)
    refine hK _ _ ?_; clear hK K
    -- 2: extract t16 #0
    refine stepK rfl (by kernel_rfl) (fun K hK => ?_); go_simp
    apply Exists.intro; apply And.intro; (focus (intro wk hk; go_simp; exact ⟨rfl, rfl⟩)); refine hK _ _ ?_; clear hK K
    -- 3: extract t16 #1
    refine stepK rfl (by kernel_rfl) (fun K hK => ?_); go_simp
    apply Exists.intro; apply And.intro; (focus (intro wk hk; go_simp; exact ⟨rfl, rfl⟩)); refine hK _ _ ?_; clear hK K
    -- 4: store<31> *t6 = t17
    refine stepS _ rfl (by kernel_rfl) (fun K hK => ?_); go_simp
    refine ⟨?_, ?_⟩
    · exact sStoreO rfl rfl rfl rfl rfl rfl rr id (by kernel_rfl) rfl (by kernel_rfl) (by decide) aggOf_congr
    rintro ⟨v4, lo4, hi4⟩ - - (rfl : v4 = undef)
    refine hK _ _ ?_; clear hK K
    -- 5: assign t18
    refine stepKz rfl (fun K hK => ?_); go_simp
    apply Exists.intro; apply And.intro; (focus (intro wk hk; go_simp; exact ⟨rfl, rfl⟩)); refine hK _ _ ?_; clear hK K
    refine stepN ?_
    refine hQ _ _ ?_
    intro w9 hT hG hF
    have hT' := hT
    have x2 : Row w9 (w.heap.size + 1 + 1) 31 (W4 (quoN (a * t) f)) := hF 4 _ rfl rfl (by decide)
    have hl9 : Below w.heap.size w w9 := hl.trans (hT'.below_of hl.size (by intro c hc; omega))
    clear hT hT' hG hF hQ QQ L
    go_wp2_with fail
    refine bodyPost_ret (results_ct rfl aggT31 rfl x2 rfl) rfl ?_
    exact ⟨rfl, hl9⟩
set_option maxRecDepth 100000 in
set_option maxHeartbeats 8000000 in
theorem scaledU {a t f ga gt gf : Nat} (ha : a < M) (ht : t < M) (hf : f < M) (w : World) (ra : Row w ga 31 (W4 a)) (rt : Row w gt 31 (W4 t)) (rf : Row w gf 31 (W4 f)) :
    Calls Try.prog 198 #[.agg (W4 a), .agg (W4 f), .func (.func 200) #[] #[.pointer (some ⟨ga, 0, none⟩), .pointer (some ⟨gt, 0, none⟩), .pointer (some ⟨gf, 0, none⟩)]] w (Ret w (.tuple #[.agg (W4 (upN (a * t) f)), .bool (scUB a t f)])) := by
  by_cases h0 : f = 0
  · have q0 : ∀ wx, (Op.equalIn 10000 31 (.agg (W4 f)) (.agg #[.int .u64 0, .int .u64 0, .int .u64 0, .int .u64 0])).run Try.prog wx = .ok true wx := fun wx => by rw [eqU0 hf, decide_eq_true h0]
    rw [show upN (a * t) f = 0 from upN_zero (a * t) h0, show scUB a t f = decide (a = 0) from if_pos h0]
    clear h0
    go_enter Try.func198, Try.ntmps198
    apply wp_seq_eq
    focus
      intro J hJ
      go_wp2_with fail
      exact hJ
    refine wp_abs (Mem w [(w.heap.size, 31, W4 a), (w.heap.size + 1, 31, W4 f), (w.heap.size + 1 + 1, 31, arr .u64 (fun _ => 0) 4), (ga, 31, W4 a), (gt, 31, W4 t), (gf, 31, W4 f)]) ⟨by go_grown, ?_, ?_, ?_, ((ra.alloc _).alloc _).alloc _, ((rt.alloc _).alloc _).alloc _, ((rf.alloc _).alloc _).alloc _, trivial⟩ ?_
    · repeat (first | (refine Row.new_at ?_; simp; done) | refine Row.alloc ?_ _)
    · repeat (first | (refine Row.new_at ?_; simp; done) | refine Row.alloc ?_ _)
    · repeat (first | (refine Row.new_at ?_; simp; done) | refine Row.alloc ?_ _)
    clear ra rt rf
    intro w0 hM
    obtain ⟨hl, qa, qf, rr, ra, rt, rf, -⟩ := hM
    go_upto_region 1 with (fail)
    let L : List Sp := []
    refine wp_region_six0 (shs L) (look6 L) (None_) (by kernel_rfl) (by kernel_rfl) (mk_St L [] [] (by kernel_rfl) (by kernel_rfl) trivial (by simp)) ?_
    intro QQ hQ
    -- 0: load<31> *t4
    refine stepK rfl (by kernel_rfl) (fun K hK => ?_); go_simp
    apply Exists.intro; apply And.intro; (focus exact kLoad rfl rfl aggT31 qf rfl id); refine hK _ _ ?_; clear hK K
    -- 1: build<31> 
    refine stepK rfl (by kernel_rfl) (fun K hK => ?_); go_simp
    apply Exists.intro; apply And.intro; (focus (intro wk hk; go_simp; exact ⟨rfl, rfl⟩)); refine hK _ _ ?_; clear hK K
    -- 2: eql<31> t8, t9
    refine stepK rfl (by kernel_rfl) (fun K hK => ?_); go_simp
    apply Exists.intro; apply And.intro; (focus (intro wk hk; go_simp; exact ⟨rfl, rfl⟩)); refine hK _ _ ?_; clear hK K
    refine stepN ?_
    refine hQ _ _ ?_
    intro w1 hT hG hF
    have hbw1 := hT.below
    replace qa := qa.below hbw1 qa.lt
    replace rr := rr.below hbw1 rr.lt
    replace hl := hl.trans (hbw1.mono hl.size)
    clear hT hG hF hbw1 hQ QQ L 
    have qa0 := fun wx => eqU0 ha wx
    go_upto_region 2 with (fail)
    let L : List Sp := [sO 4 (w.heap.size + 1 + 1) 31 [0] (fun g => aggOf g 0)]
    refine wp_region_six (shs L) (look6 L) (fun c => c = w.heap.size + 1 + 1) (by kernel_rfl) (by kernel_rfl) (mk_St L [4] [4] (by kernel_rfl) (by kernel_rfl) ⟨ok_O aggOf_congr rr.lt (rfl), trivial⟩ (by simp)) ?_
    intro QQ hQ
    -- 0: build<31> 
    refine stepK rfl (by kernel_rfl) (fun K hK => ?_); go_simp
    apply Exists.intro; apply And.intro; (focus (intro wk hk; go_simp; exact ⟨rfl, rfl⟩)); refine hK _ _ ?_; clear hK K
    -- 1: load<31> *t3
    refine stepKz rfl (fun K hK => ?_); go_simp
    apply Exists.intro; apply And.intro; (focus exact kLoad rfl rfl aggT31 qa rfl (by omega)); refine hK _ _ ?_; clear hK K
    -- 2: build<31> 
    refine stepKz rfl (fun K hK => ?_); go_simp
    apply Exists.intro; apply And.intro; (focus (intro wk hk; go_simp; exact ⟨rfl, rfl⟩)); refine hK _ _ ?_; clear hK K
    -- 3: eql<31> t12, t13
    refine stepKz rfl (fun K hK => ?_); go_simp
    apply Exists.intro; apply And.intro; (focus (intro wk hk; go_simp; exact ⟨rfl, rfl⟩)); refine hK _ _ ?_; clear hK K
    -- 4: store<31> *t6 = t11
    refine stepS _ rfl (by kernel_rfl) (fun K hK => ?_); go_simp
    refine ⟨?_, ?_⟩
    · exact sStoreO rfl rfl rfl rfl rfl rfl rr id (by kernel_rfl) rfl (by kernel_rfl) (by decide) aggOf_congr
    rintro ⟨v4, lo4, hi4⟩ - - (rfl : v4 = undef)
    refine hK _ _ ?_; clear hK K
    -- 5: assign t14
    refine stepKz rfl (fun K hK => ?_); go_simp
    apply Exists.intro; apply And.intro; (focus (intro wk hk; go_simp; exact ⟨rfl, rfl⟩)); refine hK _ _ ?_; clear hK K
    refine stepN ?_
    refine hQ _ _ ?_
    intro w9 hT hG hF
    have hT' := hT.undrew
    have x2 : Row w9 (w.heap.size + 1 + 1) 31 (W4 0) := Row.congr (show Row w9 (w.heap.size + 1 + 1) 31 _ from hF 4 _ rfl rfl (by decide)) W4_zero
    have hl9 : Below w.heap.size w w9 := hl.trans (hT'.below_of hl.size (by intro c hc; omega))
    clear hT hT' hG hF hQ QQ L
    go_wp2_with fail
    refine bodyPost_ret (results_ct rfl aggT31 rfl x2 rfl) rfl ?_
    exact ⟨rfl, hl9⟩
  · have q0 : ∀ wx, (Op.equalIn 10000 31 (.agg (W4 f)) (.agg #[.int .u64 0, .int .u64 0, .int .u64 0, .int .u64 0])).run Try.prog wx = .ok false wx := fun wx => by rw [eqU0 hf, decide_eq_false h0]
    rw [show scUB a t f = upB (a * t) f from if_neg h0]
    clear h0
    go_enter Try.func198, Try.ntmps198
    apply wp_seq_eq
    focus
      intro J hJ
      go_wp2_with fail
      exact hJ
    refine wp_abs (Mem w [(w.heap.size, 31, W4 a), (w.heap.size + 1, 31, W4 f), (w.heap.size + 1 + 1, 31, arr .u64 (fun _ => 0) 4), (ga, 31, W4 a), (gt, 31, W4 t), (gf, 31, W4 f)]) ⟨by go_grown, ?_, ?_, ?_, ((ra.alloc _).alloc _).alloc _, ((rt.alloc _).alloc _).alloc _, ((rf.alloc _).alloc _).alloc _, trivial⟩ ?_
    · repeat (first | (refine Row.new_at ?_; simp; done) | refine Row.alloc ?_ _)
    · repeat (first | (refine Row.new_at ?_; simp; done) | refine Row.alloc ?_ _)
    · repeat (first | (refine Row.new_at ?_; simp; done) | refine Row.alloc ?_ _)
    clear ra rt rf
    intro w0 hM
    obtain ⟨hl, qa, qf, rr, ra, rt, rf, -⟩ := hM
    go_upto_region 1 with (fail)
    let L : List Sp := []
    refine wp_region_six0 (shs L) (look6 L) (None_) (by kernel_rfl) (by kernel_rfl) (mk_St L [] [] (by kernel_rfl) (by kernel_rfl) trivial (by simp)) ?_
    intro QQ hQ
    -- 0: load<31> *t4
    refine stepK rfl (by kernel_rfl) (fun K hK => ?_); go_simp
    apply Exists.intro; apply And.intro; (focus exact kLoad rfl rfl aggT31 qf rfl id); refine hK _ _ ?_; clear hK K
    -- 1: build<31> 
    refine stepK rfl (by kernel_rfl) (fun K hK => ?_); go_simp
    apply Exists.intro; apply And.intro; (focus (intro wk hk; go_simp; exact ⟨rfl, rfl⟩)); refine hK _ _ ?_; clear hK K
    -- 2: eql<31> t8, t9
    refine stepK rfl (by kernel_rfl) (fun K hK => ?_); go_simp
    apply Exists.intro; apply And.intro; (focus (intro wk hk; go_simp; exact ⟨rfl, rfl⟩)); refine hK _ _ ?_; clear hK K
    refine stepN ?_
    refine hQ _ _ ?_
    intro w1 hT hG hF
    have hbw1 := hT.below
    replace ra := ra.below hbw1 ra.lt
    replace rt := rt.below hbw1 rt.lt
    replace rf := rf.below hbw1 rf.lt
    replace rr := rr.below hbw1 rr.lt
    replace hl := hl.trans (hbw1.mono hl.size)
    clear hT hG hF hbw1 hQ QQ L 
    go_upto_region 3 with (fail)
    let L : List Sp := [sV 1 [] [] (fun u => u = .tuple #[.agg (W4 (upN (a * t) f)), .bool (upB (a * t) f)]), sO 4 (w.heap.size + 1 + 1) 31 [2] (fun g => aggOf g 2)]
    refine wp_region_six0 (shs L) (look6 L) (fun c => c = w.heap.size + 1 + 1) (by kernel_rfl) (by kernel_rfl) (mk_St L [4] [4] (by kernel_rfl) (by kernel_rfl) ⟨ok_V ⟨_, rfl⟩, ok_O aggOf_congr rr.lt (rfl), trivial⟩ (by simp)) ?_
    intro QQ hQ
    -- 0: t2
    refine stepK rfl (by kernel_rfl) (fun K hK => ?_); go_simp
    apply Exists.intro; apply And.intro; (focus (intro wk hk; go_simp; exact ⟨rfl, rfl⟩)); refine hK _ _ ?_; clear hK K
    -- 1: call t15()
    refine stepS _ rfl (by kernel_rfl) (fun K hK => ?_); go_simp
    refine ⟨?_, ?_⟩
    · intro wk hk hg hu; go_simp; refine upon_enter ((scaleUpC ha ht hf _ (ra.below hk.below ra.lt) (rt.below hk.below rt.lt) (rf.below hk.below rf.lt)).mono ?_); rintro e w' ⟨rfl, hb⟩; exact ⟨_, rfl, left_V (p := fun u => u = .tuple #[.agg (W4 (upN (a * t) f)), .bool (upB (a * t) f)]) rfl (hb) rfl⟩
    rintro ⟨v1, lo1, hi1⟩ - - (rfl : v1 = _)
    refine hK _ _ ?_; clear hK K
    -- 2: extract t16 #0
    refine stepK rfl (by kernel_rfl) (fun K hK => ?_); go_simp
    apply Exists.intro; apply And.intro; (focus (intro wk hk; go_simp; exact ⟨rfl, rfl⟩)); refine hK _ _ ?_; clear hK K
    -- 3: extract t16 #1
    refine stepK rfl (by kernel_rfl) (fun K hK => ?_); go_simp
    apply Exists.intro; apply And.intro; (focus (intro wk hk; go_simp; exact ⟨rfl, rfl⟩)); refine hK _ _ ?_; clear hK K
    -- 4: store<31> *t6 = t17
    refine stepS _ rfl (by kernel_rfl) (fun K hK => ?_); go_simp
    refine ⟨?_, ?_⟩
    · exact sStoreO rfl rfl rfl rfl rfl rfl rr id (by kernel_rfl) rfl (by kernel_rfl) (by decide) aggOf_congr
    rintro ⟨v4, lo4, hi4⟩ - - (rfl : v4 = undef)
    refine hK _ _ ?_; clear hK K
    -- 5: assign t18
    refine stepKz rfl (fun K hK => ?_); go_simp
    apply Exists.intro; apply And.intro; (focus (intro wk hk; go_simp; exact ⟨rfl, rfl⟩)); refine hK _ _ ?_; clear hK K
    refine stepN ?_
    refine hQ _ _ ?_
    intro w9 hT hG hF
    have hT' := hT
    have x2 : Row w9 (w.heap.size + 1 + 1) 31 (W4 (upN (a * t) f)) := hF 4 _ rfl rfl (by decide)
    have hl9 : Below w.heap.size w w9 := hl.trans (hT'.below_of hl.size (by intro c hc; omega))
    clear hT hT' hG hF hQ QQ L
    go_wp2_with fail
    refine bodyPost_ret (results_ct rfl aggT31 rfl x2 rfl) rfl ?_
    exact ⟨rfl, hl9⟩
set_option maxRecDepth 100000 in
set_option maxHeartbeats 8000000 in
theorem scaleU {a t f : Nat} (ha : a < M) (ht : t < M) (hf : f < M) (w : World) : Calls Try.prog 110 #[.agg (W4 a), .agg (W4 t), .agg (W4 f)] w (Ret w (.tuple #[.agg (W4 (quoN (a * t) f)), .bool (scB a t f)])) := by
  go_enter Try.func110, Try.ntmps110
  apply wp_seq_eq
  focus
    intro J hJ
    go_wp2_with fail
    exact hJ
  refine wp_abs (Mem w [(w.heap.size, 31, W4 a), (w.heap.size + 1, 31, W4 t), (w.heap.size + 1 + 1, 31, W4 f), (w.heap.size + 1 + 1 + 1, 31, arr .u64 (fun _ => 0) 4)]) ⟨by go_grown, ?_, ?_, ?_, ?_, trivial⟩ ?_
  · repeat (first | (refine Row.new_at ?_; simp; done) | refine Row.alloc ?_ _)
  · repeat (first | (refine Row.new_at ?_; simp; done) | refine Row.alloc ?_ _)
  · repeat (first | (refine Row.new_at ?_; simp; done) | refine Row.alloc ?_ _)
  · repeat (first | (refine Row.new_at ?_; simp; done) | refine Row.alloc ?_ _)
  intro w0 hM
  obtain ⟨hl, ra, rt, rf, rr, -⟩ := hM
  go_upto_region 1 with (fail)
  let L : List Sp := [sV 3 [] [] (fun u => u = .tuple #[.agg (W4 (quoN (a * t) f)), .bool (scB a t f)]), sO 6 (w.heap.size + 1 + 1 + 1) 31 [4] (fun g => aggOf g 4)]
  refine wp_region_six0 (shs L) (look6 L) (fun c => c = w.heap.size + 1 + 1 + 1) (by kernel_rfl) (by kernel_rfl) (mk_St L [6] [6] (by kernel_rfl) (by kernel_rfl) ⟨ok_V ⟨_, rfl⟩, ok_O aggOf_congr rr.lt (rfl), trivial⟩ (by simp)) ?_
  intro QQ hQ
  -- 0: load<31> *t3
  refine stepK rfl (by kernel_rfl) (fun K hK => ?_); go_simp
  apply Exists.intro; apply And.intro; (focus exact kLoad rfl rfl aggT31 ra rfl id); refine hK _ _ ?_; clear hK K
  -- 1: load<31> *t5
  refine stepK rfl (by kernel_rfl) (fun K hK => ?_); go_simp
  apply Exists.intro; apply And.intro; (focus exact kLoad rfl rfl aggT31 rf rfl id); refine hK _ _ ?_; clear hK K
  -- 2: makeFunc (Fn.func 199) [] [t3, t4, t5]
  refine stepK rfl (by kernel_rfl) (fun K hK => ?_); go_simp
  apply Exists.intro; apply And.intro; (focus (intro wk hk; go_simp; exact ⟨rfl, rfl⟩)); refine hK _ _ ?_; clear hK K
  -- 3: call F198(t8, t9, t10)
  refine stepS _ rfl (by kernel_rfl) (fun K hK => ?_); go_simp
  refine ⟨?_, ?_⟩
  · intro wk hk hg hu; go_simp; refine upon_enter ((scaledD ha ht hf _ (ra.below hk.below ra.lt) (rt.below hk.below rt.lt) (rf.below hk.below rf.lt)).mono ?_); rintro e w' ⟨rfl, hb⟩; exact ⟨_, rfl, left_V (p := fun u => u = .tuple #[.agg (W4 (quoN (a * t) f)), .bool (scB a t f)]) rfl (hb) rfl⟩
  rintro ⟨v3, lo3, hi3⟩ - - (rfl : v3 = _)
  refine hK _ _ ?_; clear hK K
  -- 4: extract t11 #0
  refine stepK rfl (by kernel_rfl) (fun K hK => ?_); go_simp
  apply Exists.intro; apply And.intro; (focus (intro wk hk; go_simp; exact ⟨rfl, rfl⟩)); refine hK _ _ ?_; clear hK K
  -- 5: extract t11 #1
  refine stepK rfl (by kernel_rfl) (fun K hK => ?_); go_simp
  apply Exists.intro; apply And.intro; (focus (intro wk hk; go_simp; exact ⟨rfl, rfl⟩)); refine hK _ _ ?_; clear hK K
  -- 6: store<31> *t6 = t12
  refine stepS _ rfl (by kernel_rfl) (fun K hK => ?_); go_simp
  refine ⟨?_, ?_⟩
  · exact sStoreO rfl rfl rfl rfl rfl rfl rr id (by kernel_rfl) rfl (by kernel_rfl) (by decide) aggOf_congr
  rintro ⟨v6, lo6, hi6⟩ - - (rfl : v6 = undef)
  refine hK _ _ ?_; clear hK K
  -- 7: assign t13
  refine stepKz rfl (fun K hK => ?_); go_simp
  apply Exists.intro; apply And.intro; (focus (intro wk hk; go_simp; exact ⟨rfl, rfl⟩)); refine hK _ _ ?_; clear hK K
  refine stepN ?_
  refine hQ _ _ ?_
  intro w9 hT hG hF
  have hT' := hT
  have x2 : Row w9 (w.heap.size + 1 + 1 + 1) 31 (W4 (quoN (a * t) f)) := hF 6 _ rfl rfl (by decide)
  have hl9 : Below w.heap.size w w9 := hl.trans (hT'.below_of hl.size (by intro c hc; omega))
  clear hT hT' hG hF hQ QQ L
  go_wp2_with fail
  refine bodyPost_ret (results_ct rfl aggT31 rfl x2 rfl) rfl ?_
  exact ⟨rfl, hl9⟩
set_option maxRecDepth 100000 in
set_option maxHeartbeats 8000000 in
theorem scaleUpU {a t f : Nat} (ha : a < M) (ht : t < M) (hf : f < M) (w : World) : Calls Try.prog 111 #[.agg (W4 a), .agg (W4 t), .agg (W4 f)] w (Ret w (.tuple #[.agg (W4 (upN (a * t) f)), .bool (scUB a t f)])) := by
  go_enter Try.func111, Try.ntmps111
  apply wp_seq_eq
  focus
    intro J hJ
    go_wp2_with fail
    exact hJ
  refine wp_abs (Mem w [(w.heap.size, 31, W4 a), (w.heap.size + 1, 31, W4 t), (w.heap.size + 1 + 1, 31, W4 f), (w.heap.size + 1 + 1 + 1, 31, arr .u64 (fun _ => 0) 4)]) ⟨by go_grown, ?_, ?_, ?_, ?_, trivial⟩ ?_
  · repeat (first | (refine Row.new_at ?_; simp; done) | refine Row.alloc ?_ _)
  · repeat (first | (refine Row.new_at ?_; simp; done) | refine Row.alloc ?_ _)
  · repeat (first | (refine Row.new_at ?_; simp; done) | refine Row.alloc ?_ _)
  · repeat (first | (refine Row.new_at ?_; simp; done) | refine Row.alloc ?_ _)
  intro w0 hM
  obtain ⟨hl, ra, rt, rf, rr, -⟩ := hM
  go_upto_region 1 with (fail)
  let L : List Sp := [sV 3 [] [] (fun u => u = .tuple #[.agg (W4 (upN (a * t) f)), .bool (scUB a t f)]), sO 6 (w.heap.size + 1 + 1 + 1) 31 [4] (fun g => aggOf g 4)]
  refine wp_region_six0 (shs L) (look6 L) (fun c => c = w.heap.size + 1 + 1 + 1) (by kernel_rfl) (by kernel_rfl) (mk_St L [6] [6] (by kernel_rfl) (by kernel_rfl) ⟨ok_V ⟨_, rfl⟩, ok_O aggOf_congr rr.lt (rfl), trivial⟩ (by simp)) ?_
  intro QQ hQ
  -- 0: load<31> *t3
  refine stepK rfl (by kernel_rfl) (fun K hK => ?_); go_simp
  apply Exists.intro; apply And.intro; (focus exact kLoad rfl rfl aggT31 ra rfl id); refine hK _ _ ?_; clear hK K
  -- 1: load<31> *t5
  refine stepK rfl (by kernel_rfl) (fun K hK => ?_); go_simp
  apply Exists.intro; apply And.intro; (focus exact kLoad rfl rfl aggT31 rf rfl id); refine hK _ _ ?_; clear hK K
  -- 2: makeFunc (Fn.func 200) [] [t3, t4, t5]
  refine stepK rfl (by kernel_rfl) (fun K hK => ?_); go_simp
  apply Exists.intro; apply And.intro; (focus (intro wk hk; go_simp; exact ⟨rfl, rfl⟩)); refine hK _ _ ?_; clear hK K
  -- 3: call F198(t8, t9, t10)
  refine stepS _ rfl (by kernel_rfl) (fun K hK => ?_); go_simp
  refine ⟨?_, ?_⟩
  · intro wk hk hg hu; go_simp; refine upon_enter ((scaledU ha ht hf _ (ra.below hk.below ra.lt) (rt.below hk.below rt.lt) (rf.below hk.below rf.lt)).mono ?_); rintro e w' ⟨rfl, hb⟩; exact ⟨_, rfl, left_V (p := fun u => u = .tuple #[.agg (W4 (upN (a * t) f)), .bool (scUB a t f)]) rfl (hb) rfl⟩
  rintro ⟨v3, lo3, hi3⟩ - - (rfl : v3 = _)
  refine hK _ _ ?_; clear hK K
  -- 4: extract t11 #0
  refine stepK rfl (by kernel_rfl) (fun K hK => ?_); go_simp
  apply Exists.intro; apply And.intro; (focus (intro wk hk; go_simp; exact ⟨rfl, rfl⟩)); refine hK _ _ ?_; clear hK K
  -- 5: extract t11 #1
  refine stepK rfl (by kernel_rfl) (fun K hK => ?_); go_simp
  apply Exists.intro; apply And.intro; (focus (intro wk hk; go_simp; exact ⟨rfl, rfl⟩)); refine hK _ _ ?_; clear hK K
  -- 6: store<31> *t6 = t12
  refine stepS _ rfl (by kernel_rfl) (fun K hK => ?_); go_simp
  refine ⟨?_, ?_⟩
  · exact sStoreO rfl rfl rfl rfl rfl rfl rr id (by kernel_rfl) rfl (by kernel_rfl) (by decide) aggOf_congr
  rintro ⟨v6, lo6, hi6⟩ - - (rfl : v6 = undef)
  refine hK _ _ ?_; clear hK K
  -- 7: assign t13
  refine stepKz rfl (fun K hK => ?_); go_simp
  apply Exists.intro; apply And.intro; (focus (intro wk hk; go_simp; exact ⟨rfl, rfl⟩)); refine hK _ _ ?_; clear hK K
  refine stepN ?_
  refine hQ _ _ ?_
  intro w9 hT hG hF
  have hT' := hT
  have x2 : Row w9 (w.heap.size + 1 + 1 + 1) 31 (W4 (upN (a * t) f)) := hF 6 _ rfl rfl (by decide)
  have hl9 : Below w.heap.size w w9 := hl.trans (hT'.below_of hl.size (by intro c hc; omega))
  clear hT hT' hG hF hQ QQ L
  go_wp2_with fail
  refine bodyPost_ret (results_ct rfl aggT31 rfl x2 rfl) rfl ?_
  exact ⟨rfl, hl9⟩
end Go.Proofs.Ytpdenhmkpiafiaa
