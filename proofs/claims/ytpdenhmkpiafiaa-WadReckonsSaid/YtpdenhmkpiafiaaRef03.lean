/-
  The document's answer for package wad: One, Most, Amount, Good, Part, PartUp, Ratio, Scale, ScaleUp.
-/
import Derived.Test.YtpdenhmkpiafiaaRefDown
import Derived.Test.YtpdenhmkpiafiaaWadLaws
namespace Go.Proofs.Ytpdenhmkpiafiaa
open Go Go.RowKit K6

namespace K6
theorem kField {P : Program} {o : Oper} {a : Act} {w1 : World} {X : Nat → Prop} {t : TypeId} {x : Operand} {i : Nat} {u z : Value} (ho : o.op = .field t x i) (hx : a.eval x = u) (h : ∀ w, (Instr.field t u i).run P w = .ok z w) : kOut P w1 X o a z := by
  intro w hw
  unfold execOp
  simp only [ho, hx, Sem.run_bind, Sem.run_pure, Result.andThen_ok, h w]
  exact ⟨rfl, rfl⟩
end K6
theorem field92_1 (h l : Nat) (w : World) : (Instr.field 92 (.agg (W8 h l)) 1).run Try.prog w = .ok (.agg (W4 l)) w := by kernel_rfl
def E36 : Nat := 1000000000000000000000000000000000000
theorem E36_lt : E36 < M := by unfold E36 M; omega
theorem sq_h : E18 * E18 / M = 0 := by decide
theorem sq_l : E18 * E18 % M = E36 := by decide
set_option maxRecDepth 100000 in
set_option maxHeartbeats 16000000 in
theorem sqU (w : World) : Calls Try.prog 127 #[] w (Ret w (.agg (W4 E36))) := by
  have k0 := Lib.hid (show ∀ wx, Calls Try.prog 107 #[] wx (Ret wx (.agg (W4 E18))) from fun wx => by have h := oneU  wx; exact h)
  have k1 := Lib.hid (show ∀ wx, Calls Try.prog 89 #[.agg (W4 E18), .agg (W4 E18)] wx (Ret wx (.agg (W8 0 E36))) from fun wx => by have h := mmulU E18_lt E18_lt wx; rw [sq_h, sq_l] at h; exact h)
  go_enter Try.func127, Try.ntmps127
  apply wp_seq_eq
  focus
    intro J hJ
    go_wp2_with fail
    exact hJ
  refine wp_abs (Mem w [(w.heap.size, 31, arr .u64 (fun _ => 0) 4)]) ⟨by go_grown, ?_, trivial⟩ ?_
  · repeat (first | (refine Row.new_at ?_; simp; done) | refine Row.alloc ?_ _)
  intro w0 hM
  obtain ⟨hl, r0, -⟩ := hM
  go_upto_region 1 with (fail)
  let L : List Sp := [sV 0 [] [] (fun u => u = .agg (W4 E18)), sV 1 [] [] (fun u => u = .agg (W4 E18)), sV 2 [] [] (fun u => u = .agg (W8 0 E36)), sO 4 (w.heap.size) 31 [3] (fun g => aggOf g 3)]
  refine wp_region_six0 (shs L) (look6 L) (fun c => c = w.heap.size) (by kernel_rfl) (by kernel_rfl) (mk_St L [4] [4] (by kernel_rfl) (by kernel_rfl) ⟨ok_V ⟨_, rfl⟩, ok_V ⟨_, rfl⟩, ok_V ⟨_, rfl⟩, ok_O aggOf_congr r0.lt (rfl), trivial⟩ (by simp)) ?_
  intro QQ hQ
  -- 0: call F107()
  refine stepS _ rfl (by kernel_rfl) (fun K hK => ?_); go_simp
  refine ⟨?_, ?_⟩
  · intro wk hk hg hu; go_simp; refine upon_enter ((k0.out _).mono ?_); rintro e w' ⟨rfl, hb⟩; exact ⟨_, rfl, left_V (p := fun u => u = .agg (W4 E18)) rfl (hb) rfl⟩
  rintro ⟨v0, lo0, hi0⟩ - - (rfl : v0 = _)
  refine hK _ _ ?_; clear hK K
  -- 1: call F107()
  refine stepS _ rfl (by kernel_rfl) (fun K hK => ?_); go_simp
  refine ⟨?_, ?_⟩
  · intro wk hk hg hu; go_simp; refine upon_enter ((k0.out _).mono ?_); rintro e w' ⟨rfl, hb⟩; exact ⟨_, rfl, left_V (p := fun u => u = .agg (W4 E18)) rfl (hb) rfl⟩
  rintro ⟨v1, lo1, hi1⟩ - - (rfl : v1 = _)
  refine hK _ _ ?_; clear hK K
  -- 2: call F89(t1, t2)
  refine stepS _ rfl (by kernel_rfl) (fun K hK => ?_); go_simp
  refine ⟨?_, ?_⟩
  · intro wk hk hg hu; go_simp; refine upon_enter ((k1.out _).mono ?_); rintro e w' ⟨rfl, hb⟩; exact ⟨_, rfl, left_V (p := fun u => u = .agg (W8 0 E36)) rfl (hb) rfl⟩
  rintro ⟨v2, lo2, hi2⟩ - - (rfl : v2 = _)
  refine hK _ _ ?_; clear hK K
  -- 3: field<92> t3.1
  refine stepK rfl (by kernel_rfl) (fun K hK => ?_); go_simp
  apply Exists.intro; apply And.intro; (focus exact kField rfl rfl (fun wx => field92_1 0 E36 wx)); refine hK _ _ ?_; clear hK K
  -- 4: store<31> *t0 = t4
  refine stepS _ rfl (by kernel_rfl) (fun K hK => ?_); go_simp
  refine ⟨?_, ?_⟩
  · exact sStoreO rfl rfl rfl rfl rfl rfl r0 id (by kernel_rfl) rfl (by kernel_rfl) (by decide) aggOf_congr
  rintro ⟨v4, lo4, hi4⟩ - - (rfl : v4 = undef)
  refine hK _ _ ?_; clear hK K
  refine stepN ?_
  refine hQ _ _ ?_
  intro w1 hT hG hF
  have hT' := hT
  have xr0 : Row w1 (w.heap.size) 31 ((W4 E36)) := hF 4 _ rfl rfl (by decide)
  have hl9 : Below w.heap.size w w1 := hl.trans (hT'.below_of hl.size (by intro c hc; omega))
  clear hT hT' hG hF hQ QQ L hl r0
  have hl := hl9; clear hl9
  have r0 := xr0; clear xr0
  go_wp2_with fail
  refine bodyPost_ret (results_c rfl aggT31 rfl r0 rfl) rfl ?_
  exact ⟨rfl, hl⟩
def M3 : Nat := 340282366920938463463374607431768211455
theorem M3_lt : M3 < M := by unfold M3 M; omega
theorem W4_E18 : #[Value.int .u64 1000000000000000000, .int .u64 0, .int .u64 0, .int .u64 0] = W4 E18 := W4_word 1000000000000000000 (by omega)
theorem W4_M3 : #[Value.int .u64 18446744073709551615, .int .u64 18446744073709551615, .int .u64 0, .int .u64 0] = W4 M3 := by
  unfold W4
  rw [show wordsOf M3 0 = 18446744073709551615 by decide, show wordsOf M3 1 = 18446744073709551615 by decide, show wordsOf M3 2 = 0 by decide, show wordsOf M3 3 = 0 by decide]
theorem amt_M3 (a : Nat) : decide (a < M2) = decide (cmpN a M3 ≤ 0) := by
  congr 1
  refine propext ⟨fun h => cmpN_le (by unfold M2 at h; unfold M3; omega), fun h => ?_⟩
  refine Nat.lt_of_not_le fun h1 => ?_
  have := cmpN_gt (a := a) (b := M3) (by unfold M2 at h1; unfold M3; omega)
  omega
theorem good_E18 (a : Nat) : decide (a ≤ E18) = decide (cmpN a E18 ≤ 0) := by
  congr 1
  refine propext ⟨fun h => cmpN_le h, fun h => ?_⟩
  refine Nat.le_of_not_lt fun h1 => ?_
  have := cmpN_gt (a := a) (b := E18) h1
  omega
set_option maxRecDepth 100000 in
set_option maxHeartbeats 16000000 in
theorem refOneU (w : World) : Calls Try.prog 152 #[] w (Ret w (.agg (W4 E18))) := by
  go_enter Try.func152, Try.ntmps152
  apply wp_seq_eq
  focus
    intro J hJ
    go_wp2_with fail
    exact hJ
  refine wp_abs (Mem w [(w.heap.size, 31, arr .u64 (fun _ => 0) 4)]) ⟨by go_grown, ?_, trivial⟩ ?_
  · repeat (first | (refine Row.new_at ?_; simp; done) | refine Row.alloc ?_ _)
  intro w0 hM
  obtain ⟨hl, r0, -⟩ := hM
  go_upto_region 1 with (fail)
  let L : List Sp := [sO 1 (w.heap.size) 31 [0] (fun g => aggOf g 0)]
  refine wp_region_six0 (shs L) (look6 L) (fun c => c = w.heap.size) (by kernel_rfl) (by kernel_rfl) (mk_St L [1] [1] (by kernel_rfl) (by kernel_rfl) ⟨ok_O aggOf_congr r0.lt (rfl), trivial⟩ (by simp)) ?_
  intro QQ hQ
  -- 0: build<31> 0:1000000000000000000u
  refine stepK rfl (by kernel_rfl) (fun K hK => ?_); go_simp
  apply Exists.intro; apply And.intro; (focus (intro wk hk; go_simp; exact ⟨rfl, rfl⟩)); refine hK _ _ ?_; clear hK K
  -- 1: store<31> *t0 = t1
  refine stepS _ rfl (by kernel_rfl) (fun K hK => ?_); go_simp
  refine ⟨?_, ?_⟩
  · exact sStoreO rfl rfl rfl rfl rfl rfl r0 id (by kernel_rfl) rfl (by kernel_rfl) (by decide) aggOf_congr
  rintro ⟨v1, lo1, hi1⟩ - - (rfl : v1 = undef)
  refine hK _ _ ?_; clear hK K
  refine stepN ?_
  refine hQ _ _ ?_
  intro w1 hT hG hF
  have hT' := hT
  have xr0 : Row w1 (w.heap.size) 31 (#[.int .u64 1000000000000000000, .int .u64 0, .int .u64 0, .int .u64 0]) := hF 1 _ rfl rfl (by decide)
  have hl9 : Below w.heap.size w w1 := hl.trans (hT'.below_of hl.size (by intro c hc; omega))
  clear hT hT' hG hF hQ QQ L hl r0
  have hl := hl9; clear hl9
  have r0 := xr0; clear xr0
  replace r0 := Row.congr r0 W4_E18
  go_wp2_with fail
  refine bodyPost_ret (results_c rfl aggT31 rfl r0 rfl) rfl ?_
  exact ⟨rfl, hl⟩
set_option maxRecDepth 100000 in
set_option maxHeartbeats 16000000 in
theorem refMostU (w : World) : Calls Try.prog 130 #[] w (Ret w (.agg (W4 M3))) := by
  go_enter Try.func130, Try.ntmps130
  apply wp_seq_eq
  focus
    intro J hJ
    go_wp2_with fail
    exact hJ
  refine wp_abs (Mem w [(w.heap.size, 31, arr .u64 (fun _ => 0) 4)]) ⟨by go_grown, ?_, trivial⟩ ?_
  · repeat (first | (refine Row.new_at ?_; simp; done) | refine Row.alloc ?_ _)
  intro w0 hM
  obtain ⟨hl, r0, -⟩ := hM
  go_upto_region 1 with (fail)
  let L : List Sp := [sO 1 (w.heap.size) 31 [0] (fun g => aggOf g 0)]
  refine wp_region_six0 (shs L) (look6 L) (fun c => c = w.heap.size) (by kernel_rfl) (by kernel_rfl) (mk_St L [1] [1] (by kernel_rfl) (by kernel_rfl) ⟨ok_O aggOf_congr r0.lt (rfl), trivial⟩ (by simp)) ?_
  intro QQ hQ
  -- 0: build<31> 0:18446744073709551615u, 1:18446744073709551615u
  refine stepK rfl (by kernel_rfl) (fun K hK => ?_); go_simp
  apply Exists.intro; apply And.intro; (focus (intro wk hk; go_simp; exact ⟨rfl, rfl⟩)); refine hK _ _ ?_; clear hK K
  -- 1: store<31> *t0 = t1
  refine stepS _ rfl (by kernel_rfl) (fun K hK => ?_); go_simp
  refine ⟨?_, ?_⟩
  · exact sStoreO rfl rfl rfl rfl rfl rfl r0 id (by kernel_rfl) rfl (by kernel_rfl) (by decide) aggOf_congr
  rintro ⟨v1, lo1, hi1⟩ - - (rfl : v1 = undef)
  refine hK _ _ ?_; clear hK K
  refine stepN ?_
  refine hQ _ _ ?_
  intro w1 hT hG hF
  have hT' := hT
  have xr0 : Row w1 (w.heap.size) 31 (#[.int .u64 18446744073709551615, .int .u64 18446744073709551615, .int .u64 0, .int .u64 0]) := hF 1 _ rfl rfl (by decide)
  have hl9 : Below w.heap.size w w1 := hl.trans (hT'.below_of hl.size (by intro c hc; omega))
  clear hT hT' hG hF hQ QQ L hl r0
  have hl := hl9; clear hl9
  have r0 := xr0; clear xr0
  replace r0 := Row.congr r0 W4_M3
  go_wp2_with fail
  refine bodyPost_ret (results_c rfl aggT31 rfl r0 rfl) rfl ?_
  exact ⟨rfl, hl⟩
set_option maxRecDepth 100000 in
set_option maxHeartbeats 16000000 in
theorem mostU (w : World) : Calls Try.prog 129 #[] w (Ret w (.agg (W4 M3))) := by
  go_enter Try.func129, Try.ntmps129
  apply wp_seq_eq
  focus
    intro J hJ
    go_wp2_with fail
    exact hJ
  refine wp_abs (Mem w [(w.heap.size, 31, arr .u64 (fun _ => 0) 4)]) ⟨by go_grown, ?_, trivial⟩ ?_
  · repeat (first | (refine Row.new_at ?_; simp; done) | refine Row.alloc ?_ _)
  intro w0 hM
  obtain ⟨hl, r0, -⟩ := hM
  go_upto_region 1 with (fail)
  let L : List Sp := [sO 1 (w.heap.size) 31 [0] (fun g => aggOf g 0)]
  refine wp_region_six0 (shs L) (look6 L) (fun c => c = w.heap.size) (by kernel_rfl) (by kernel_rfl) (mk_St L [1] [1] (by kernel_rfl) (by kernel_rfl) ⟨ok_O aggOf_congr r0.lt (rfl), trivial⟩ (by simp)) ?_
  intro QQ hQ
  -- 0: build<31> 0:18446744073709551615u, 1:18446744073709551615u
  refine stepK rfl (by kernel_rfl) (fun K hK => ?_); go_simp
  apply Exists.intro; apply And.intro; (focus (intro wk hk; go_simp; exact ⟨rfl, rfl⟩)); refine hK _ _ ?_; clear hK K
  -- 1: store<31> *t0 = t1
  refine stepS _ rfl (by kernel_rfl) (fun K hK => ?_); go_simp
  refine ⟨?_, ?_⟩
  · exact sStoreO rfl rfl rfl rfl rfl rfl r0 id (by kernel_rfl) rfl (by kernel_rfl) (by decide) aggOf_congr
  rintro ⟨v1, lo1, hi1⟩ - - (rfl : v1 = undef)
  refine hK _ _ ?_; clear hK K
  refine stepN ?_
  refine hQ _ _ ?_
  intro w1 hT hG hF
  have hT' := hT
  have xr0 : Row w1 (w.heap.size) 31 (#[.int .u64 18446744073709551615, .int .u64 18446744073709551615, .int .u64 0, .int .u64 0]) := hF 1 _ rfl rfl (by decide)
  have hl9 : Below w.heap.size w w1 := hl.trans (hT'.below_of hl.size (by intro c hc; omega))
  clear hT hT' hG hF hQ QQ L hl r0
  have hl := hl9; clear hl9
  have r0 := xr0; clear xr0
  replace r0 := Row.congr r0 W4_M3
  go_wp2_with fail
  refine bodyPost_ret (results_c rfl aggT31 rfl r0 rfl) rfl ?_
  exact ⟨rfl, hl⟩
set_option maxRecDepth 100000 in
set_option maxHeartbeats 16000000 in
theorem refAmountU {a : Nat} (ha : a < M) (w : World) : Calls Try.prog 126 #[.agg (W4 a)] w (Ret w (.bool (decide (a < M2)))) := by
  have hh0 := amt_M3 a
  obtain ⟨c, hc⟩ : ∃ c, c = cmpN a M3 := ⟨_, rfl⟩
  rw [← hc] at hh0
  have hh := Lib.hid hh0
  clear hh0
  have k0 := Lib.hid (show ∀ wx, Calls Try.prog 130 #[] wx (Ret wx (.agg (W4 M3))) from fun wx => by have h := refMostU  wx; exact h)
  have k1 := Lib.hid (show ∀ wx, Calls Try.prog 57 #[.agg (W4 a), .agg (W4 M3)] wx (Ret wx (.int .i64 c)) from fun wx => by have h := refcmpU ha M3_lt wx; rw [← hc] at h; exact h)
  clear hc
  go_enter Try.func126, Try.ntmps126
  apply wp_seq_eq
  focus
    intro J hJ
    go_wp2_with fail
    exact hJ
  refine wp_abs (Mem w [(w.heap.size, 31, W4 a)]) ⟨by go_grown, ?_, trivial⟩ ?_
  · repeat (first | (refine Row.new_at ?_; simp; done) | refine Row.alloc ?_ _)
  intro w0 hM
  obtain ⟨hl, r0, -⟩ := hM
  go_upto_region 1 with (fail)
  let L : List Sp := [sV 1 [] [] (fun u => u = .agg (W4 M3)), sV 2 [] [] (fun u => u = .int .i64 c)]
  refine wp_region_six (shs L) (look6 L) (None_) (by kernel_rfl) (by kernel_rfl) (mk_St L [] [] (by kernel_rfl) (by kernel_rfl) ⟨ok_V ⟨_, rfl⟩, ok_V ⟨_, rfl⟩, trivial⟩ (by simp)) ?_
  intro QQ hQ
  -- 0: load<31> *t1
  refine stepK rfl (by kernel_rfl) (fun K hK => ?_); go_simp
  apply Exists.intro; apply And.intro; (focus exact kLoad rfl rfl aggT31 r0 rfl id); refine hK _ _ ?_; clear hK K
  -- 1: call F130()
  refine stepS _ rfl (by kernel_rfl) (fun K hK => ?_); go_simp
  refine ⟨?_, ?_⟩
  · intro wk hk hg hu; go_simp; refine upon_enter ((k0.out _).mono ?_); rintro e w' ⟨rfl, hb⟩; exact ⟨_, rfl, left_V (p := fun u => u = .agg (W4 M3)) rfl (hb) rfl⟩
  rintro ⟨v1, lo1, hi1⟩ - - (rfl : v1 = _)
  refine hK _ _ ?_; clear hK K
  -- 2: call F57(t3, t4)
  refine stepS _ rfl (by kernel_rfl) (fun K hK => ?_); go_simp
  refine ⟨?_, ?_⟩
  · intro wk hk hg hu; go_simp; refine upon_enter ((k1.out _).mono ?_); rintro e w' ⟨rfl, hb⟩; exact ⟨_, rfl, left_V (p := fun u => u = .int .i64 c) rfl (hb) rfl⟩
  rintro ⟨v2, lo2, hi2⟩ - - (rfl : v2 = _)
  refine hK _ _ ?_; clear hK K
  -- 3: leq<3> t5, 0
  refine stepK rfl (by kernel_rfl) (fun K hK => ?_); go_simp
  apply Exists.intro; apply And.intro; (focus (intro wk hk; go_simp; exact ⟨rfl, rfl⟩)); refine hK _ _ ?_; clear hK K
  -- 4: assign t6
  refine stepK rfl (by kernel_rfl) (fun K hK => ?_); go_simp
  apply Exists.intro; apply And.intro; (focus (intro wk hk; go_simp; exact ⟨rfl, rfl⟩)); refine hK _ _ ?_; clear hK K
  refine stepN ?_
  refine hQ _ _ ?_
  intro w1 hT hG hF
  have hbw1 := hT.undrew.below
  replace r0 := r0.below hbw1 r0.lt
  replace hl := hl.trans (hbw1.mono hl.size)
  clear hT hG hF hbw1 hQ QQ L 
  go_wp2_with fail
  go_ret
  exact ⟨by rw [hh.out] <;> rfl, hl⟩
set_option maxRecDepth 100000 in
set_option maxHeartbeats 16000000 in
theorem refGood3U {a : Nat} (ha : a < M) (w : World) : Calls Try.prog 125 #[.agg (W4 a)] w (Ret w (.bool (decide (a ≤ E18)))) := by
  have hh0 := good_E18 a
  obtain ⟨c, hc⟩ : ∃ c, c = cmpN a E18 := ⟨_, rfl⟩
  rw [← hc] at hh0
  have hh := Lib.hid hh0
  clear hh0
  have k0 := Lib.hid (show ∀ wx, Calls Try.prog 152 #[] wx (Ret wx (.agg (W4 E18))) from fun wx => by have h := refOneU  wx; exact h)
  have k1 := Lib.hid (show ∀ wx, Calls Try.prog 57 #[.agg (W4 a), .agg (W4 E18)] wx (Ret wx (.int .i64 c)) from fun wx => by have h := refcmpU ha E18_lt wx; rw [← hc] at h; exact h)
  clear hc
  go_enter Try.func125, Try.ntmps125
  apply wp_seq_eq
  focus
    intro J hJ
    go_wp2_with fail
    exact hJ
  refine wp_abs (Mem w [(w.heap.size, 31, W4 a)]) ⟨by go_grown, ?_, trivial⟩ ?_
  · repeat (first | (refine Row.new_at ?_; simp; done) | refine Row.alloc ?_ _)
  intro w0 hM
  obtain ⟨hl, r0, -⟩ := hM
  go_upto_region 1 with (fail)
  let L : List Sp := [sV 1 [] [] (fun u => u = .agg (W4 E18)), sV 2 [] [] (fun u => u = .int .i64 c)]
  refine wp_region_six (shs L) (look6 L) (None_) (by kernel_rfl) (by kernel_rfl) (mk_St L [] [] (by kernel_rfl) (by kernel_rfl) ⟨ok_V ⟨_, rfl⟩, ok_V ⟨_, rfl⟩, trivial⟩ (by simp)) ?_
  intro QQ hQ
  -- 0: load<31> *t1
  refine stepK rfl (by kernel_rfl) (fun K hK => ?_); go_simp
  apply Exists.intro; apply And.intro; (focus exact kLoad rfl rfl aggT31 r0 rfl id); refine hK _ _ ?_; clear hK K
  -- 1: call F152()
  refine stepS _ rfl (by kernel_rfl) (fun K hK => ?_); go_simp
  refine ⟨?_, ?_⟩
  · intro wk hk hg hu; go_simp; refine upon_enter ((k0.out _).mono ?_); rintro e w' ⟨rfl, hb⟩; exact ⟨_, rfl, left_V (p := fun u => u = .agg (W4 E18)) rfl (hb) rfl⟩
  rintro ⟨v1, lo1, hi1⟩ - - (rfl : v1 = _)
  refine hK _ _ ?_; clear hK K
  -- 2: call F57(t3, t4)
  refine stepS _ rfl (by kernel_rfl) (fun K hK => ?_); go_simp
  refine ⟨?_, ?_⟩
  · intro wk hk hg hu; go_simp; refine upon_enter ((k1.out _).mono ?_); rintro e w' ⟨rfl, hb⟩; exact ⟨_, rfl, left_V (p := fun u => u = .int .i64 c) rfl (hb) rfl⟩
  rintro ⟨v2, lo2, hi2⟩ - - (rfl : v2 = _)
  refine hK _ _ ?_; clear hK K
  -- 3: leq<3> t5, 0
  refine stepK rfl (by kernel_rfl) (fun K hK => ?_); go_simp
  apply Exists.intro; apply And.intro; (focus (intro wk hk; go_simp; exact ⟨rfl, rfl⟩)); refine hK _ _ ?_; clear hK K
  -- 4: assign t6
  refine stepK rfl (by kernel_rfl) (fun K hK => ?_); go_simp
  apply Exists.intro; apply And.intro; (focus (intro wk hk; go_simp; exact ⟨rfl, rfl⟩)); refine hK _ _ ?_; clear hK K
  refine stepN ?_
  refine hQ _ _ ?_
  intro w1 hT hG hF
  have hbw1 := hT.undrew.below
  replace r0 := r0.below hbw1 r0.lt
  replace hl := hl.trans (hbw1.mono hl.size)
  clear hT hG hF hbw1 hQ QQ L 
  go_wp2_with fail
  go_ret
  exact ⟨by rw [hh.out] <;> rfl, hl⟩
set_option maxRecDepth 100000 in
set_option maxHeartbeats 16000000 in
theorem refPartU {a f : Nat} (ha : a < M) (hf : f < M) (w : World) : Calls Try.prog 119 #[.agg (W4 a), .agg (W4 f)] w (Ret w (.tuple #[.agg (W4 (quoN (a * f) E18)), .bool (quoB (a * f) E18)])) := by
  obtain ⟨q, hq⟩ : ∃ q, q = quoN (a * f) E18 := ⟨_, rfl⟩
  obtain ⟨ok, hok⟩ : ∃ ok, ok = quoB (a * f) E18 := ⟨_, rfl⟩
  rw [← hq, ← hok]
  have k0 := Lib.hid (show ∀ wx, Calls Try.prog 152 #[] wx (Ret wx (.agg (W4 E18))) from fun wx => by have h := refOneU  wx; exact h)
  have k1 := Lib.hid (show ∀ wx, Calls Try.prog 86 #[.agg (W4 a), .agg (W4 f), .agg (W4 E18)] wx (Ret wx (.tuple #[.agg (W4 q), .bool (ok)])) from fun wx => by have h := refdownU ha hf E18_lt wx; rw [← hq, ← hok] at h; exact h)
  clear hq hok
  go_enter Try.func119, Try.ntmps119
  apply wp_seq_eq
  focus
    intro J hJ
    go_wp2_with fail
    exact hJ
  refine wp_abs (Mem w [(w.heap.size, 31, W4 a), (w.heap.size + 1, 31, W4 f), (w.heap.size + 1 + 1, 31, arr .u64 (fun _ => 0) 4)]) ⟨by go_grown, ?_, ?_, ?_, trivial⟩ ?_
  · repeat (first | (refine Row.new_at ?_; simp; done) | refine Row.alloc ?_ _)
  · repeat (first | (refine Row.new_at ?_; simp; done) | refine Row.alloc ?_ _)
  · repeat (first | (refine Row.new_at ?_; simp; done) | refine Row.alloc ?_ _)
  intro w0 hM
  obtain ⟨hl, r0, r1, r2, -⟩ := hM
  go_upto_region 1 with (fail)
  let L : List Sp := [sV 2 [] [] (fun u => u = .agg (W4 E18)), sV 3 [] [] (fun u => u = .tuple #[.agg (W4 q), .bool (ok)]), sO 6 (w.heap.size + 1 + 1) 31 [4] (fun g => aggOf g 4)]
  refine wp_region_six (shs L) (look6 L) (fun c => c = w.heap.size + 1 + 1) (by kernel_rfl) (by kernel_rfl) (mk_St L [6] [6] (by kernel_rfl) (by kernel_rfl) ⟨ok_V ⟨_, rfl⟩, ok_V ⟨_, rfl⟩, ok_O aggOf_congr r2.lt (rfl), trivial⟩ (by simp)) ?_
  intro QQ hQ
  -- 0: load<31> *t2
  refine stepK rfl (by kernel_rfl) (fun K hK => ?_); go_simp
  apply Exists.intro; apply And.intro; (focus exact kLoad rfl rfl aggT31 r0 rfl (by first | exact id | (intro hx; have hx' : _ = _ ∨ _ = _ := hx; omega) | (intro hx; have hx' : _ = _ := hx; omega) | omega)); refine hK _ _ ?_; clear hK K
  -- 1: load<31> *t3
  refine stepK rfl (by kernel_rfl) (fun K hK => ?_); go_simp
  apply Exists.intro; apply And.intro; (focus exact kLoad rfl rfl aggT31 r1 rfl (by first | exact id | (intro hx; have hx' : _ = _ ∨ _ = _ := hx; omega) | (intro hx; have hx' : _ = _ := hx; omega) | omega)); refine hK _ _ ?_; clear hK K
  -- 2: call F152()
  refine stepS _ rfl (by kernel_rfl) (fun K hK => ?_); go_simp
  refine ⟨?_, ?_⟩
  · intro wk hk hg hu; go_simp; refine upon_enter ((k0.out _).mono ?_); rintro e w' ⟨rfl, hb⟩; exact ⟨_, rfl, left_V (p := fun u => u = .agg (W4 E18)) rfl (hb) rfl⟩
  rintro ⟨v2, lo2, hi2⟩ - - (rfl : v2 = _)
  refine hK _ _ ?_; clear hK K
  -- 3: call F86(t6, t7, t8)
  refine stepS _ rfl (by kernel_rfl) (fun K hK => ?_); go_simp
  refine ⟨?_, ?_⟩
  · intro wk hk hg hu; go_simp; refine upon_enter ((k1.out _).mono ?_); rintro e w' ⟨rfl, hb⟩; exact ⟨_, rfl, left_V (p := fun u => u = .tuple #[.agg (W4 q), .bool (ok)]) rfl (hb) rfl⟩
  rintro ⟨v3, lo3, hi3⟩ - - (rfl : v3 = _)
  refine hK _ _ ?_; clear hK K
  -- 4: extract t9 #0
  refine stepK rfl (by kernel_rfl) (fun K hK => ?_); go_simp
  apply Exists.intro; apply And.intro; (focus (intro wk hk; go_simp; exact ⟨rfl, rfl⟩)); refine hK _ _ ?_; clear hK K
  -- 5: extract t9 #1
  refine stepK rfl (by kernel_rfl) (fun K hK => ?_); go_simp
  apply Exists.intro; apply And.intro; (focus (intro wk hk; go_simp; exact ⟨rfl, rfl⟩)); refine hK _ _ ?_; clear hK K
  -- 6: store<31> *t4 = t10
  refine stepS _ rfl (by kernel_rfl) (fun K hK => ?_); go_simp
  refine ⟨?_, ?_⟩
  · exact sStoreO rfl rfl rfl rfl rfl rfl r2 id (by kernel_rfl) rfl (by kernel_rfl) (by decide) aggOf_congr
  rintro ⟨v6, lo6, hi6⟩ - - (rfl : v6 = undef)
  refine hK _ _ ?_; clear hK K
  -- 7: assign t11
  refine stepKz rfl (fun K hK => ?_); go_simp
  apply Exists.intro; apply And.intro; (focus (intro wk hk; go_simp; exact ⟨rfl, rfl⟩)); refine hK _ _ ?_; clear hK K
  refine stepN ?_
  refine hQ _ _ ?_
  intro w1 hT hG hF
  have hT' := hT.undrew
  have xr2 : Row w1 (w.heap.size + 1 + 1) 31 ((W4 q)) := hF 6 _ rfl rfl (by decide)
  have hl9 : Below w.heap.size w w1 := hl.trans (hT'.below_of hl.size (by intro c hc; omega))
  replace r0 := K6.Row.tr r0 hT' (by show ¬ (w.heap.size = w.heap.size + 1 + 1); omega)
  replace r1 := K6.Row.tr r1 hT' (by show ¬ (w.heap.size + 1 = w.heap.size + 1 + 1); omega)
  clear hT hT' hG hF hQ QQ L hl r2
  have hl := hl9; clear hl9
  have r2 := xr2; clear xr2
  go_wp2_with fail
  refine bodyPost_ret (results_ct rfl aggT31 rfl r2 rfl) rfl ?_
  exact ⟨rfl, hl⟩
set_option maxRecDepth 100000 in
set_option maxHeartbeats 16000000 in
theorem refPartUpU {a f : Nat} (ha : a < M) (hf : f < M) (w : World) : Calls Try.prog 120 #[.agg (W4 a), .agg (W4 f)] w (Ret w (.tuple #[.agg (W4 (upN (a * f) E18)), .bool (upB (a * f) E18)])) := by
  obtain ⟨q, hq⟩ : ∃ q, q = upN (a * f) E18 := ⟨_, rfl⟩
  obtain ⟨ok, hok⟩ : ∃ ok, ok = upB (a * f) E18 := ⟨_, rfl⟩
  rw [← hq, ← hok]
  have k0 := Lib.hid (show ∀ wx, Calls Try.prog 152 #[] wx (Ret wx (.agg (W4 E18))) from fun wx => by have h := refOneU  wx; exact h)
  have k1 := Lib.hid (show ∀ wx, Calls Try.prog 88 #[.agg (W4 a), .agg (W4 f), .agg (W4 E18)] wx (Ret wx (.tuple #[.agg (W4 q), .bool (ok)])) from fun wx => by have h := refupU ha hf E18_lt wx; rw [← hq, ← hok] at h; exact h)
  clear hq hok
  go_enter Try.func120, Try.ntmps120
  apply wp_seq_eq
  focus
    intro J hJ
    go_wp2_with fail
    exact hJ
  refine wp_abs (Mem w [(w.heap.size, 31, W4 a), (w.heap.size + 1, 31, W4 f), (w.heap.size + 1 + 1, 31, arr .u64 (fun _ => 0) 4)]) ⟨by go_grown, ?_, ?_, ?_, trivial⟩ ?_
  · repeat (first | (refine Row.new_at ?_; simp; done) | refine Row.alloc ?_ _)
  · repeat (first | (refine Row.new_at ?_; simp; done) | refine Row.alloc ?_ _)
  · repeat (first | (refine Row.new_at ?_; simp; done) | refine Row.alloc ?_ _)
  intro w0 hM
  obtain ⟨hl, r0, r1, r2, -⟩ := hM
  go_upto_region 1 with (fail)
  let L : List Sp := [sV 2 [] [] (fun u => u = .agg (W4 E18)), sV 3 [] [] (fun u => u = .tuple #[.agg (W4 q), .bool (ok)]), sO 6 (w.heap.size + 1 + 1) 31 [4] (fun g => aggOf g 4)]
  refine wp_region_six (shs L) (look6 L) (fun c => c = w.heap.size + 1 + 1) (by kernel_rfl) (by kernel_rfl) (mk_St L [6] [6] (by kernel_rfl) (by kernel_rfl) ⟨ok_V ⟨_, rfl⟩, ok_V ⟨_, rfl⟩, ok_O aggOf_congr r2.lt (rfl), trivial⟩ (by simp)) ?_
  intro QQ hQ
  -- 0: load<31> *t2
  refine stepK rfl (by kernel_rfl) (fun K hK => ?_); go_simp
  apply Exists.intro; apply And.intro; (focus exact kLoad rfl rfl aggT31 r0 rfl (by first | exact id | (intro hx; have hx' : _ = _ ∨ _ = _ := hx; omega) | (intro hx; have hx' : _ = _ := hx; omega) | omega)); refine hK _ _ ?_; clear hK K
  -- 1: load<31> *t3
  refine stepK rfl (by kernel_rfl) (fun K hK => ?_); go_simp
  apply Exists.intro; apply And.intro; (focus exact kLoad rfl rfl aggT31 r1 rfl (by first | exact id | (intro hx; have hx' : _ = _ ∨ _ = _ := hx; omega) | (intro hx; have hx' : _ = _ := hx; omega) | omega)); refine hK _ _ ?_; clear hK K
  -- 2: call F152()
  refine stepS _ rfl (by kernel_rfl) (fun K hK => ?_); go_simp
  refine ⟨?_, ?_⟩
  · intro wk hk hg hu; go_simp; refine upon_enter ((k0.out _).mono ?_); rintro e w' ⟨rfl, hb⟩; exact ⟨_, rfl, left_V (p := fun u => u = .agg (W4 E18)) rfl (hb) rfl⟩
  rintro ⟨v2, lo2, hi2⟩ - - (rfl : v2 = _)
  refine hK _ _ ?_; clear hK K
  -- 3: call F88(t6, t7, t8)
  refine stepS _ rfl (by kernel_rfl) (fun K hK => ?_); go_simp
  refine ⟨?_, ?_⟩
  · intro wk hk hg hu; go_simp; refine upon_enter ((k1.out _).mono ?_); rintro e w' ⟨rfl, hb⟩; exact ⟨_, rfl, left_V (p := fun u => u = .tuple #[.agg (W4 q), .bool (ok)]) rfl (hb) rfl⟩
  rintro ⟨v3, lo3, hi3⟩ - - (rfl : v3 = _)
  refine hK _ _ ?_; clear hK K
  -- 4: extract t9 #0
  refine stepK rfl (by kernel_rfl) (fun K hK => ?_); go_simp
  apply Exists.intro; apply And.intro; (focus (intro wk hk; go_simp; exact ⟨rfl, rfl⟩)); refine hK _ _ ?_; clear hK K
  -- 5: extract t9 #1
  refine stepK rfl (by kernel_rfl) (fun K hK => ?_); go_simp
  apply Exists.intro; apply And.intro; (focus (intro wk hk; go_simp; exact ⟨rfl, rfl⟩)); refine hK _ _ ?_; clear hK K
  -- 6: store<31> *t4 = t10
  refine stepS _ rfl (by kernel_rfl) (fun K hK => ?_); go_simp
  refine ⟨?_, ?_⟩
  · exact sStoreO rfl rfl rfl rfl rfl rfl r2 id (by kernel_rfl) rfl (by kernel_rfl) (by decide) aggOf_congr
  rintro ⟨v6, lo6, hi6⟩ - - (rfl : v6 = undef)
  refine hK _ _ ?_; clear hK K
  -- 7: assign t11
  refine stepKz rfl (fun K hK => ?_); go_simp
  apply Exists.intro; apply And.intro; (focus (intro wk hk; go_simp; exact ⟨rfl, rfl⟩)); refine hK _ _ ?_; clear hK K
  refine stepN ?_
  refine hQ _ _ ?_
  intro w1 hT hG hF
  have hT' := hT.undrew
  have xr2 : Row w1 (w.heap.size + 1 + 1) 31 ((W4 q)) := hF 6 _ rfl rfl (by decide)
  have hl9 : Below w.heap.size w w1 := hl.trans (hT'.below_of hl.size (by intro c hc; omega))
  replace r0 := K6.Row.tr r0 hT' (by show ¬ (w.heap.size = w.heap.size + 1 + 1); omega)
  replace r1 := K6.Row.tr r1 hT' (by show ¬ (w.heap.size + 1 = w.heap.size + 1 + 1); omega)
  clear hT hT' hG hF hQ QQ L hl r2
  have hl := hl9; clear hl9
  have r2 := xr2; clear xr2
  go_wp2_with fail
  refine bodyPost_ret (results_ct rfl aggT31 rfl r2 rfl) rfl ?_
  exact ⟨rfl, hl⟩
set_option maxRecDepth 100000 in
set_option maxHeartbeats 16000000 in
theorem refRatioU {a b : Nat} (ha : a < M) (hb : b < M) (w : World) : Calls Try.prog 122 #[.agg (W4 a), .agg (W4 b)] w (Ret w (.tuple #[.agg (W4 (quoN (a * E18) b)), .bool (quoB (a * E18) b)])) := by
  obtain ⟨q, hq⟩ : ∃ q, q = quoN (a * E18) b := ⟨_, rfl⟩
  obtain ⟨ok, hok⟩ : ∃ ok, ok = quoB (a * E18) b := ⟨_, rfl⟩
  rw [← hq, ← hok]
  have k0 := Lib.hid (show ∀ wx, Calls Try.prog 152 #[] wx (Ret wx (.agg (W4 E18))) from fun wx => by have h := refOneU  wx; exact h)
  have k1 := Lib.hid (show ∀ wx, Calls Try.prog 86 #[.agg (W4 a), .agg (W4 E18), .agg (W4 b)] wx (Ret wx (.tuple #[.agg (W4 q), .bool (ok)])) from fun wx => by have h := refdownU ha E18_lt hb wx; rw [← hq, ← hok] at h; exact h)
  clear hq hok
  go_enter Try.func122, Try.ntmps122
  apply wp_seq_eq
  focus
    intro J hJ
    go_wp2_with fail
    exact hJ
  refine wp_abs (Mem w [(w.heap.size, 31, W4 a), (w.heap.size + 1, 31, W4 b), (w.heap.size + 1 + 1, 31, arr .u64 (fun _ => 0) 4)]) ⟨by go_grown, ?_, ?_, ?_, trivial⟩ ?_
  · repeat (first | (refine Row.new_at ?_; simp; done) | refine Row.alloc ?_ _)
  · repeat (first | (refine Row.new_at ?_; simp; done) | refine Row.alloc ?_ _)
  · repeat (first | (refine Row.new_at ?_; simp; done) | refine Row.alloc ?_ _)
  intro w0 hM
  obtain ⟨hl, r0, r1, r2, -⟩ := hM
  go_upto_region 1 with (fail)
  let L : List Sp := [sV 1 [] [] (fun u => u = .agg (W4 E18)), sV 3 [] [] (fun u => u = .tuple #[.agg (W4 q), .bool (ok)]), sO 6 (w.heap.size + 1 + 1) 31 [4] (fun g => aggOf g 4)]
  refine wp_region_six (shs L) (look6 L) (fun c => c = w.heap.size + 1 + 1) (by kernel_rfl) (by kernel_rfl) (mk_St L [6] [6] (by kernel_rfl) (by kernel_rfl) ⟨ok_V ⟨_, rfl⟩, ok_V ⟨_, rfl⟩, ok_O aggOf_congr r2.lt (rfl), trivial⟩ (by simp)) ?_
  intro QQ hQ
  -- 0: load<31> *t2
  refine stepK rfl (by kernel_rfl) (fun K hK => ?_); go_simp
  apply Exists.intro; apply And.intro; (focus exact kLoad rfl rfl aggT31 r0 rfl (by first | exact id | (intro hx; have hx' : _ = _ ∨ _ = _ := hx; omega) | (intro hx; have hx' : _ = _ := hx; omega) | omega)); refine hK _ _ ?_; clear hK K
  -- 1: call F152()
  refine stepS _ rfl (by kernel_rfl) (fun K hK => ?_); go_simp
  refine ⟨?_, ?_⟩
  · intro wk hk hg hu; go_simp; refine upon_enter ((k0.out _).mono ?_); rintro e w' ⟨rfl, hb⟩; exact ⟨_, rfl, left_V (p := fun u => u = .agg (W4 E18)) rfl (hb) rfl⟩
  rintro ⟨v1, lo1, hi1⟩ - - (rfl : v1 = _)
  refine hK _ _ ?_; clear hK K
  -- 2: load<31> *t3
  refine stepK rfl (by kernel_rfl) (fun K hK => ?_); go_simp
  apply Exists.intro; apply And.intro; (focus exact kLoad rfl rfl aggT31 r1 rfl (by first | exact id | (intro hx; have hx' : _ = _ ∨ _ = _ := hx; omega) | (intro hx; have hx' : _ = _ := hx; omega) | omega)); refine hK _ _ ?_; clear hK K
  -- 3: call F86(t6, t7, t8)
  refine stepS _ rfl (by kernel_rfl) (fun K hK => ?_); go_simp
  refine ⟨?_, ?_⟩
  · intro wk hk hg hu; go_simp; refine upon_enter ((k1.out _).mono ?_); rintro e w' ⟨rfl, hb⟩; exact ⟨_, rfl, left_V (p := fun u => u = .tuple #[.agg (W4 q), .bool (ok)]) rfl (hb) rfl⟩
  rintro ⟨v3, lo3, hi3⟩ - - (rfl : v3 = _)
  refine hK _ _ ?_; clear hK K
  -- 4: extract t9 #0
  refine stepK rfl (by kernel_rfl) (fun K hK => ?_); go_simp
  apply Exists.intro; apply And.intro; (focus (intro wk hk; go_simp; exact ⟨rfl, rfl⟩)); refine hK _ _ ?_; clear hK K
  -- 5: extract t9 #1
  refine stepK rfl (by kernel_rfl) (fun K hK => ?_); go_simp
  apply Exists.intro; apply And.intro; (focus (intro wk hk; go_simp; exact ⟨rfl, rfl⟩)); refine hK _ _ ?_; clear hK K
  -- 6: store<31> *t4 = t10
  refine stepS _ rfl (by kernel_rfl) (fun K hK => ?_); go_simp
  refine ⟨?_, ?_⟩
  · exact sStoreO rfl rfl rfl rfl rfl rfl r2 id (by kernel_rfl) rfl (by kernel_rfl) (by decide) aggOf_congr
  rintro ⟨v6, lo6, hi6⟩ - - (rfl : v6 = undef)
  refine hK _ _ ?_; clear hK K
  -- 7: assign t11
  refine stepKz rfl (fun K hK => ?_); go_simp
  apply Exists.intro; apply And.intro; (focus (intro wk hk; go_simp; exact ⟨rfl, rfl⟩)); refine hK _ _ ?_; clear hK K
  refine stepN ?_
  refine hQ _ _ ?_
  intro w1 hT hG hF
  have hT' := hT.undrew
  have xr2 : Row w1 (w.heap.size + 1 + 1) 31 ((W4 q)) := hF 6 _ rfl rfl (by decide)
  have hl9 : Below w.heap.size w w1 := hl.trans (hT'.below_of hl.size (by intro c hc; omega))
  replace r0 := K6.Row.tr r0 hT' (by show ¬ (w.heap.size = w.heap.size + 1 + 1); omega)
  replace r1 := K6.Row.tr r1 hT' (by show ¬ (w.heap.size + 1 = w.heap.size + 1 + 1); omega)
  clear hT hT' hG hF hQ QQ L hl r2
  have hl := hl9; clear hl9
  have r2 := xr2; clear xr2
  go_wp2_with fail
  refine bodyPost_ret (results_ct rfl aggT31 rfl r2 rfl) rfl ?_
  exact ⟨rfl, hl⟩
set_option maxRecDepth 100000 in
set_option maxHeartbeats 16000000 in
theorem refScaleU {a t f : Nat} (ha : a < M) (ht : t < M) (hf : f < M) (w : World) : Calls Try.prog 123 #[.agg (W4 a), .agg (W4 t), .agg (W4 f)] w (Ret w (.tuple #[.agg (W4 (quoN (a * t) f)), .bool (scB a t f)])) := by
  by_cases f0 : f = 0
  · rw [show quoN (a * t) f = 0 from quoN_zero (a * t) f0, show scB a t f = decide (a = 0) from if_pos f0]
    by_cases a0 : a = 0
    · rw [decide_eq_true a0]
      have q0 : ∀ wx, (Op.equalIn 10000 31 (.agg (W4 f)) (.agg #[.int .u64 0, .int .u64 0, .int .u64 0, .int .u64 0])).run Try.prog wx = .ok true wx := fun wx => by rw [eqU0 hf, decide_eq_true f0]
      have q1 : ∀ wx, (Op.equalIn 10000 31 (.agg (W4 a)) (.agg #[.int .u64 0, .int .u64 0, .int .u64 0, .int .u64 0])).run Try.prog wx = .ok true wx := fun wx => by rw [eqU0 ha, decide_eq_true a0]
      clear f0 a0
      go_enter Try.func123, Try.ntmps123
      apply wp_seq_eq
      focus
        intro J hJ
        go_wp2_with fail
        exact hJ
      refine wp_abs (Mem w [(w.heap.size, 31, W4 a), (w.heap.size + 1, 31, W4 t), (w.heap.size + 1 + 1, 31, W4 f), (w.heap.size + 1 + 1 + 1, 31, arr .u64 (fun _ => 0) 4)]) ⟨by go_grown, ?_, ?_, ?_, ?_, trivial⟩ ?_
      · repeat (first | (refine Row.new_at ?_; simp; done) | refine Row.alloc ?_ _)
      · repeat (first | (refine Row.new_at ?_; simp; done) | refine Row.alloc ?_ _)
      · repeat (first | (refine Row.new_at ?_; simp; done) | refine Row.alloc ?_ _)
      · repeat (first | (refine Row.new_at ?_; simp; done) | refine Row.alloc ?_ _)
      intro w0 hM
      obtain ⟨hl, r0, r1, r2, r3, -⟩ := hM
      go_upto_region 1 with (fail)
      let L : List Sp := []
      refine wp_region_six0 (shs L) (look6 L) (None_) (by kernel_rfl) (by kernel_rfl) (mk_St L [] [] (by kernel_rfl) (by kernel_rfl) trivial (by simp)) ?_
      intro QQ hQ
      -- 0: load<31> *t5
      refine stepK rfl (by kernel_rfl) (fun K hK => ?_); go_simp
      apply Exists.intro; apply And.intro; (focus exact kLoad rfl rfl aggT31 r2 rfl id); refine hK _ _ ?_; clear hK K
      -- 1: build<31> 
      refine stepK rfl (by kernel_rfl) (fun K hK => ?_); go_simp
      apply Exists.intro; apply And.intro; (focus (intro wk hk; go_simp; exact ⟨rfl, rfl⟩)); refine hK _ _ ?_; clear hK K
      -- 2: eql<31> t8, t9
      refine stepK rfl (by kernel_rfl) (fun K hK => ?_); go_simp
      apply Exists.intro; apply And.intro; (focus (intro wk hk; go_simp; exact ⟨rfl, rfl⟩)); refine hK _ _ ?_; clear hK K
      refine stepN ?_
      refine hQ _ _ ?_
      intro w1 hT hG hF
      have hbw1 := hT.below
      replace r0 := r0.below hbw1 r0.lt
      replace r1 := r1.below hbw1 r1.lt
      replace r2 := r2.below hbw1 r2.lt
      replace r3 := r3.below hbw1 r3.lt
      replace hl := hl.trans (hbw1.mono hl.size)
      clear hT hG hF hbw1 hQ QQ L 
      go_upto_region 2 with (fail)
      let L : List Sp := [sO 4 (w.heap.size + 1 + 1 + 1) 31 [0] (fun g => aggOf g 0)]
      refine wp_region_six (shs L) (look6 L) (fun c => c = w.heap.size + 1 + 1 + 1) (by kernel_rfl) (by kernel_rfl) (mk_St L [4] [4] (by kernel_rfl) (by kernel_rfl) ⟨ok_O aggOf_congr r3.lt (rfl), trivial⟩ (by simp)) ?_
      intro QQ hQ
      -- 0: build<31> 
      refine stepK rfl (by kernel_rfl) (fun K hK => ?_); go_simp
      apply Exists.intro; apply And.intro; (focus (intro wk hk; go_simp; exact ⟨rfl, rfl⟩)); refine hK _ _ ?_; clear hK K
      -- 1: load<31> *t3
      refine stepKz rfl (fun K hK => ?_); go_simp
      apply Exists.intro; apply And.intro; (focus exact kLoad rfl rfl aggT31 r0 rfl (by first | exact id | (intro hx; have hx' : _ = _ ∨ _ = _ := hx; omega) | (intro hx; have hx' : _ = _ := hx; omega) | omega)); refine hK _ _ ?_; clear hK K
      -- 2: build<31> 
      refine stepKz rfl (fun K hK => ?_); go_simp
      apply Exists.intro; apply And.intro; (focus (intro wk hk; go_simp; exact ⟨rfl, rfl⟩)); refine hK _ _ ?_; clear hK K
      -- 3: eql<31> t12, t13
      refine stepKz rfl (fun K hK => ?_); go_simp
      apply Exists.intro; apply And.intro; (focus (intro wk hk; go_simp; exact ⟨rfl, rfl⟩)); refine hK _ _ ?_; clear hK K
      -- 4: store<31> *t6 = t11
      refine stepS _ rfl (by kernel_rfl) (fun K hK => ?_); go_simp
      refine ⟨?_, ?_⟩
      · exact sStoreO rfl rfl rfl rfl rfl rfl r3 id (by kernel_rfl) rfl (by kernel_rfl) (by decide) aggOf_congr
      rintro ⟨v4, lo4, hi4⟩ - - (rfl : v4 = undef)
      refine hK _ _ ?_; clear hK K
      -- 5: assign t14
      refine stepKz rfl (fun K hK => ?_); go_simp
      apply Exists.intro; apply And.intro; (focus (intro wk hk; go_simp; exact ⟨rfl, rfl⟩)); refine hK _ _ ?_; clear hK K
      refine stepN ?_
      refine hQ _ _ ?_
      intro w2 hT hG hF
      have hT' := hT.undrew
      have xr3 : Row w2 (w.heap.size + 1 + 1 + 1) 31 (W4 0) := Row.congr (show Row w2 (w.heap.size + 1 + 1 + 1) 31 _ from hF 4 _ rfl rfl (by decide)) W4_zero
      have hl9 : Below w.heap.size w w2 := hl.trans (hT'.below_of hl.size (by intro c hc; omega))
      replace r0 := K6.Row.tr r0 hT' (by show ¬ (w.heap.size = w.heap.size + 1 + 1 + 1); omega)
      replace r1 := K6.Row.tr r1 hT' (by show ¬ (w.heap.size + 1 = w.heap.size + 1 + 1 + 1); omega)
      replace r2 := K6.Row.tr r2 hT' (by show ¬ (w.heap.size + 1 + 1 = w.heap.size + 1 + 1 + 1); omega)
      clear hT hT' hG hF hQ QQ L hl r3
      have hl := hl9; clear hl9
      have r3 := xr3; clear xr3
      go_wp2_with fail
      refine bodyPost_ret (results_ct rfl aggT31 rfl r3 rfl) rfl ?_
      exact ⟨rfl, hl⟩
    · rw [decide_eq_false a0]
      have q0 : ∀ wx, (Op.equalIn 10000 31 (.agg (W4 f)) (.agg #[.int .u64 0, .int .u64 0, .int .u64 0, .int .u64 0])).run Try.prog wx = .ok true wx := fun wx => by rw [eqU0 hf, decide_eq_true f0]
      have q1 : ∀ wx, (Op.equalIn 10000 31 (.agg (W4 a)) (.agg #[.int .u64 0, .int .u64 0, .int .u64 0, .int .u64 0])).run Try.prog wx = .ok false wx := fun wx => by rw [eqU0 ha, decide_eq_false a0]
      clear f0 a0
      go_enter Try.func123, Try.ntmps123
      apply wp_seq_eq
      focus
        intro J hJ
        go_wp2_with fail
        exact hJ
      refine wp_abs (Mem w [(w.heap.size, 31, W4 a), (w.heap.size + 1, 31, W4 t), (w.heap.size + 1 + 1, 31, W4 f), (w.heap.size + 1 + 1 + 1, 31, arr .u64 (fun _ => 0) 4)]) ⟨by go_grown, ?_, ?_, ?_, ?_, trivial⟩ ?_
      · repeat (first | (refine Row.new_at ?_; simp; done) | refine Row.alloc ?_ _)
      · repeat (first | (refine Row.new_at ?_; simp; done) | refine Row.alloc ?_ _)
      · repeat (first | (refine Row.new_at ?_; simp; done) | refine Row.alloc ?_ _)
      · repeat (first | (refine Row.new_at ?_; simp; done) | refine Row.alloc ?_ _)
      intro w0 hM
      obtain ⟨hl, r0, r1, r2, r3, -⟩ := hM
      go_upto_region 1 with (fail)
      let L : List Sp := []
      refine wp_region_six0 (shs L) (look6 L) (None_) (by kernel_rfl) (by kernel_rfl) (mk_St L [] [] (by kernel_rfl) (by kernel_rfl) trivial (by simp)) ?_
      intro QQ hQ
      -- 0: load<31> *t5
      refine stepK rfl (by kernel_rfl) (fun K hK => ?_); go_simp
      apply Exists.intro; apply And.intro; (focus exact kLoad rfl rfl aggT31 r2 rfl id); refine hK _ _ ?_; clear hK K
      -- 1: build<31> 
      refine stepK rfl (by kernel_rfl) (fun K hK => ?_); go_simp
      apply Exists.intro; apply And.intro; (focus (intro wk hk; go_simp; exact ⟨rfl, rfl⟩)); refine hK _ _ ?_; clear hK K
      -- 2: eql<31> t8, t9
      refine stepK rfl (by kernel_rfl) (fun K hK => ?_); go_simp
      apply Exists.intro; apply And.intro; (focus (intro wk hk; go_simp; exact ⟨rfl, rfl⟩)); refine hK _ _ ?_; clear hK K
      refine stepN ?_
      refine hQ _ _ ?_
      intro w1 hT hG hF
      have hbw1 := hT.below
      replace r0 := r0.below hbw1 r0.lt
      replace r1 := r1.below hbw1 r1.lt
      replace r2 := r2.below hbw1 r2.lt
      replace r3 := r3.below hbw1 r3.lt
      replace hl := hl.trans (hbw1.mono hl.size)
      clear hT hG hF hbw1 hQ QQ L 
      go_upto_region 2 with (fail)
      let L : List Sp := [sO 4 (w.heap.size + 1 + 1 + 1) 31 [0] (fun g => aggOf g 0)]
      refine wp_region_six (shs L) (look6 L) (fun c => c = w.heap.size + 1 + 1 + 1) (by kernel_rfl) (by kernel_rfl) (mk_St L [4] [4] (by kernel_rfl) (by kernel_rfl) ⟨ok_O aggOf_congr r3.lt (rfl), trivial⟩ (by simp)) ?_
      intro QQ hQ
      -- 0: build<31> 
      refine stepK rfl (by kernel_rfl) (fun K hK => ?_); go_simp
      apply Exists.intro; apply And.intro; (focus (intro wk hk; go_simp; exact ⟨rfl, rfl⟩)); refine hK _ _ ?_; clear hK K
      -- 1: load<31> *t3
      refine stepKz rfl (fun K hK => ?_); go_simp
      apply Exists.intro; apply And.intro; (focus exact kLoad rfl rfl aggT31 r0 rfl (by first | exact id | (intro hx; have hx' : _ = _ ∨ _ = _ := hx; omega) | (intro hx; have hx' : _ = _ := hx; omega) | omega)); refine hK _ _ ?_; clear hK K
      -- 2: build<31> 
      refine stepKz rfl (fun K hK => ?_); go_simp
      apply Exists.intro; apply And.intro; (focus (intro wk hk; go_simp; exact ⟨rfl, rfl⟩)); refine hK _ _ ?_; clear hK K
      -- 3: eql<31> t12, t13
      refine stepKz rfl (fun K hK => ?_); go_simp
      apply Exists.intro; apply And.intro; (focus (intro wk hk; go_simp; exact ⟨rfl, rfl⟩)); refine hK _ _ ?_; clear hK K
      -- 4: store<31> *t6 = t11
      refine stepS _ rfl (by kernel_rfl) (fun K hK => ?_); go_simp
      refine ⟨?_, ?_⟩
      · exact sStoreO rfl rfl rfl rfl rfl rfl r3 id (by kernel_rfl) rfl (by kernel_rfl) (by decide) aggOf_congr
      rintro ⟨v4, lo4, hi4⟩ - - (rfl : v4 = undef)
      refine hK _ _ ?_; clear hK K
      -- 5: assign t14
      refine stepKz rfl (fun K hK => ?_); go_simp
      apply Exists.intro; apply And.intro; (focus (intro wk hk; go_simp; exact ⟨rfl, rfl⟩)); refine hK _ _ ?_; clear hK K
      refine stepN ?_
      refine hQ _ _ ?_
      intro w2 hT hG hF
      have hT' := hT.undrew
      have xr3 : Row w2 (w.heap.size + 1 + 1 + 1) 31 (W4 0) := Row.congr (show Row w2 (w.heap.size + 1 + 1 + 1) 31 _ from hF 4 _ rfl rfl (by decide)) W4_zero
      have hl9 : Below w.heap.size w w2 := hl.trans (hT'.below_of hl.size (by intro c hc; omega))
      replace r0 := K6.Row.tr r0 hT' (by show ¬ (w.heap.size = w.heap.size + 1 + 1 + 1); omega)
      replace r1 := K6.Row.tr r1 hT' (by show ¬ (w.heap.size + 1 = w.heap.size + 1 + 1 + 1); omega)
      replace r2 := K6.Row.tr r2 hT' (by show ¬ (w.heap.size + 1 + 1 = w.heap.size + 1 + 1 + 1); omega)
      clear hT hT' hG hF hQ QQ L hl r3
      have hl := hl9; clear hl9
      have r3 := xr3; clear xr3
      go_wp2_with fail
      refine bodyPost_ret (results_ct rfl aggT31 rfl r3 rfl) rfl ?_
      exact ⟨rfl, hl⟩
  · rw [show scB a t f = quoB (a * t) f from if_neg f0]
    obtain ⟨q, hq⟩ : ∃ q, q = quoN (a * t) f := ⟨_, rfl⟩
    obtain ⟨ok, hok⟩ : ∃ ok, ok = quoB (a * t) f := ⟨_, rfl⟩
    rw [← hq, ← hok]
    have k0 := Lib.hid (show ∀ wx, Calls Try.prog 86 #[.agg (W4 a), .agg (W4 t), .agg (W4 f)] wx (Ret wx (.tuple #[.agg (W4 q), .bool (ok)])) from fun wx => by have h := refdownU ha ht hf wx; rw [← hq, ← hok] at h; exact h)
    have q0 : ∀ wx, (Op.equalIn 10000 31 (.agg (W4 f)) (.agg #[.int .u64 0, .int .u64 0, .int .u64 0, .int .u64 0])).run Try.prog wx = .ok false wx := fun wx => by rw [eqU0 hf, decide_eq_false f0]
    clear f0 hq hok
    go_enter Try.func123, Try.ntmps123
    apply wp_seq_eq
    focus
      intro J hJ
      go_wp2_with fail
      exact hJ
    refine wp_abs (Mem w [(w.heap.size, 31, W4 a), (w.heap.size + 1, 31, W4 t), (w.heap.size + 1 + 1, 31, W4 f), (w.heap.size + 1 + 1 + 1, 31, arr .u64 (fun _ => 0) 4)]) ⟨by go_grown, ?_, ?_, ?_, ?_, trivial⟩ ?_
    · repeat (first | (refine Row.new_at ?_; simp; done) | refine Row.alloc ?_ _)
    · repeat (first | (refine Row.new_at ?_; simp; done) | refine Row.alloc ?_ _)
    · repeat (first | (refine Row.new_at ?_; simp; done) | refine Row.alloc ?_ _)
    · repeat (first | (refine Row.new_at ?_; simp; done) | refine Row.alloc ?_ _)
    intro w0 hM
    obtain ⟨hl, r0, r1, r2, r3, -⟩ := hM
    go_upto_region 1 with (fail)
    let L : List Sp := []
    refine wp_region_six0 (shs L) (look6 L) (None_) (by kernel_rfl) (by kernel_rfl) (mk_St L [] [] (by kernel_rfl) (by kernel_rfl) trivial (by simp)) ?_
    intro QQ hQ
    -- 0: load<31> *t5
    refine stepK rfl (by kernel_rfl) (fun K hK => ?_); go_simp
    apply Exists.intro; apply And.intro; (focus exact kLoad rfl rfl aggT31 r2 rfl id); refine hK _ _ ?_; clear hK K
    -- 1: build<31> 
    refine stepK rfl (by kernel_rfl) (fun K hK => ?_); go_simp
    apply Exists.intro; apply And.intro; (focus (intro wk hk; go_simp; exact ⟨rfl, rfl⟩)); refine hK _ _ ?_; clear hK K
    -- 2: eql<31> t8, t9
    refine stepK rfl (by kernel_rfl) (fun K hK => ?_); go_simp
    apply Exists.intro; apply And.intro; (focus (intro wk hk; go_simp; exact ⟨rfl, rfl⟩)); refine hK _ _ ?_; clear hK K
    refine stepN ?_
    refine hQ _ _ ?_
    intro w1 hT hG hF
    have hbw1 := hT.below
    replace r0 := r0.below hbw1 r0.lt
    replace r1 := r1.below hbw1 r1.lt
    replace r2 := r2.below hbw1 r2.lt
    replace r3 := r3.below hbw1 r3.lt
    replace hl := hl.trans (hbw1.mono hl.size)
    clear hT hG hF hbw1 hQ QQ L 
    go_upto_region 3 with (fail)
    let L : List Sp := [sV 3 [] [] (fun u => u = .tuple #[.agg (W4 q), .bool (ok)]), sO 6 (w.heap.size + 1 + 1 + 1) 31 [4] (fun g => aggOf g 4)]
    refine wp_region_six0 (shs L) (look6 L) (fun c => c = w.heap.size + 1 + 1 + 1) (by kernel_rfl) (by kernel_rfl) (mk_St L [6] [6] (by kernel_rfl) (by kernel_rfl) ⟨ok_V ⟨_, rfl⟩, ok_O aggOf_congr r3.lt (rfl), trivial⟩ (by simp)) ?_
    intro QQ hQ
    -- 0: load<31> *t3
    refine stepK rfl (by kernel_rfl) (fun K hK => ?_); go_simp
    apply Exists.intro; apply And.intro; (focus exact kLoad rfl rfl aggT31 r0 rfl (by first | exact id | (intro hx; have hx' : _ = _ ∨ _ = _ := hx; omega) | (intro hx; have hx' : _ = _ := hx; omega) | omega)); refine hK _ _ ?_; clear hK K
    -- 1: load<31> *t4
    refine stepK rfl (by kernel_rfl) (fun K hK => ?_); go_simp
    apply Exists.intro; apply And.intro; (focus exact kLoad rfl rfl aggT31 r1 rfl (by first | exact id | (intro hx; have hx' : _ = _ ∨ _ = _ := hx; omega) | (intro hx; have hx' : _ = _ := hx; omega) | omega)); refine hK _ _ ?_; clear hK K
    -- 2: load<31> *t5
    refine stepK rfl (by kernel_rfl) (fun K hK => ?_); go_simp
    apply Exists.intro; apply And.intro; (focus exact kLoad rfl rfl aggT31 r2 rfl (by first | exact id | (intro hx; have hx' : _ = _ ∨ _ = _ := hx; omega) | (intro hx; have hx' : _ = _ := hx; omega) | omega)); refine hK _ _ ?_; clear hK K
    -- 3: call F86(t15, t16, t17)
    refine stepS _ rfl (by kernel_rfl) (fun K hK => ?_); go_simp
    refine ⟨?_, ?_⟩
    · intro wk hk hg hu; go_simp; refine upon_enter ((k0.out _).mono ?_); rintro e w' ⟨rfl, hb⟩; exact ⟨_, rfl, left_V (p := fun u => u = .tuple #[.agg (W4 q), .bool (ok)]) rfl (hb) rfl⟩
    rintro ⟨v3, lo3, hi3⟩ - - (rfl : v3 = _)
    refine hK _ _ ?_; clear hK K
    -- 4: extract t18 #0
    refine stepK rfl (by kernel_rfl) (fun K hK => ?_); go_simp
    apply Exists.intro; apply And.intro; (focus (intro wk hk; go_simp; exact ⟨rfl, rfl⟩)); refine hK _ _ ?_; clear hK K
    -- 5: extract t18 #1
    refine stepK rfl (by kernel_rfl) (fun K hK => ?_); go_simp
    apply Exists.intro; apply And.intro; (focus (intro wk hk; go_simp; exact ⟨rfl, rfl⟩)); refine hK _ _ ?_; clear hK K
    -- 6: store<31> *t6 = t19
    refine stepS _ rfl (by kernel_rfl) (fun K hK => ?_); go_simp
    refine ⟨?_, ?_⟩
    · exact sStoreO rfl rfl rfl rfl rfl rfl r3 id (by kernel_rfl) rfl (by kernel_rfl) (by decide) aggOf_congr
    rintro ⟨v6, lo6, hi6⟩ - - (rfl : v6 = undef)
    refine hK _ _ ?_; clear hK K
    -- 7: assign t20
    refine stepKz rfl (fun K hK => ?_); go_simp
    apply Exists.intro; apply And.intro; (focus (intro wk hk; go_simp; exact ⟨rfl, rfl⟩)); refine hK _ _ ?_; clear hK K
    refine stepN ?_
    refine hQ _ _ ?_
    intro w2 hT hG hF
    have hT' := hT
    have xr3 : Row w2 (w.heap.size + 1 + 1 + 1) 31 ((W4 q)) := hF 6 _ rfl rfl (by decide)
    have hl9 : Below w.heap.size w w2 := hl.trans (hT'.below_of hl.size (by intro c hc; omega))
    replace r0 := K6.Row.tr r0 hT' (by show ¬ (w.heap.size = w.heap.size + 1 + 1 + 1); omega)
    replace r1 := K6.Row.tr r1 hT' (by show ¬ (w.heap.size + 1 = w.heap.size + 1 + 1 + 1); omega)
    replace r2 := K6.Row.tr r2 hT' (by show ¬ (w.heap.size + 1 + 1 = w.heap.size + 1 + 1 + 1); omega)
    clear hT hT' hG hF hQ QQ L hl r3
    have hl := hl9; clear hl9
    have r3 := xr3; clear xr3
    go_wp2_with fail
    refine bodyPost_ret (results_ct rfl aggT31 rfl r3 rfl) rfl ?_
    exact ⟨rfl, hl⟩
set_option maxRecDepth 100000 in
set_option maxHeartbeats 16000000 in
theorem refScaleUpU {a t f : Nat} (ha : a < M) (ht : t < M) (hf : f < M) (w : World) : Calls Try.prog 124 #[.agg (W4 a), .agg (W4 t), .agg (W4 f)] w (Ret w (.tuple #[.agg (W4 (upN (a * t) f)), .bool (scUB a t f)])) := by
  by_cases f0 : f = 0
  · rw [show upN (a * t) f = 0 from upN_zero (a * t) f0, show scUB a t f = decide (a = 0) from if_pos f0]
    by_cases a0 : a = 0
    · rw [decide_eq_true a0]
      have q0 : ∀ wx, (Op.equalIn 10000 31 (.agg (W4 f)) (.agg #[.int .u64 0, .int .u64 0, .int .u64 0, .int .u64 0])).run Try.prog wx = .ok true wx := fun wx => by rw [eqU0 hf, decide_eq_true f0]
      have q1 : ∀ wx, (Op.equalIn 10000 31 (.agg (W4 a)) (.agg #[.int .u64 0, .int .u64 0, .int .u64 0, .int .u64 0])).run Try.prog wx = .ok true wx := fun wx => by rw [eqU0 ha, decide_eq_true a0]
      clear f0 a0
      go_enter Try.func124, Try.ntmps124
      apply wp_seq_eq
      focus
        intro J hJ
        go_wp2_with fail
        exact hJ
      refine wp_abs (Mem w [(w.heap.size, 31, W4 a), (w.heap.size + 1, 31, W4 t), (w.heap.size + 1 + 1, 31, W4 f), (w.heap.size + 1 + 1 + 1, 31, arr .u64 (fun _ => 0) 4)]) ⟨by go_grown, ?_, ?_, ?_, ?_, trivial⟩ ?_
      · repeat (first | (refine Row.new_at ?_; simp; done) | refine Row.alloc ?_ _)
      · repeat (first | (refine Row.new_at ?_; simp; done) | refine Row.alloc ?_ _)
      · repeat (first | (refine Row.new_at ?_; simp; done) | refine Row.alloc ?_ _)
      · repeat (first | (refine Row.new_at ?_; simp; done) | refine Row.alloc ?_ _)
      intro w0 hM
      obtain ⟨hl, r0, r1, r2, r3, -⟩ := hM
      go_upto_region 1 with (fail)
      let L : List Sp := []
      refine wp_region_six0 (shs L) (look6 L) (None_) (by kernel_rfl) (by kernel_rfl) (mk_St L [] [] (by kernel_rfl) (by kernel_rfl) trivial (by simp)) ?_
      intro QQ hQ
      -- 0: load<31> *t5
      refine stepK rfl (by kernel_rfl) (fun K hK => ?_); go_simp
      apply Exists.intro; apply And.intro; (focus exact kLoad rfl rfl aggT31 r2 rfl id); refine hK _ _ ?_; clear hK K
      -- 1: build<31> 
      refine stepK rfl (by kernel_rfl) (fun K hK => ?_); go_simp
      apply Exists.intro; apply And.intro; (focus (intro wk hk; go_simp; exact ⟨rfl, rfl⟩)); refine hK _ _ ?_; clear hK K
      -- 2: eql<31> t8, t9
      refine stepK rfl (by kernel_rfl) (fun K hK => ?_); go_simp
      apply Exists.intro; apply And.intro; (focus (intro wk hk; go_simp; exact ⟨rfl, rfl⟩)); refine hK _ _ ?_; clear hK K
      refine stepN ?_
      refine hQ _ _ ?_
      intro w1 hT hG hF
      have hbw1 := hT.below
      replace r0 := r0.below hbw1 r0.lt
      replace r1 := r1.below hbw1 r1.lt
      replace r2 := r2.below hbw1 r2.lt
      replace r3 := r3.below hbw1 r3.lt
      replace hl := hl.trans (hbw1.mono hl.size)
      clear hT hG hF hbw1 hQ QQ L 
      go_upto_region 2 with (fail)
      let L : List Sp := [sO 4 (w.heap.size + 1 + 1 + 1) 31 [0] (fun g => aggOf g 0)]
      refine wp_region_six (shs L) (look6 L) (fun c => c = w.heap.size + 1 + 1 + 1) (by kernel_rfl) (by kernel_rfl) (mk_St L [4] [4] (by kernel_rfl) (by kernel_rfl) ⟨ok_O aggOf_congr r3.lt (rfl), trivial⟩ (by simp)) ?_
      intro QQ hQ
      -- 0: build<31> 
      refine stepK rfl (by kernel_rfl) (fun K hK => ?_); go_simp
      apply Exists.intro; apply And.intro; (focus (intro wk hk; go_simp; exact ⟨rfl, rfl⟩)); refine hK _ _ ?_; clear hK K
      -- 1: load<31> *t3
      refine stepKz rfl (fun K hK => ?_); go_simp
      apply Exists.intro; apply And.intro; (focus exact kLoad rfl rfl aggT31 r0 rfl (by first | exact id | (intro hx; have hx' : _ = _ ∨ _ = _ := hx; omega) | (intro hx; have hx' : _ = _ := hx; omega) | omega)); refine hK _ _ ?_; clear hK K
      -- 2: build<31> 
      refine stepKz rfl (fun K hK => ?_); go_simp
      apply Exists.intro; apply And.intro; (focus (intro wk hk; go_simp; exact ⟨rfl, rfl⟩)); refine hK _ _ ?_; clear hK K
      -- 3: eql<31> t12, t13
      refine stepKz rfl (fun K hK => ?_); go_simp
      apply Exists.intro; apply And.intro; (focus (intro wk hk; go_simp; exact ⟨rfl, rfl⟩)); refine hK _ _ ?_; clear hK K
      -- 4: store<31> *t6 = t11
      refine stepS _ rfl (by kernel_rfl) (fun K hK => ?_); go_simp
      refine ⟨?_, ?_⟩
      · exact sStoreO rfl rfl rfl rfl rfl rfl r3 id (by kernel_rfl) rfl (by kernel_rfl) (by decide) aggOf_congr
      rintro ⟨v4, lo4, hi4⟩ - - (rfl : v4 = undef)
      refine hK _ _ ?_; clear hK K
      -- 5: assign t14
      refine stepKz rfl (fun K hK => ?_); go_simp
      apply Exists.intro; apply And.intro; (focus (intro wk hk; go_simp; exact ⟨rfl, rfl⟩)); refine hK _ _ ?_; clear hK K
      refine stepN ?_
      refine hQ _ _ ?_
      intro w2 hT hG hF
      have hT' := hT.undrew
      have xr3 : Row w2 (w.heap.size + 1 + 1 + 1) 31 (W4 0) := Row.congr (show Row w2 (w.heap.size + 1 + 1 + 1) 31 _ from hF 4 _ rfl rfl (by decide)) W4_zero
      have hl9 : Below w.heap.size w w2 := hl.trans (hT'.below_of hl.size (by intro c hc; omega))
      replace r0 := K6.Row.tr r0 hT' (by show ¬ (w.heap.size = w.heap.size + 1 + 1 + 1); omega)
      replace r1 := K6.Row.tr r1 hT' (by show ¬ (w.heap.size + 1 = w.heap.size + 1 + 1 + 1); omega)
      replace r2 := K6.Row.tr r2 hT' (by show ¬ (w.heap.size + 1 + 1 = w.heap.size + 1 + 1 + 1); omega)
      clear hT hT' hG hF hQ QQ L hl r3
      have hl := hl9; clear hl9
      have r3 := xr3; clear xr3
      go_wp2_with fail
      refine bodyPost_ret (results_ct rfl aggT31 rfl r3 rfl) rfl ?_
      exact ⟨rfl, hl⟩
    · rw [decide_eq_false a0]
      have q0 : ∀ wx, (Op.equalIn 10000 31 (.agg (W4 f)) (.agg #[.int .u64 0, .int .u64 0, .int .u64 0, .int .u64 0])).run Try.prog wx = .ok true wx := fun wx => by rw [eqU0 hf, decide_eq_true f0]
      have q1 : ∀ wx, (Op.equalIn 10000 31 (.agg (W4 a)) (.agg #[.int .u64 0, .int .u64 0, .int .u64 0, .int .u64 0])).run Try.prog wx = .ok false wx := fun wx => by rw [eqU0 ha, decide_eq_false a0]
      clear f0 a0
      go_enter Try.func124, Try.ntmps124
      apply wp_seq_eq
      focus
        intro J hJ
        go_wp2_with fail
        exact hJ
      refine wp_abs (Mem w [(w.heap.size, 31, W4 a), (w.heap.size + 1, 31, W4 t), (w.heap.size + 1 + 1, 31, W4 f), (w.heap.size + 1 + 1 + 1, 31, arr .u64 (fun _ => 0) 4)]) ⟨by go_grown, ?_, ?_, ?_, ?_, trivial⟩ ?_
      · repeat (first | (refine Row.new_at ?_; simp; done) | refine Row.alloc ?_ _)
      · repeat (first | (refine Row.new_at ?_; simp; done) | refine Row.alloc ?_ _)
      · repeat (first | (refine Row.new_at ?_; simp; done) | refine Row.alloc ?_ _)
      · repeat (first | (refine Row.new_at ?_; simp; done) | refine Row.alloc ?_ _)
      intro w0 hM
      obtain ⟨hl, r0, r1, r2, r3, -⟩ := hM
      go_upto_region 1 with (fail)
      let L : List Sp := []
      refine wp_region_six0 (shs L) (look6 L) (None_) (by kernel_rfl) (by kernel_rfl) (mk_St L [] [] (by kernel_rfl) (by kernel_rfl) trivial (by simp)) ?_
      intro QQ hQ
      -- 0: load<31> *t5
      refine stepK rfl (by kernel_rfl) (fun K hK => ?_); go_simp
      apply Exists.intro; apply And.intro; (focus exact kLoad rfl rfl aggT31 r2 rfl id); refine hK _ _ ?_; clear hK K
      -- 1: build<31> 
      refine stepK rfl (by kernel_rfl) (fun K hK => ?_); go_simp
      apply Exists.intro; apply And.intro; (focus (intro wk hk; go_simp; exact ⟨rfl, rfl⟩)); refine hK _ _ ?_; clear hK K
      -- 2: eql<31> t8, t9
      refine stepK rfl (by kernel_rfl) (fun K hK => ?_); go_simp
      apply Exists.intro; apply And.intro; (focus (intro wk hk; go_simp; exact ⟨rfl, rfl⟩)); refine hK _ _ ?_; clear hK K
      refine stepN ?_
      refine hQ _ _ ?_
      intro w1 hT hG hF
      have hbw1 := hT.below
      replace r0 := r0.below hbw1 r0.lt
      replace r1 := r1.below hbw1 r1.lt
      replace r2 := r2.below hbw1 r2.lt
      replace r3 := r3.below hbw1 r3.lt
      replace hl := hl.trans (hbw1.mono hl.size)
      clear hT hG hF hbw1 hQ QQ L 
      go_upto_region 2 with (fail)
      let L : List Sp := [sO 4 (w.heap.size + 1 + 1 + 1) 31 [0] (fun g => aggOf g 0)]
      refine wp_region_six (shs L) (look6 L) (fun c => c = w.heap.size + 1 + 1 + 1) (by kernel_rfl) (by kernel_rfl) (mk_St L [4] [4] (by kernel_rfl) (by kernel_rfl) ⟨ok_O aggOf_congr r3.lt (rfl), trivial⟩ (by simp)) ?_
      intro QQ hQ
      -- 0: build<31> 
      refine stepK rfl (by kernel_rfl) (fun K hK => ?_); go_simp
      apply Exists.intro; apply And.intro; (focus (intro wk hk; go_simp; exact ⟨rfl, rfl⟩)); refine hK _ _ ?_; clear hK K
      -- 1: load<31> *t3
      refine stepKz rfl (fun K hK => ?_); go_simp
      apply Exists.intro; apply And.intro; (focus exact kLoad rfl rfl aggT31 r0 rfl (by first | exact id | (intro hx; have hx' : _ = _ ∨ _ = _ := hx; omega) | (intro hx; have hx' : _ = _ := hx; omega) | omega)); refine hK _ _ ?_; clear hK K
      -- 2: build<31> 
      refine stepKz rfl (fun K hK => ?_); go_simp
      apply Exists.intro; apply And.intro; (focus (intro wk hk; go_simp; exact ⟨rfl, rfl⟩)); refine hK _ _ ?_; clear hK K
      -- 3: eql<31> t12, t13
      refine stepKz rfl (fun K hK => ?_); go_simp
      apply Exists.intro; apply And.intro; (focus (intro wk hk; go_simp; exact ⟨rfl, rfl⟩)); refine hK _ _ ?_; clear hK K
      -- 4: store<31> *t6 = t11
      refine stepS _ rfl (by kernel_rfl) (fun K hK => ?_); go_simp
      refine ⟨?_, ?_⟩
      · exact sStoreO rfl rfl rfl rfl rfl rfl r3 id (by kernel_rfl) rfl (by kernel_rfl) (by decide) aggOf_congr
      rintro ⟨v4, lo4, hi4⟩ - - (rfl : v4 = undef)
      refine hK _ _ ?_; clear hK K
      -- 5: assign t14
      refine stepKz rfl (fun K hK => ?_); go_simp
      apply Exists.intro; apply And.intro; (focus (intro wk hk; go_simp; exact ⟨rfl, rfl⟩)); refine hK _ _ ?_; clear hK K
      refine stepN ?_
      refine hQ _ _ ?_
      intro w2 hT hG hF
      have hT' := hT.undrew
      have xr3 : Row w2 (w.heap.size + 1 + 1 + 1) 31 (W4 0) := Row.congr (show Row w2 (w.heap.size + 1 + 1 + 1) 31 _ from hF 4 _ rfl rfl (by decide)) W4_zero
      have hl9 : Below w.heap.size w w2 := hl.trans (hT'.below_of hl.size (by intro c hc; omega))
      replace r0 := K6.Row.tr r0 hT' (by show ¬ (w.heap.size = w.heap.size + 1 + 1 + 1); omega)
      replace r1 := K6.Row.tr r1 hT' (by show ¬ (w.heap.size + 1 = w.heap.size + 1 + 1 + 1); omega)
      replace r2 := K6.Row.tr r2 hT' (by show ¬ (w.heap.size + 1 + 1 = w.heap.size + 1 + 1 + 1); omega)
      clear hT hT' hG hF hQ QQ L hl r3
      have hl := hl9; clear hl9
      have r3 := xr3; clear xr3
      go_wp2_with fail
      refine bodyPost_ret (results_ct rfl aggT31 rfl r3 rfl) rfl ?_
      exact ⟨rfl, hl⟩
  · rw [show scUB a t f = upB (a * t) f from if_neg f0]
    obtain ⟨q, hq⟩ : ∃ q, q = upN (a * t) f := ⟨_, rfl⟩
    obtain ⟨ok, hok⟩ : ∃ ok, ok = upB (a * t) f := ⟨_, rfl⟩
    rw [← hq, ← hok]
    have k0 := Lib.hid (show ∀ wx, Calls Try.prog 88 #[.agg (W4 a), .agg (W4 t), .agg (W4 f)] wx (Ret wx (.tuple #[.agg (W4 q), .bool (ok)])) from fun wx => by have h := refupU ha ht hf wx; rw [← hq, ← hok] at h; exact h)
    have q0 : ∀ wx, (Op.equalIn 10000 31 (.agg (W4 f)) (.agg #[.int .u64 0, .int .u64 0, .int .u64 0, .int .u64 0])).run Try.prog wx = .ok false wx := fun wx => by rw [eqU0 hf, decide_eq_false f0]
    clear f0 hq hok
    go_enter Try.func124, Try.ntmps124
    apply wp_seq_eq
    focus
      intro J hJ
      go_wp2_with fail
      exact hJ
    refine wp_abs (Mem w [(w.heap.size, 31, W4 a), (w.heap.size + 1, 31, W4 t), (w.heap.size + 1 + 1, 31, W4 f), (w.heap.size + 1 + 1 + 1, 31, arr .u64 (fun _ => 0) 4)]) ⟨by go_grown, ?_, ?_, ?_, ?_, trivial⟩ ?_
    · repeat (first | (refine Row.new_at ?_; simp; done) | refine Row.alloc ?_ _)
    · repeat (first | (refine Row.new_at ?_; simp; done) | refine Row.alloc ?_ _)
    · repeat (first | (refine Row.new_at ?_; simp; done) | refine Row.alloc ?_ _)
    · repeat (first | (refine Row.new_at ?_; simp; done) | refine Row.alloc ?_ _)
    intro w0 hM
    obtain ⟨hl, r0, r1, r2, r3, -⟩ := hM
    go_upto_region 1 with (fail)
    let L : List Sp := []
    refine wp_region_six0 (shs L) (look6 L) (None_) (by kernel_rfl) (by kernel_rfl) (mk_St L [] [] (by kernel_rfl) (by kernel_rfl) trivial (by simp)) ?_
    intro QQ hQ
    -- 0: load<31> *t5
    refine stepK rfl (by kernel_rfl) (fun K hK => ?_); go_simp
    apply Exists.intro; apply And.intro; (focus exact kLoad rfl rfl aggT31 r2 rfl id); refine hK _ _ ?_; clear hK K
    -- 1: build<31> 
    refine stepK rfl (by kernel_rfl) (fun K hK => ?_); go_simp
    apply Exists.intro; apply And.intro; (focus (intro wk hk; go_simp; exact ⟨rfl, rfl⟩)); refine hK _ _ ?_; clear hK K
    -- 2: eql<31> t8, t9
    refine stepK rfl (by kernel_rfl) (fun K hK => ?_); go_simp
    apply Exists.intro; apply And.intro; (focus (intro wk hk; go_simp; exact ⟨rfl, rfl⟩)); refine hK _ _ ?_; clear hK K
    refine stepN ?_
    refine hQ _ _ ?_
    intro w1 hT hG hF
    have hbw1 := hT.below
    replace r0 := r0.below hbw1 r0.lt
    replace r1 := r1.below hbw1 r1.lt
    replace r2 := r2.below hbw1 r2.lt
    replace r3 := r3.below hbw1 r3.lt
    replace hl := hl.trans (hbw1.mono hl.size)
    clear hT hG hF hbw1 hQ QQ L 
    go_upto_region 3 with (fail)
    let L : List Sp := [sV 3 [] [] (fun u => u = .tuple #[.agg (W4 q), .bool (ok)]), sO 6 (w.heap.size + 1 + 1 + 1) 31 [4] (fun g => aggOf g 4)]
    refine wp_region_six0 (shs L) (look6 L) (fun c => c = w.heap.size + 1 + 1 + 1) (by kernel_rfl) (by kernel_rfl) (mk_St L [6] [6] (by kernel_rfl) (by kernel_rfl) ⟨ok_V ⟨_, rfl⟩, ok_O aggOf_congr r3.lt (rfl), trivial⟩ (by simp)) ?_
    intro QQ hQ
    -- 0: load<31> *t3
    refine stepK rfl (by kernel_rfl) (fun K hK => ?_); go_simp
    apply Exists.intro; apply And.intro; (focus exact kLoad rfl rfl aggT31 r0 rfl (by first | exact id | (intro hx; have hx' : _ = _ ∨ _ = _ := hx; omega) | (intro hx; have hx' : _ = _ := hx; omega) | omega)); refine hK _ _ ?_; clear hK K
    -- 1: load<31> *t4
    refine stepK rfl (by kernel_rfl) (fun K hK => ?_); go_simp
    apply Exists.intro; apply And.intro; (focus exact kLoad rfl rfl aggT31 r1 rfl (by first | exact id | (intro hx; have hx' : _ = _ ∨ _ = _ := hx; omega) | (intro hx; have hx' : _ = _ := hx; omega) | omega)); refine hK _ _ ?_; clear hK K
    -- 2: load<31> *t5
    refine stepK rfl (by kernel_rfl) (fun K hK => ?_); go_simp
    apply Exists.intro; apply And.intro; (focus exact kLoad rfl rfl aggT31 r2 rfl (by first | exact id | (intro hx; have hx' : _ = _ ∨ _ = _ := hx; omega) | (intro hx; have hx' : _ = _ := hx; omega) | omega)); refine hK _ _ ?_; clear hK K
    -- 3: call F88(t15, t16, t17)
    refine stepS _ rfl (by kernel_rfl) (fun K hK => ?_); go_simp
    refine ⟨?_, ?_⟩
    · intro wk hk hg hu; go_simp; refine upon_enter ((k0.out _).mono ?_); rintro e w' ⟨rfl, hb⟩; exact ⟨_, rfl, left_V (p := fun u => u = .tuple #[.agg (W4 q), .bool (ok)]) rfl (hb) rfl⟩
    rintro ⟨v3, lo3, hi3⟩ - - (rfl : v3 = _)
    refine hK _ _ ?_; clear hK K
    -- 4: extract t18 #0
    refine stepK rfl (by kernel_rfl) (fun K hK => ?_); go_simp
    apply Exists.intro; apply And.intro; (focus (intro wk hk; go_simp; exact ⟨rfl, rfl⟩)); refine hK _ _ ?_; clear hK K
    -- 5: extract t18 #1
    refine stepK rfl (by kernel_rfl) (fun K hK => ?_); go_simp
    apply Exists.intro; apply And.intro; (focus (intro wk hk; go_simp; exact ⟨rfl, rfl⟩)); refine hK _ _ ?_; clear hK K
    -- 6: store<31> *t6 = t19
    refine stepS _ rfl (by kernel_rfl) (fun K hK => ?_); go_simp
    refine ⟨?_, ?_⟩
    · exact sStoreO rfl rfl rfl rfl rfl rfl r3 id (by kernel_rfl) rfl (by kernel_rfl) (by decide) aggOf_congr
    rintro ⟨v6, lo6, hi6⟩ - - (rfl : v6 = undef)
    refine hK _ _ ?_; clear hK K
    -- 7: assign t20
    refine stepKz rfl (fun K hK => ?_); go_simp
    apply Exists.intro; apply And.intro; (focus (intro wk hk; go_simp; exact ⟨rfl, rfl⟩)); refine hK _ _ ?_; clear hK K
    refine stepN ?_
    refine hQ _ _ ?_
    intro w2 hT hG hF
    have hT' := hT
    have xr3 : Row w2 (w.heap.size + 1 + 1 + 1) 31 ((W4 q)) := hF 6 _ rfl rfl (by decide)
    have hl9 : Below w.heap.size w w2 := hl.trans (hT'.below_of hl.size (by intro c hc; omega))
    replace r0 := K6.Row.tr r0 hT' (by show ¬ (w.heap.size = w.heap.size + 1 + 1 + 1); omega)
    replace r1 := K6.Row.tr r1 hT' (by show ¬ (w.heap.size + 1 = w.heap.size + 1 + 1 + 1); omega)
    replace r2 := K6.Row.tr r2 hT' (by show ¬ (w.heap.size + 1 + 1 = w.heap.size + 1 + 1 + 1); omega)
    clear hT hT' hG hF hQ QQ L hl r3
    have hl := hl9; clear hl9
    have r3 := xr3; clear xr3
    go_wp2_with fail
    refine bodyPost_ret (results_ct rfl aggT31 rfl r3 rfl) rfl ?_
    exact ⟨rfl, hl⟩
end Go.Proofs.Ytpdenhmkpiafiaa
