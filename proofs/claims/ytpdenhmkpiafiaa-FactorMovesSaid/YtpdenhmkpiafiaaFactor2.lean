/-
  Package factor: Grow, Move; the statements' near and lives.
-/
import Derived.Test.YtpdenhmkpiafiaaFactor
namespace Go.Proofs.Ytpdenhmkpiafiaa
open Go Go.RowKit K6

def grC (d f m x : Nat) : Bool := goodF d f m && (decide (m ≠ 0) && (decide (x ≠ 0) && decide (d + x < M2)))
def grN (d f m x : Nat) : Nat := if grC d f m x = true then fcN (wrN d f m + x) ((d + x) * m) else 0
def grB (d f m x : Nat) : Bool := grC d f m x && fcB (wrN d f m + x) ((d + x) * m)
def mvC (d f m : Nat) : Bool := goodF d f m && (decide (d ≠ 0) && decide (m ≠ 0))
def mvN (d f m : Nat) : Nat := if mvC d f m = true then fcN (wrN d f E18) (d * m) else 0
def mvB (d f m : Nat) : Bool := mvC d f m && fcB (wrN d f E18) (d * m)
theorem M2_M' {n : Nat} (h : n < M2) : n < M := by unfold M2 at h; unfold M; omega
theorem wr_M {d f m : Nat} : wrN d f m ≤ M2 * E18 := by
  unfold wrN
  split
  · rename_i h
    have g := goodF_get h
    exact Nat.le_trans (wr_dm g.2.1) (Nat.mul_le_mul (Nat.le_of_lt g.1) g.2.2)
  · exact Nat.zero_le _
theorem wx_lt {d f m x : Nat} (hx : x < M2) : wrN d f m + x < M := by
  have h1 := wr_M (d := d) (f := f) (m := m)
  have h2 : M2 * E18 + M2 < M := by unfold M2 E18 M; decide
  omega
theorem grN_no {d f m x : Nat} (h : grC d f m x = false) : grN d f m x = 0 ∧ grB d f m x = false := by
  unfold grN grB; rw [h]; exact ⟨if_neg (by decide), rfl⟩
theorem mvN_no {d f m : Nat} (h : mvC d f m = false) : mvN d f m = 0 ∧ mvB d f m = false := by
  unfold mvN mvB; rw [h]; exact ⟨if_neg (by decide), rfl⟩
theorem gr_ok {d f m x : Nat} (h : grC d f m x = true) : grN d f m x = fcN (wrN d f m + x) ((d + x) * m) ∧ grB d f m x = fcB (wrN d f m + x) ((d + x) * m) := by
  unfold grN grB; rw [h]; exact ⟨if_pos rfl, rfl⟩
theorem mv_ok {d f m : Nat} (h : mvC d f m = true) : mvN d f m = fcN (wrN d f E18) (d * m) ∧ mvB d f m = fcB (wrN d f E18) (d * m) := by
  unfold mvN mvB; rw [h]; exact ⟨if_pos rfl, rfl⟩
theorem grC_get {d f m x : Nat} (h : grC d f m x = true) : goodF d f m = true ∧ m ≠ 0 ∧ x ≠ 0 ∧ d + x < M2 := by
  unfold grC at h
  rw [Bool.and_eq_true, Bool.and_eq_true, Bool.and_eq_true] at h
  exact ⟨h.1, of_decide_eq_true h.2.1, of_decide_eq_true h.2.2.1, of_decide_eq_true h.2.2.2⟩
theorem mvC_get {d f m : Nat} (h : mvC d f m = true) : goodF d f m = true ∧ d ≠ 0 ∧ m ≠ 0 := by
  unfold mvC at h
  rw [Bool.and_eq_true, Bool.and_eq_true] at h
  exact ⟨h.1, of_decide_eq_true h.2.1, of_decide_eq_true h.2.2⟩
theorem gr_lt (d f m x : Nat) : grN d f m x < M := by
  unfold grN; split
  · exact fc_lt _ _
  · exact M_pos
theorem mv_lt (d f m : Nat) : mvN d f m < M := by
  unfold mvN; split
  · exact fc_lt _ _
  · exact M_pos
theorem addN_lt2 (a b : Nat) : addN a b < M := by unfold addN; split; assumption; exact M_pos
set_option maxRecDepth 100000 in
set_option maxHeartbeats 16000000 in
theorem growU {d f m x : Nat} (hd : d < M) (hf : f < M) (hm : m < M) (hx : x < M) (w : World) : Calls Try.prog 148 #[.agg (W4 d), .agg (W4 f), .agg (W4 m), .agg (W4 x)] w (Ret w (.tuple #[.agg (W4 (grN d f m x)), .bool (grB d f m x)])) := by
  have hW : ∀ h : d + x < M2, wrN d f m + x < M := fun h => wx_lt (by omega)
  have hE : grC d f m x = (goodF d f m && (decide (m ≠ 0) && (decide (x ≠ 0) && decide (d + x < M2)))) := rfl
  have hO := @gr_ok d f m x
  have hZ := @grN_no d f m x
  have hdm : ∀ h : d + x < M2, goodF d f m = true → (d + x) * m < M := fun h hg => dm_lt h (goodF_get hg).2.2
  obtain ⟨v, hv⟩ : ∃ v, v = wrN d f m := ⟨_, rfl⟩
  have vl : v < M := hv ▸ wr_lt d f m
  rw [← hv] at hO hW
  cases hg : goodF d f m
  · rw [hg, Bool.false_and] at hE
    rw [(hZ hE).1, (hZ hE).2]
    clear hE hO hZ hW hdm
    have k0 := Lib.hid (show ∀ wx, Calls Try.prog 147 #[.agg (W4 d), .agg (W4 f), .agg (W4 m)] wx (Ret wx (.tuple #[.agg (W4 v), .bool false])) from fun wx => by have h := worthU hd hf hm wx; rw [← hv, hg] at h; exact h)
    clear hv hg
    go_enter Try.func148, Try.ntmps148
    apply wp_seq_eq
    focus
      intro J hJ
      go_wp2_with fail
      exact hJ
    refine wp_abs (Mem w [(w.heap.size, 31, W4 d), (w.heap.size + 1, 31, W4 f), (w.heap.size + 1 + 1, 31, W4 m), (w.heap.size + 1 + 1 + 1, 31, W4 x), (w.heap.size + 1 + 1 + 1 + 1, 31, arr .u64 (fun _ => 0) 4)]) ⟨by go_grown, ?_, ?_, ?_, ?_, ?_, trivial⟩ ?_
    · repeat (first | (refine Row.new_at ?_; simp; done) | refine Row.alloc ?_ _)
    · repeat (first | (refine Row.new_at ?_; simp; done) | refine Row.alloc ?_ _)
    · repeat (first | (refine Row.new_at ?_; simp; done) | refine Row.alloc ?_ _)
    · repeat (first | (refine Row.new_at ?_; simp; done) | refine Row.alloc ?_ _)
    · repeat (first | (refine Row.new_at ?_; simp; done) | refine Row.alloc ?_ _)
    intro w0 hM
    obtain ⟨hl, r0, r1, r2, r3, r4, -⟩ := hM
    go_upto_region 1 with (fail)
    let L : List Sp := [sV 3 [] [] (fun u => u = .tuple #[.agg (W4 v), .bool false]), sA 7 31 [8] #[.int .u64 0, .int .u64 0, .int .u64 0, .int .u64 0], sT 8 7 31 [5] (fun g => aggOf g 5)]
    refine wp_region_six0 (shs L) (look6 L) (None_) (by kernel_rfl) (by kernel_rfl) (mk_St L [] [] (by kernel_rfl) (by kernel_rfl) ⟨ok_V ⟨_, rfl⟩, ok_A, ok_T aggOf_congr, trivial⟩ (by simp)) ?_
    intro QQ hQ
    -- 0: load<31> *t4
    refine stepK rfl (by kernel_rfl) (fun K hK => ?_); go_simp
    apply Exists.intro; apply And.intro; (focus exact kLoad rfl rfl aggT31 r0 rfl id); refine hK _ _ ?_; clear hK K
    -- 1: load<31> *t5
    refine stepK rfl (by kernel_rfl) (fun K hK => ?_); go_simp
    apply Exists.intro; apply And.intro; (focus exact kLoad rfl rfl aggT31 r1 rfl id); refine hK _ _ ?_; clear hK K
    -- 2: load<31> *t6
    refine stepK rfl (by kernel_rfl) (fun K hK => ?_); go_simp
    apply Exists.intro; apply And.intro; (focus exact kLoad rfl rfl aggT31 r2 rfl id); refine hK _ _ ?_; clear hK K
    -- 3: call F147(t14, t15, t16)
    refine stepS _ rfl (by kernel_rfl) (fun K hK => ?_); go_simp
    refine ⟨?_, ?_⟩
    · intro wk hk hg hu; go_simp; refine upon_enter ((k0.out _).mono ?_); rintro e w' ⟨rfl, hb⟩; exact ⟨_, rfl, left_V (p := fun u => u = .tuple #[.agg (W4 v), .bool false]) rfl (hb) rfl⟩
    rintro ⟨v3, lo3, hi3⟩ - - (rfl : v3 = _)
    refine hK _ _ ?_; clear hK K
    -- 4: t17
    refine stepK rfl (by kernel_rfl) (fun K hK => ?_); go_simp
    apply Exists.intro; apply And.intro; (focus (intro wk hk; go_simp; exact ⟨rfl, rfl⟩)); refine hK _ _ ?_; clear hK K
    -- 5: extract t13 #0
    refine stepK rfl (by kernel_rfl) (fun K hK => ?_); go_simp
    apply Exists.intro; apply And.intro; (focus (intro wk hk; go_simp; exact ⟨rfl, rfl⟩)); refine hK _ _ ?_; clear hK K
    -- 6: extract t13 #1
    refine stepK rfl (by kernel_rfl) (fun K hK => ?_); go_simp
    apply Exists.intro; apply And.intro; (focus (intro wk hk; go_simp; exact ⟨rfl, rfl⟩)); refine hK _ _ ?_; clear hK K
    -- 7: alloc<31>
    refine stepS _ rfl (by kernel_rfl) (fun K hK => ?_); go_simp
    refine ⟨?_, ?_⟩
    · intro wk hk hg hu; go_simp; exact left_A rfl rfl
    rintro ⟨v7, lo1_7, hi7⟩ hlo7 hhi7 ⟨e7, f7⟩
    replace e7 : v7 = .pointer (some ⟨lo1_7, 0, none⟩) := e7; replace f7 : hi7 = lo1_7 + 1 := f7; replace hlo7 : _ ≤ lo1_7 := hlo7; subst e7; subst f7
    refine hK _ _ ?_; clear hK K
    -- 8: store<31> *t10 = t18
    refine stepS _ rfl (by kernel_rfl) (fun K hK => ?_); go_simp
    refine ⟨?_, ?_⟩
    · exact sStoreT rfl rfl rfl rfl rfl rfl rfl (by kernel_rfl) rfl (by kernel_rfl) (by decide) aggOf_congr
    rintro ⟨v8, lo8, hi8⟩ - - (rfl : v8 = undef)
    refine hK _ _ ?_; clear hK K
    -- 9: assign t19
    refine stepK rfl (by kernel_rfl) (fun K hK => ?_); go_simp
    apply Exists.intro; apply And.intro; (focus (intro wk hk; go_simp; exact ⟨rfl, rfl⟩)); refine hK _ _ ?_; clear hK K
    refine stepN ?_
    refine hQ _ _ ?_
    intro w1 hT hG hF
    have nr5r0 : w.heap.size < lo1_7 := Nat.lt_of_lt_of_le r0.lt hlo7
    have nr5r1 : w.heap.size + 1 < lo1_7 := Nat.lt_of_lt_of_le r1.lt hlo7
    have nr5r2 : w.heap.size + 1 + 1 < lo1_7 := Nat.lt_of_lt_of_le r2.lt hlo7
    have nr5r3 : w.heap.size + 1 + 1 + 1 < lo1_7 := Nat.lt_of_lt_of_le r3.lt hlo7
    have nr5r4 : w.heap.size + 1 + 1 + 1 + 1 < lo1_7 := Nat.lt_of_lt_of_le r4.lt hlo7
    have hbw1 := hT.below
    have r5 : Row w1 lo1_7 31 ((W4 v)) := (hF 8 _ rfl rfl (by decide)).2
    replace r0 := r0.below hbw1 r0.lt
    replace r1 := r1.below hbw1 r1.lt
    replace r2 := r2.below hbw1 r2.lt
    replace r3 := r3.below hbw1 r3.lt
    replace r4 := r4.below hbw1 r4.lt
    replace hl := hl.trans (hbw1.mono hl.size)
    clear hT hG hF hbw1 hQ QQ L hlo7 hhi7
    go_upto_region 3 with (fail)
    let L : List Sp := [sO 1 (w.heap.size + 1 + 1 + 1 + 1) 31 [0] (fun g => aggOf g 0)]
    refine wp_region_six0 (shs L) (look6 L) (fun c => c = w.heap.size + 1 + 1 + 1 + 1) (by kernel_rfl) (by kernel_rfl) (mk_St L [1] [1] (by kernel_rfl) (by kernel_rfl) ⟨ok_O aggOf_congr r4.lt (rfl), trivial⟩ (by simp)) ?_
    intro QQ hQ
    -- 0: build<31> 
    refine stepK rfl (by kernel_rfl) (fun K hK => ?_); go_simp
    apply Exists.intro; apply And.intro; (focus (intro wk hk; go_simp; exact ⟨rfl, rfl⟩)); refine hK _ _ ?_; clear hK K
    -- 1: store<31> *t8 = t32
    refine stepS _ rfl (by kernel_rfl) (fun K hK => ?_); go_simp
    refine ⟨?_, ?_⟩
    · exact sStoreO rfl rfl rfl rfl rfl rfl r4 id (by kernel_rfl) rfl (by kernel_rfl) (by decide) aggOf_congr
    rintro ⟨v1, lo1, hi1⟩ - - (rfl : v1 = undef)
    refine hK _ _ ?_; clear hK K
    -- 2: assign false
    refine stepKz rfl (fun K hK => ?_); go_simp
    apply Exists.intro; apply And.intro; (focus (intro wk hk; go_simp; exact ⟨rfl, rfl⟩)); refine hK _ _ ?_; clear hK K
    refine stepN ?_
    refine hQ _ _ ?_
    intro w2 hT hG hF
    have hT' := hT
    have xr4 : Row w2 (w.heap.size + 1 + 1 + 1 + 1) 31 (W4 0) := Row.congr (show Row w2 (w.heap.size + 1 + 1 + 1 + 1) 31 _ from hF 1 _ rfl rfl (by decide)) W4_zero
    have hl9 : Below w.heap.size w w2 := hl.trans (hT'.below_of hl.size (by intro c hc; omega))
    replace r0 := K6.Row.tr r0 hT' (by show ¬ (w.heap.size = w.heap.size + 1 + 1 + 1 + 1); omega)
    replace r1 := K6.Row.tr r1 hT' (by show ¬ (w.heap.size + 1 = w.heap.size + 1 + 1 + 1 + 1); omega)
    replace r2 := K6.Row.tr r2 hT' (by show ¬ (w.heap.size + 1 + 1 = w.heap.size + 1 + 1 + 1 + 1); omega)
    replace r3 := K6.Row.tr r3 hT' (by show ¬ (w.heap.size + 1 + 1 + 1 = w.heap.size + 1 + 1 + 1 + 1); omega)
    replace r5 := K6.Row.tr r5 hT' (by show ¬ (lo1_7 = w.heap.size + 1 + 1 + 1 + 1); omega)
    clear hT hT' hG hF hQ QQ L hl r4
    have hl := hl9; clear hl9
    have r4 := xr4; clear xr4
    go_wp2_with fail
    refine bodyPost_ret (results_ct rfl aggT31 rfl r4 rfl) rfl ?_
    exact ⟨rfl, hl⟩
  · rw [hg, Bool.true_and] at hE
    by_cases m0 : m = 0
    · rw [decide_eq_false (fun h => h m0), Bool.false_and] at hE
      rw [(hZ hE).1, (hZ hE).2]
      clear hE hO hZ hW hdm
      have k0 := Lib.hid (show ∀ wx, Calls Try.prog 147 #[.agg (W4 d), .agg (W4 f), .agg (W4 m)] wx (Ret wx (.tuple #[.agg (W4 v), .bool true])) from fun wx => by have h := worthU hd hf hm wx; rw [← hv, hg] at h; exact h)
      have q0 : ∀ wx, (Op.equalIn 10000 31 (.agg (W4 m)) (.agg #[.int .u64 0, .int .u64 0, .int .u64 0, .int .u64 0])).run Try.prog wx = .ok true wx := fun wx => by rw [eqU0 hm, decide_eq_true m0]
      clear hv hg m0
      go_enter Try.func148, Try.ntmps148
      apply wp_seq_eq
      focus
        intro J hJ
        go_wp2_with fail
        exact hJ
      refine wp_abs (Mem w [(w.heap.size, 31, W4 d), (w.heap.size + 1, 31, W4 f), (w.heap.size + 1 + 1, 31, W4 m), (w.heap.size + 1 + 1 + 1, 31, W4 x), (w.heap.size + 1 + 1 + 1 + 1, 31, arr .u64 (fun _ => 0) 4)]) ⟨by go_grown, ?_, ?_, ?_, ?_, ?_, trivial⟩ ?_
      · repeat (first | (refine Row.new_at ?_; simp; done) | refine Row.alloc ?_ _)
      · repeat (first | (refine Row.new_at ?_; simp; done) | refine Row.alloc ?_ _)
      · repeat (first | (refine Row.new_at ?_; simp; done) | refine Row.alloc ?_ _)
      · repeat (first | (refine Row.new_at ?_; simp; done) | refine Row.alloc ?_ _)
      · repeat (first | (refine Row.new_at ?_; simp; done) | refine Row.alloc ?_ _)
      intro w0 hM
      obtain ⟨hl, r0, r1, r2, r3, r4, -⟩ := hM
      go_upto_region 1 with (fail)
      let L : List Sp := [sV 3 [] [] (fun u => u = .tuple #[.agg (W4 v), .bool true]), sA 7 31 [8] #[.int .u64 0, .int .u64 0, .int .u64 0, .int .u64 0], sT 8 7 31 [5] (fun g => aggOf g 5)]
      refine wp_region_six0 (shs L) (look6 L) (None_) (by kernel_rfl) (by kernel_rfl) (mk_St L [] [] (by kernel_rfl) (by kernel_rfl) ⟨ok_V ⟨_, rfl⟩, ok_A, ok_T aggOf_congr, trivial⟩ (by simp)) ?_
      intro QQ hQ
      -- 0: load<31> *t4
      refine stepK rfl (by kernel_rfl) (fun K hK => ?_); go_simp
      apply Exists.intro; apply And.intro; (focus exact kLoad rfl rfl aggT31 r0 rfl id); refine hK _ _ ?_; clear hK K
      -- 1: load<31> *t5
      refine stepK rfl (by kernel_rfl) (fun K hK => ?_); go_simp
      apply Exists.intro; apply And.intro; (focus exact kLoad rfl rfl aggT31 r1 rfl id); refine hK _ _ ?_; clear hK K
      -- 2: load<31> *t6
      refine stepK rfl (by kernel_rfl) (fun K hK => ?_); go_simp
      apply Exists.intro; apply And.intro; (focus exact kLoad rfl rfl aggT31 r2 rfl id); refine hK _ _ ?_; clear hK K
      -- 3: call F147(t14, t15, t16)
      refine stepS _ rfl (by kernel_rfl) (fun K hK => ?_); go_simp
      refine ⟨?_, ?_⟩
      · intro wk hk hg hu; go_simp; refine upon_enter ((k0.out _).mono ?_); rintro e w' ⟨rfl, hb⟩; exact ⟨_, rfl, left_V (p := fun u => u = .tuple #[.agg (W4 v), .bool true]) rfl (hb) rfl⟩
      rintro ⟨v3, lo3, hi3⟩ - - (rfl : v3 = _)
      refine hK _ _ ?_; clear hK K
      -- 4: t17
      refine stepK rfl (by kernel_rfl) (fun K hK => ?_); go_simp
      apply Exists.intro; apply And.intro; (focus (intro wk hk; go_simp; exact ⟨rfl, rfl⟩)); refine hK _ _ ?_; clear hK K
      -- 5: extract t13 #0
      refine stepK rfl (by kernel_rfl) (fun K hK => ?_); go_simp
      apply Exists.intro; apply And.intro; (focus (intro wk hk; go_simp; exact ⟨rfl, rfl⟩)); refine hK _ _ ?_; clear hK K
      -- 6: extract t13 #1
      refine stepK rfl (by kernel_rfl) (fun K hK => ?_); go_simp
      apply Exists.intro; apply And.intro; (focus (intro wk hk; go_simp; exact ⟨rfl, rfl⟩)); refine hK _ _ ?_; clear hK K
      -- 7: alloc<31>
      refine stepS _ rfl (by kernel_rfl) (fun K hK => ?_); go_simp
      refine ⟨?_, ?_⟩
      · intro wk hk hg hu; go_simp; exact left_A rfl rfl
      rintro ⟨v7, lo1_7, hi7⟩ hlo7 hhi7 ⟨e7, f7⟩
      replace e7 : v7 = .pointer (some ⟨lo1_7, 0, none⟩) := e7; replace f7 : hi7 = lo1_7 + 1 := f7; replace hlo7 : _ ≤ lo1_7 := hlo7; subst e7; subst f7
      refine hK _ _ ?_; clear hK K
      -- 8: store<31> *t10 = t18
      refine stepS _ rfl (by kernel_rfl) (fun K hK => ?_); go_simp
      refine ⟨?_, ?_⟩
      · exact sStoreT rfl rfl rfl rfl rfl rfl rfl (by kernel_rfl) rfl (by kernel_rfl) (by decide) aggOf_congr
      rintro ⟨v8, lo8, hi8⟩ - - (rfl : v8 = undef)
      refine hK _ _ ?_; clear hK K
      -- 9: assign t19
      refine stepK rfl (by kernel_rfl) (fun K hK => ?_); go_simp
      apply Exists.intro; apply And.intro; (focus (intro wk hk; go_simp; exact ⟨rfl, rfl⟩)); refine hK _ _ ?_; clear hK K
      refine stepN ?_
      refine hQ _ _ ?_
      intro w1 hT hG hF
      have nr5r0 : w.heap.size < lo1_7 := Nat.lt_of_lt_of_le r0.lt hlo7
      have nr5r1 : w.heap.size + 1 < lo1_7 := Nat.lt_of_lt_of_le r1.lt hlo7
      have nr5r2 : w.heap.size + 1 + 1 < lo1_7 := Nat.lt_of_lt_of_le r2.lt hlo7
      have nr5r3 : w.heap.size + 1 + 1 + 1 < lo1_7 := Nat.lt_of_lt_of_le r3.lt hlo7
      have nr5r4 : w.heap.size + 1 + 1 + 1 + 1 < lo1_7 := Nat.lt_of_lt_of_le r4.lt hlo7
      have hbw1 := hT.below
      have r5 : Row w1 lo1_7 31 ((W4 v)) := (hF 8 _ rfl rfl (by decide)).2
      replace r0 := r0.below hbw1 r0.lt
      replace r1 := r1.below hbw1 r1.lt
      replace r2 := r2.below hbw1 r2.lt
      replace r3 := r3.below hbw1 r3.lt
      replace r4 := r4.below hbw1 r4.lt
      replace hl := hl.trans (hbw1.mono hl.size)
      clear hT hG hF hbw1 hQ QQ L hlo7 hhi7
      go_upto_region 2 with (fail)
      let L : List Sp := []
      refine wp_region_six0 (shs L) (look6 L) (None_) (by kernel_rfl) (by kernel_rfl) (mk_St L [] [] (by kernel_rfl) (by kernel_rfl) trivial (by simp)) ?_
      intro QQ hQ
      -- 0: t11
      refine stepK rfl (by kernel_rfl) (fun K hK => ?_); go_simp
      apply Exists.intro; apply And.intro; (focus (intro wk hk; go_simp; exact ⟨rfl, rfl⟩)); refine hK _ _ ?_; clear hK K
      -- 1: not<4> t20
      refine stepK rfl (by kernel_rfl) (fun K hK => ?_); go_simp
      apply Exists.intro; apply And.intro; (focus (intro wk hk; go_simp; exact ⟨rfl, rfl⟩)); refine hK _ _ ?_; clear hK K
      -- 2: t21
      refine stepK rfl (by kernel_rfl) (fun K hK => ?_); go_simp
      apply Exists.intro; apply And.intro; (focus (intro wk hk; go_simp; exact ⟨rfl, rfl⟩)); refine hK _ _ ?_; clear hK K
      -- 3: load<31> *t6
      refine stepK rfl (by kernel_rfl) (fun K hK => ?_); go_simp
      first | (refine hK _ _ ?_; clear hK K) | (apply Exists.intro; apply And.intro; (focus exact kLoad rfl rfl aggT31 r2 rfl id); refine hK _ _ ?_; clear hK K)
      -- 4: build<31> 
      refine stepK rfl (by kernel_rfl) (fun K hK => ?_); go_simp
      first | (refine hK _ _ ?_; clear hK K) | (apply Exists.intro; apply And.intro; (focus (intro wk hk; go_simp; exact ⟨rfl, rfl⟩)); refine hK _ _ ?_; clear hK K)
      -- 5: eql<31> t23, t24
      refine stepK rfl (by kernel_rfl) (fun K hK => ?_); go_simp
      first | (refine hK _ _ ?_; clear hK K) | (apply Exists.intro; apply And.intro; (focus (intro wk hk; go_simp; exact ⟨rfl, rfl⟩)); refine hK _ _ ?_; clear hK K)
      -- 6: pick t22 ? true : t25
      refine stepK rfl (by kernel_rfl) (fun K hK => ?_); go_simp
      apply Exists.intro; apply And.intro; (focus (intro wk hk; go_simp; exact ⟨rfl, rfl⟩)); refine hK _ _ ?_; clear hK K
      -- 7: t26
      refine stepK rfl (by kernel_rfl) (fun K hK => ?_); go_simp
      apply Exists.intro; apply And.intro; (focus (intro wk hk; go_simp; exact ⟨rfl, rfl⟩)); refine hK _ _ ?_; clear hK K
      -- 8: load<31> *t7
      refine stepK rfl (by kernel_rfl) (fun K hK => ?_); go_simp
      first | (refine hK _ _ ?_; clear hK K) | (apply Exists.intro; apply And.intro; (focus (intro wk hk; go_simp; exact ⟨rfl, rfl⟩)); refine hK _ _ ?_; clear hK K)
      -- 9: build<31> 
      refine stepK rfl (by kernel_rfl) (fun K hK => ?_); go_simp
      first | (refine hK _ _ ?_; clear hK K) | (apply Exists.intro; apply And.intro; (focus (intro wk hk; go_simp; exact ⟨rfl, rfl⟩)); refine hK _ _ ?_; clear hK K)
      -- 10: eql<31> t28, t29
      refine stepK rfl (by kernel_rfl) (fun K hK => ?_); go_simp
      first | (refine hK _ _ ?_; clear hK K) | (apply Exists.intro; apply And.intro; (focus (intro wk hk; go_simp; exact ⟨rfl, rfl⟩)); refine hK _ _ ?_; clear hK K)
      -- 11: pick t27 ? true : t30
      refine stepK rfl (by kernel_rfl) (fun K hK => ?_); go_simp
      apply Exists.intro; apply And.intro; (focus (intro wk hk; go_simp; exact ⟨rfl, rfl⟩)); refine hK _ _ ?_; clear hK K
      refine stepN ?_
      refine hQ _ _ ?_
      intro w2 hT hG hF
      have hbw2 := hT.below
      replace r0 := r0.below hbw2 r0.lt
      replace r1 := r1.below hbw2 r1.lt
      replace r2 := r2.below hbw2 r2.lt
      replace r3 := r3.below hbw2 r3.lt
      replace r4 := r4.below hbw2 r4.lt
      replace r5 := r5.below hbw2 r5.lt
      replace hl := hl.trans (hbw2.mono hl.size)
      clear hT hG hF hbw2 hQ QQ L 
      go_upto_region 3 with (fail)
      let L : List Sp := [sO 1 (w.heap.size + 1 + 1 + 1 + 1) 31 [0] (fun g => aggOf g 0)]
      refine wp_region_six0 (shs L) (look6 L) (fun c => c = w.heap.size + 1 + 1 + 1 + 1) (by kernel_rfl) (by kernel_rfl) (mk_St L [1] [1] (by kernel_rfl) (by kernel_rfl) ⟨ok_O aggOf_congr r4.lt (rfl), trivial⟩ (by simp)) ?_
      intro QQ hQ
      -- 0: build<31> 
      refine stepK rfl (by kernel_rfl) (fun K hK => ?_); go_simp
      apply Exists.intro; apply And.intro; (focus (intro wk hk; go_simp; exact ⟨rfl, rfl⟩)); refine hK _ _ ?_; clear hK K
      -- 1: store<31> *t8 = t32
      refine stepS _ rfl (by kernel_rfl) (fun K hK => ?_); go_simp
      refine ⟨?_, ?_⟩
      · exact sStoreO rfl rfl rfl rfl rfl rfl r4 id (by kernel_rfl) rfl (by kernel_rfl) (by decide) aggOf_congr
      rintro ⟨v1, lo1, hi1⟩ - - (rfl : v1 = undef)
      refine hK _ _ ?_; clear hK K
      -- 2: assign false
      refine stepKz rfl (fun K hK => ?_); go_simp
      apply Exists.intro; apply And.intro; (focus (intro wk hk; go_simp; exact ⟨rfl, rfl⟩)); refine hK _ _ ?_; clear hK K
      refine stepN ?_
      refine hQ _ _ ?_
      intro w3 hT hG hF
      have hT' := hT
      have xr4 : Row w3 (w.heap.size + 1 + 1 + 1 + 1) 31 (W4 0) := Row.congr (show Row w3 (w.heap.size + 1 + 1 + 1 + 1) 31 _ from hF 1 _ rfl rfl (by decide)) W4_zero
      have hl9 : Below w.heap.size w w3 := hl.trans (hT'.below_of hl.size (by intro c hc; omega))
      replace r0 := K6.Row.tr r0 hT' (by show ¬ (w.heap.size = w.heap.size + 1 + 1 + 1 + 1); omega)
      replace r1 := K6.Row.tr r1 hT' (by show ¬ (w.heap.size + 1 = w.heap.size + 1 + 1 + 1 + 1); omega)
      replace r2 := K6.Row.tr r2 hT' (by show ¬ (w.heap.size + 1 + 1 = w.heap.size + 1 + 1 + 1 + 1); omega)
      replace r3 := K6.Row.tr r3 hT' (by show ¬ (w.heap.size + 1 + 1 + 1 = w.heap.size + 1 + 1 + 1 + 1); omega)
      replace r5 := K6.Row.tr r5 hT' (by show ¬ (lo1_7 = w.heap.size + 1 + 1 + 1 + 1); omega)
      clear hT hT' hG hF hQ QQ L hl r4
      have hl := hl9; clear hl9
      have r4 := xr4; clear xr4
      go_wp2_with fail
      refine bodyPost_ret (results_ct rfl aggT31 rfl r4 rfl) rfl ?_
      exact ⟨rfl, hl⟩
    · rw [decide_eq_true m0, Bool.true_and] at hE
      by_cases x0 : x = 0
      · rw [decide_eq_false (fun h => h x0), Bool.false_and] at hE
        rw [(hZ hE).1, (hZ hE).2]
        clear hE hO hZ hW hdm
        have k0 := Lib.hid (show ∀ wx, Calls Try.prog 147 #[.agg (W4 d), .agg (W4 f), .agg (W4 m)] wx (Ret wx (.tuple #[.agg (W4 v), .bool true])) from fun wx => by have h := worthU hd hf hm wx; rw [← hv, hg] at h; exact h)
        have q0 : ∀ wx, (Op.equalIn 10000 31 (.agg (W4 m)) (.agg #[.int .u64 0, .int .u64 0, .int .u64 0, .int .u64 0])).run Try.prog wx = .ok false wx := fun wx => by rw [eqU0 hm, decide_eq_false m0]
        have q1 : ∀ wx, (Op.equalIn 10000 31 (.agg (W4 x)) (.agg #[.int .u64 0, .int .u64 0, .int .u64 0, .int .u64 0])).run Try.prog wx = .ok true wx := fun wx => by rw [eqU0 hx, decide_eq_true x0]
        clear hv hg m0 x0
        go_enter Try.func148, Try.ntmps148
        apply wp_seq_eq
        focus
          intro J hJ
          go_wp2_with fail
          exact hJ
        refine wp_abs (Mem w [(w.heap.size, 31, W4 d), (w.heap.size + 1, 31, W4 f), (w.heap.size + 1 + 1, 31, W4 m), (w.heap.size + 1 + 1 + 1, 31, W4 x), (w.heap.size + 1 + 1 + 1 + 1, 31, arr .u64 (fun _ => 0) 4)]) ⟨by go_grown, ?_, ?_, ?_, ?_, ?_, trivial⟩ ?_
        · repeat (first | (refine Row.new_at ?_; simp; done) | refine Row.alloc ?_ _)
        · repeat (first | (refine Row.new_at ?_; simp; done) | refine Row.alloc ?_ _)
        · repeat (first | (refine Row.new_at ?_; simp; done) | refine Row.alloc ?_ _)
        · repeat (first | (refine Row.new_at ?_; simp; done) | refine Row.alloc ?_ _)
        · repeat (first | (refine Row.new_at ?_; simp; done) | refine Row.alloc ?_ _)
        intro w0 hM
        obtain ⟨hl, r0, r1, r2, r3, r4, -⟩ := hM
        go_upto_region 1 with (fail)
        let L : List Sp := [sV 3 [] [] (fun u => u = .tuple #[.agg (W4 v), .bool true]), sA 7 31 [8] #[.int .u64 0, .int .u64 0, .int .u64 0, .int .u64 0], sT 8 7 31 [5] (fun g => aggOf g 5)]
        refine wp_region_six0 (shs L) (look6 L) (None_) (by kernel_rfl) (by kernel_rfl) (mk_St L [] [] (by kernel_rfl) (by kernel_rfl) ⟨ok_V ⟨_, rfl⟩, ok_A, ok_T aggOf_congr, trivial⟩ (by simp)) ?_
        intro QQ hQ
        -- 0: load<31> *t4
        refine stepK rfl (by kernel_rfl) (fun K hK => ?_); go_simp
        apply Exists.intro; apply And.intro; (focus exact kLoad rfl rfl aggT31 r0 rfl id); refine hK _ _ ?_; clear hK K
        -- 1: load<31> *t5
        refine stepK rfl (by kernel_rfl) (fun K hK => ?_); go_simp
        apply Exists.intro; apply And.intro; (focus exact kLoad rfl rfl aggT31 r1 rfl id); refine hK _ _ ?_; clear hK K
        -- 2: load<31> *t6
        refine stepK rfl (by kernel_rfl) (fun K hK => ?_); go_simp
        apply Exists.intro; apply And.intro; (focus exact kLoad rfl rfl aggT31 r2 rfl id); refine hK _ _ ?_; clear hK K
        -- 3: call F147(t14, t15, t16)
        refine stepS _ rfl (by kernel_rfl) (fun K hK => ?_); go_simp
        refine ⟨?_, ?_⟩
        · intro wk hk hg hu; go_simp; refine upon_enter ((k0.out _).mono ?_); rintro e w' ⟨rfl, hb⟩; exact ⟨_, rfl, left_V (p := fun u => u = .tuple #[.agg (W4 v), .bool true]) rfl (hb) rfl⟩
        rintro ⟨v3, lo3, hi3⟩ - - (rfl : v3 = _)
        refine hK _ _ ?_; clear hK K
        -- 4: t17
        refine stepK rfl (by kernel_rfl) (fun K hK => ?_); go_simp
        apply Exists.intro; apply And.intro; (focus (intro wk hk; go_simp; exact ⟨rfl, rfl⟩)); refine hK _ _ ?_; clear hK K
        -- 5: extract t13 #0
        refine stepK rfl (by kernel_rfl) (fun K hK => ?_); go_simp
        apply Exists.intro; apply And.intro; (focus (intro wk hk; go_simp; exact ⟨rfl, rfl⟩)); refine hK _ _ ?_; clear hK K
        -- 6: extract t13 #1
        refine stepK rfl (by kernel_rfl) (fun K hK => ?_); go_simp
        apply Exists.intro; apply And.intro; (focus (intro wk hk; go_simp; exact ⟨rfl, rfl⟩)); refine hK _ _ ?_; clear hK K
        -- 7: alloc<31>
        refine stepS _ rfl (by kernel_rfl) (fun K hK => ?_); go_simp
        refine ⟨?_, ?_⟩
        · intro wk hk hg hu; go_simp; exact left_A rfl rfl
        rintro ⟨v7, lo1_7, hi7⟩ hlo7 hhi7 ⟨e7, f7⟩
        replace e7 : v7 = .pointer (some ⟨lo1_7, 0, none⟩) := e7; replace f7 : hi7 = lo1_7 + 1 := f7; replace hlo7 : _ ≤ lo1_7 := hlo7; subst e7; subst f7
        refine hK _ _ ?_; clear hK K
        -- 8: store<31> *t10 = t18
        refine stepS _ rfl (by kernel_rfl) (fun K hK => ?_); go_simp
        refine ⟨?_, ?_⟩
        · exact sStoreT rfl rfl rfl rfl rfl rfl rfl (by kernel_rfl) rfl (by kernel_rfl) (by decide) aggOf_congr
        rintro ⟨v8, lo8, hi8⟩ - - (rfl : v8 = undef)
        refine hK _ _ ?_; clear hK K
        -- 9: assign t19
        refine stepK rfl (by kernel_rfl) (fun K hK => ?_); go_simp
        apply Exists.intro; apply And.intro; (focus (intro wk hk; go_simp; exact ⟨rfl, rfl⟩)); refine hK _ _ ?_; clear hK K
        refine stepN ?_
        refine hQ _ _ ?_
        intro w1 hT hG hF
        have nr5r0 : w.heap.size < lo1_7 := Nat.lt_of_lt_of_le r0.lt hlo7
        have nr5r1 : w.heap.size + 1 < lo1_7 := Nat.lt_of_lt_of_le r1.lt hlo7
        have nr5r2 : w.heap.size + 1 + 1 < lo1_7 := Nat.lt_of_lt_of_le r2.lt hlo7
        have nr5r3 : w.heap.size + 1 + 1 + 1 < lo1_7 := Nat.lt_of_lt_of_le r3.lt hlo7
        have nr5r4 : w.heap.size + 1 + 1 + 1 + 1 < lo1_7 := Nat.lt_of_lt_of_le r4.lt hlo7
        have hbw1 := hT.below
        have r5 : Row w1 lo1_7 31 ((W4 v)) := (hF 8 _ rfl rfl (by decide)).2
        replace r0 := r0.below hbw1 r0.lt
        replace r1 := r1.below hbw1 r1.lt
        replace r2 := r2.below hbw1 r2.lt
        replace r3 := r3.below hbw1 r3.lt
        replace r4 := r4.below hbw1 r4.lt
        replace hl := hl.trans (hbw1.mono hl.size)
        clear hT hG hF hbw1 hQ QQ L hlo7 hhi7
        go_upto_region 2 with (fail)
        let L : List Sp := []
        refine wp_region_six0 (shs L) (look6 L) (None_) (by kernel_rfl) (by kernel_rfl) (mk_St L [] [] (by kernel_rfl) (by kernel_rfl) trivial (by simp)) ?_
        intro QQ hQ
        -- 0: t11
        refine stepK rfl (by kernel_rfl) (fun K hK => ?_); go_simp
        apply Exists.intro; apply And.intro; (focus (intro wk hk; go_simp; exact ⟨rfl, rfl⟩)); refine hK _ _ ?_; clear hK K
        -- 1: not<4> t20
        refine stepK rfl (by kernel_rfl) (fun K hK => ?_); go_simp
        apply Exists.intro; apply And.intro; (focus (intro wk hk; go_simp; exact ⟨rfl, rfl⟩)); refine hK _ _ ?_; clear hK K
        -- 2: t21
        refine stepK rfl (by kernel_rfl) (fun K hK => ?_); go_simp
        apply Exists.intro; apply And.intro; (focus (intro wk hk; go_simp; exact ⟨rfl, rfl⟩)); refine hK _ _ ?_; clear hK K
        -- 3: load<31> *t6
        refine stepK rfl (by kernel_rfl) (fun K hK => ?_); go_simp
        first | (refine hK _ _ ?_; clear hK K) | (apply Exists.intro; apply And.intro; (focus exact kLoad rfl rfl aggT31 r2 rfl id); refine hK _ _ ?_; clear hK K)
        -- 4: build<31> 
        refine stepK rfl (by kernel_rfl) (fun K hK => ?_); go_simp
        first | (refine hK _ _ ?_; clear hK K) | (apply Exists.intro; apply And.intro; (focus (intro wk hk; go_simp; exact ⟨rfl, rfl⟩)); refine hK _ _ ?_; clear hK K)
        -- 5: eql<31> t23, t24
        refine stepK rfl (by kernel_rfl) (fun K hK => ?_); go_simp
        first | (refine hK _ _ ?_; clear hK K) | (apply Exists.intro; apply And.intro; (focus (intro wk hk; go_simp; exact ⟨rfl, rfl⟩)); refine hK _ _ ?_; clear hK K)
        -- 6: pick t22 ? true : t25
        refine stepK rfl (by kernel_rfl) (fun K hK => ?_); go_simp
        apply Exists.intro; apply And.intro; (focus (intro wk hk; go_simp; exact ⟨rfl, rfl⟩)); refine hK _ _ ?_; clear hK K
        -- 7: t26
        refine stepK rfl (by kernel_rfl) (fun K hK => ?_); go_simp
        apply Exists.intro; apply And.intro; (focus (intro wk hk; go_simp; exact ⟨rfl, rfl⟩)); refine hK _ _ ?_; clear hK K
        -- 8: load<31> *t7
        refine stepK rfl (by kernel_rfl) (fun K hK => ?_); go_simp
        first | (refine hK _ _ ?_; clear hK K) | (apply Exists.intro; apply And.intro; (focus exact kLoad rfl rfl aggT31 r3 rfl id); refine hK _ _ ?_; clear hK K)
        -- 9: build<31> 
        refine stepK rfl (by kernel_rfl) (fun K hK => ?_); go_simp
        first | (refine hK _ _ ?_; clear hK K) | (apply Exists.intro; apply And.intro; (focus (intro wk hk; go_simp; exact ⟨rfl, rfl⟩)); refine hK _ _ ?_; clear hK K)
        -- 10: eql<31> t28, t29
        refine stepK rfl (by kernel_rfl) (fun K hK => ?_); go_simp
        first | (refine hK _ _ ?_; clear hK K) | (apply Exists.intro; apply And.intro; (focus (intro wk hk; go_simp; exact ⟨rfl, rfl⟩)); refine hK _ _ ?_; clear hK K)
        -- 11: pick t27 ? true : t30
        refine stepK rfl (by kernel_rfl) (fun K hK => ?_); go_simp
        apply Exists.intro; apply And.intro; (focus (intro wk hk; go_simp; exact ⟨rfl, rfl⟩)); refine hK _ _ ?_; clear hK K
        refine stepN ?_
        refine hQ _ _ ?_
        intro w2 hT hG hF
        have hbw2 := hT.below
        replace r0 := r0.below hbw2 r0.lt
        replace r1 := r1.below hbw2 r1.lt
        replace r2 := r2.below hbw2 r2.lt
        replace r3 := r3.below hbw2 r3.lt
        replace r4 := r4.below hbw2 r4.lt
        replace r5 := r5.below hbw2 r5.lt
        replace hl := hl.trans (hbw2.mono hl.size)
        clear hT hG hF hbw2 hQ QQ L 
        go_upto_region 3 with (fail)
        let L : List Sp := [sO 1 (w.heap.size + 1 + 1 + 1 + 1) 31 [0] (fun g => aggOf g 0)]
        refine wp_region_six0 (shs L) (look6 L) (fun c => c = w.heap.size + 1 + 1 + 1 + 1) (by kernel_rfl) (by kernel_rfl) (mk_St L [1] [1] (by kernel_rfl) (by kernel_rfl) ⟨ok_O aggOf_congr r4.lt (rfl), trivial⟩ (by simp)) ?_
        intro QQ hQ
        -- 0: build<31> 
        refine stepK rfl (by kernel_rfl) (fun K hK => ?_); go_simp
        apply Exists.intro; apply And.intro; (focus (intro wk hk; go_simp; exact ⟨rfl, rfl⟩)); refine hK _ _ ?_; clear hK K
        -- 1: store<31> *t8 = t32
        refine stepS _ rfl (by kernel_rfl) (fun K hK => ?_); go_simp
        refine ⟨?_, ?_⟩
        · exact sStoreO rfl rfl rfl rfl rfl rfl r4 id (by kernel_rfl) rfl (by kernel_rfl) (by decide) aggOf_congr
        rintro ⟨v1, lo1, hi1⟩ - - (rfl : v1 = undef)
        refine hK _ _ ?_; clear hK K
        -- 2: assign false
        refine stepKz rfl (fun K hK => ?_); go_simp
        apply Exists.intro; apply And.intro; (focus (intro wk hk; go_simp; exact ⟨rfl, rfl⟩)); refine hK _ _ ?_; clear hK K
        refine stepN ?_
        refine hQ _ _ ?_
        intro w3 hT hG hF
        have hT' := hT
        have xr4 : Row w3 (w.heap.size + 1 + 1 + 1 + 1) 31 (W4 0) := Row.congr (show Row w3 (w.heap.size + 1 + 1 + 1 + 1) 31 _ from hF 1 _ rfl rfl (by decide)) W4_zero
        have hl9 : Below w.heap.size w w3 := hl.trans (hT'.below_of hl.size (by intro c hc; omega))
        replace r0 := K6.Row.tr r0 hT' (by show ¬ (w.heap.size = w.heap.size + 1 + 1 + 1 + 1); omega)
        replace r1 := K6.Row.tr r1 hT' (by show ¬ (w.heap.size + 1 = w.heap.size + 1 + 1 + 1 + 1); omega)
        replace r2 := K6.Row.tr r2 hT' (by show ¬ (w.heap.size + 1 + 1 = w.heap.size + 1 + 1 + 1 + 1); omega)
        replace r3 := K6.Row.tr r3 hT' (by show ¬ (w.heap.size + 1 + 1 + 1 = w.heap.size + 1 + 1 + 1 + 1); omega)
        replace r5 := K6.Row.tr r5 hT' (by show ¬ (lo1_7 = w.heap.size + 1 + 1 + 1 + 1); omega)
        clear hT hT' hG hF hQ QQ L hl r4
        have hl := hl9; clear hl9
        have r4 := xr4; clear xr4
        go_wp2_with fail
        refine bodyPost_ret (results_ct rfl aggT31 rfl r4 rfl) rfl ?_
        exact ⟨rfl, hl⟩
      · rw [decide_eq_true x0, Bool.true_and] at hE
        by_cases hs : d + x < M
        · have hs1 : addN d x = d + x := if_pos hs
          have hs2 : addB d x = true := decide_eq_true hs
          obtain ⟨s, hse⟩ : ∃ s, s = d + x := ⟨_, rfl⟩
          rw [← hse] at hE hO hW hs hs1 hdm
          have sl : s < M := hs
          by_cases ha : s < M2
          · rw [decide_eq_true ha] at hE
            rw [(hO hE).1, (hO hE).2]
            have yl0 := hW ha
            have hy1 : addN v x = v + x := if_pos yl0
            have hy2 : addB v x = true := decide_eq_true yl0
            have hsm := hdm ha hg
            obtain ⟨y, hy⟩ : ∃ y, y = v + x := ⟨_, rfl⟩
            rw [← hy] at yl0 hy1 ⊢
            have yl : y < M := yl0
            have hfc := fun wx => factorU yl sl hm hsm wx
            obtain ⟨q, hq⟩ : ∃ q, q = fcN y (s * m) := ⟨_, rfl⟩
            obtain ⟨ok, hok⟩ : ∃ ok, ok = fcB y (s * m) := ⟨_, rfl⟩
            rw [← hq, ← hok] at hfc ⊢
            have ha2 : decide (s < M2) = true := decide_eq_true ha
            clear hE hO hZ hW hdm hs ha hsm hse hy hq hok yl0
            have k0 := Lib.hid (show ∀ wx, Calls Try.prog 147 #[.agg (W4 d), .agg (W4 f), .agg (W4 m)] wx (Ret wx (.tuple #[.agg (W4 v), .bool true])) from fun wx => by have h := worthU hd hf hm wx; rw [← hv, hg] at h; exact h)
            have k1 := Lib.hid (show ∀ wx, Calls Try.prog 46 #[.agg (W4 d), .agg (W4 x)] wx (Ret wx (.tuple #[.agg (W4 s), .bool true])) from fun wx => by have h := addU hd hx wx; rw [hs1, hs2] at h; exact h)
            have k2 := Lib.hid (show ∀ wx, Calls Try.prog 105 #[.agg (W4 s)] wx (Ret wx (.bool true)) from fun wx => by have h := amountU sl wx; rw [ha2] at h; exact h)
            have k3 := Lib.hid (show ∀ wx, Calls Try.prog 46 #[.agg (W4 v), .agg (W4 x)] wx (Ret wx (.tuple #[.agg (W4 y), .bool true])) from fun wx => by have h := addU vl hx wx; rw [hy1, hy2] at h; exact h)
            have k4 := Lib.hid (show ∀ wx, Calls Try.prog 223 #[.agg (W4 y), .agg (W4 s), .agg (W4 m)] wx (Ret wx (.tuple #[.agg (W4 q), .bool (ok)])) from fun wx => hfc wx)
            have q0 : ∀ wx, (Op.equalIn 10000 31 (.agg (W4 m)) (.agg #[.int .u64 0, .int .u64 0, .int .u64 0, .int .u64 0])).run Try.prog wx = .ok false wx := fun wx => by rw [eqU0 hm, decide_eq_false m0]
            have q1 : ∀ wx, (Op.equalIn 10000 31 (.agg (W4 x)) (.agg #[.int .u64 0, .int .u64 0, .int .u64 0, .int .u64 0])).run Try.prog wx = .ok false wx := fun wx => by rw [eqU0 hx, decide_eq_false x0]
            clear hv hg m0 x0 hs1 hs2 ha2 hy1 hy2 hfc
            go_enter Try.func148, Try.ntmps148
            apply wp_seq_eq
            focus
              intro J hJ
              go_wp2_with fail
              exact hJ
            refine wp_abs (Mem w [(w.heap.size, 31, W4 d), (w.heap.size + 1, 31, W4 f), (w.heap.size + 1 + 1, 31, W4 m), (w.heap.size + 1 + 1 + 1, 31, W4 x), (w.heap.size + 1 + 1 + 1 + 1, 31, arr .u64 (fun _ => 0) 4)]) ⟨by go_grown, ?_, ?_, ?_, ?_, ?_, trivial⟩ ?_
            · repeat (first | (refine Row.new_at ?_; simp; done) | refine Row.alloc ?_ _)
            · repeat (first | (refine Row.new_at ?_; simp; done) | refine Row.alloc ?_ _)
            · repeat (first | (refine Row.new_at ?_; simp; done) | refine Row.alloc ?_ _)
            · repeat (first | (refine Row.new_at ?_; simp; done) | refine Row.alloc ?_ _)
            · repeat (first | (refine Row.new_at ?_; simp; done) | refine Row.alloc ?_ _)
            intro w0 hM
            obtain ⟨hl, r0, r1, r2, r3, r4, -⟩ := hM
            go_upto_region 1 with (fail)
            let L : List Sp := [sV 3 [] [] (fun u => u = .tuple #[.agg (W4 v), .bool true]), sA 7 31 [8] #[.int .u64 0, .int .u64 0, .int .u64 0, .int .u64 0], sT 8 7 31 [5] (fun g => aggOf g 5)]
            refine wp_region_six0 (shs L) (look6 L) (None_) (by kernel_rfl) (by kernel_rfl) (mk_St L [] [] (by kernel_rfl) (by kernel_rfl) ⟨ok_V ⟨_, rfl⟩, ok_A, ok_T aggOf_congr, trivial⟩ (by simp)) ?_
            intro QQ hQ
            -- 0: load<31> *t4
            refine stepK rfl (by kernel_rfl) (fun K hK => ?_); go_simp
            apply Exists.intro; apply And.intro; (focus exact kLoad rfl rfl aggT31 r0 rfl id); refine hK _ _ ?_; clear hK K
            -- 1: load<31> *t5
            refine stepK rfl (by kernel_rfl) (fun K hK => ?_); go_simp
            apply Exists.intro; apply And.intro; (focus exact kLoad rfl rfl aggT31 r1 rfl id); refine hK _ _ ?_; clear hK K
            -- 2: load<31> *t6
            refine stepK rfl (by kernel_rfl) (fun K hK => ?_); go_simp
            apply Exists.intro; apply And.intro; (focus exact kLoad rfl rfl aggT31 r2 rfl id); refine hK _ _ ?_; clear hK K
            -- 3: call F147(t14, t15, t16)
            refine stepS _ rfl (by kernel_rfl) (fun K hK => ?_); go_simp
            refine ⟨?_, ?_⟩
            · intro wk hk hg hu; go_simp; refine upon_enter ((k0.out _).mono ?_); rintro e w' ⟨rfl, hb⟩; exact ⟨_, rfl, left_V (p := fun u => u = .tuple #[.agg (W4 v), .bool true]) rfl (hb) rfl⟩
            rintro ⟨v3, lo3, hi3⟩ - - (rfl : v3 = _)
            refine hK _ _ ?_; clear hK K
            -- 4: t17
            refine stepK rfl (by kernel_rfl) (fun K hK => ?_); go_simp
            apply Exists.intro; apply And.intro; (focus (intro wk hk; go_simp; exact ⟨rfl, rfl⟩)); refine hK _ _ ?_; clear hK K
            -- 5: extract t13 #0
            refine stepK rfl (by kernel_rfl) (fun K hK => ?_); go_simp
            apply Exists.intro; apply And.intro; (focus (intro wk hk; go_simp; exact ⟨rfl, rfl⟩)); refine hK _ _ ?_; clear hK K
            -- 6: extract t13 #1
            refine stepK rfl (by kernel_rfl) (fun K hK => ?_); go_simp
            apply Exists.intro; apply And.intro; (focus (intro wk hk; go_simp; exact ⟨rfl, rfl⟩)); refine hK _ _ ?_; clear hK K
            -- 7: alloc<31>
            refine stepS _ rfl (by kernel_rfl) (fun K hK => ?_); go_simp
            refine ⟨?_, ?_⟩
            · intro wk hk hg hu; go_simp; exact left_A rfl rfl
            rintro ⟨v7, lo1_7, hi7⟩ hlo7 hhi7 ⟨e7, f7⟩
            replace e7 : v7 = .pointer (some ⟨lo1_7, 0, none⟩) := e7; replace f7 : hi7 = lo1_7 + 1 := f7; replace hlo7 : _ ≤ lo1_7 := hlo7; subst e7; subst f7
            refine hK _ _ ?_; clear hK K
            -- 8: store<31> *t10 = t18
            refine stepS _ rfl (by kernel_rfl) (fun K hK => ?_); go_simp
            refine ⟨?_, ?_⟩
            · exact sStoreT rfl rfl rfl rfl rfl rfl rfl (by kernel_rfl) rfl (by kernel_rfl) (by decide) aggOf_congr
            rintro ⟨v8, lo8, hi8⟩ - - (rfl : v8 = undef)
            refine hK _ _ ?_; clear hK K
            -- 9: assign t19
            refine stepK rfl (by kernel_rfl) (fun K hK => ?_); go_simp
            apply Exists.intro; apply And.intro; (focus (intro wk hk; go_simp; exact ⟨rfl, rfl⟩)); refine hK _ _ ?_; clear hK K
            refine stepN ?_
            refine hQ _ _ ?_
            intro w1 hT hG hF
            have nr5r0 : w.heap.size < lo1_7 := Nat.lt_of_lt_of_le r0.lt hlo7
            have nr5r1 : w.heap.size + 1 < lo1_7 := Nat.lt_of_lt_of_le r1.lt hlo7
            have nr5r2 : w.heap.size + 1 + 1 < lo1_7 := Nat.lt_of_lt_of_le r2.lt hlo7
            have nr5r3 : w.heap.size + 1 + 1 + 1 < lo1_7 := Nat.lt_of_lt_of_le r3.lt hlo7
            have nr5r4 : w.heap.size + 1 + 1 + 1 + 1 < lo1_7 := Nat.lt_of_lt_of_le r4.lt hlo7
            have hbw1 := hT.below
            have r5 : Row w1 lo1_7 31 ((W4 v)) := (hF 8 _ rfl rfl (by decide)).2
            replace r0 := r0.below hbw1 r0.lt
            replace r1 := r1.below hbw1 r1.lt
            replace r2 := r2.below hbw1 r2.lt
            replace r3 := r3.below hbw1 r3.lt
            replace r4 := r4.below hbw1 r4.lt
            replace hl := hl.trans (hbw1.mono hl.size)
            clear hT hG hF hbw1 hQ QQ L hlo7 hhi7
            go_upto_region 2 with (fail)
            let L : List Sp := []
            refine wp_region_six0 (shs L) (look6 L) (None_) (by kernel_rfl) (by kernel_rfl) (mk_St L [] [] (by kernel_rfl) (by kernel_rfl) trivial (by simp)) ?_
            intro QQ hQ
            -- 0: t11
            refine stepK rfl (by kernel_rfl) (fun K hK => ?_); go_simp
            apply Exists.intro; apply And.intro; (focus (intro wk hk; go_simp; exact ⟨rfl, rfl⟩)); refine hK _ _ ?_; clear hK K
            -- 1: not<4> t20
            refine stepK rfl (by kernel_rfl) (fun K hK => ?_); go_simp
            apply Exists.intro; apply And.intro; (focus (intro wk hk; go_simp; exact ⟨rfl, rfl⟩)); refine hK _ _ ?_; clear hK K
            -- 2: t21
            refine stepK rfl (by kernel_rfl) (fun K hK => ?_); go_simp
            apply Exists.intro; apply And.intro; (focus (intro wk hk; go_simp; exact ⟨rfl, rfl⟩)); refine hK _ _ ?_; clear hK K
            -- 3: load<31> *t6
            refine stepK rfl (by kernel_rfl) (fun K hK => ?_); go_simp
            first | (refine hK _ _ ?_; clear hK K) | (apply Exists.intro; apply And.intro; (focus exact kLoad rfl rfl aggT31 r2 rfl id); refine hK _ _ ?_; clear hK K)
            -- 4: build<31> 
            refine stepK rfl (by kernel_rfl) (fun K hK => ?_); go_simp
            first | (refine hK _ _ ?_; clear hK K) | (apply Exists.intro; apply And.intro; (focus (intro wk hk; go_simp; exact ⟨rfl, rfl⟩)); refine hK _ _ ?_; clear hK K)
            -- 5: eql<31> t23, t24
            refine stepK rfl (by kernel_rfl) (fun K hK => ?_); go_simp
            first | (refine hK _ _ ?_; clear hK K) | (apply Exists.intro; apply And.intro; (focus (intro wk hk; go_simp; exact ⟨rfl, rfl⟩)); refine hK _ _ ?_; clear hK K)
            -- 6: pick t22 ? true : t25
            refine stepK rfl (by kernel_rfl) (fun K hK => ?_); go_simp
            apply Exists.intro; apply And.intro; (focus (intro wk hk; go_simp; exact ⟨rfl, rfl⟩)); refine hK _ _ ?_; clear hK K
            -- 7: t26
            refine stepK rfl (by kernel_rfl) (fun K hK => ?_); go_simp
            apply Exists.intro; apply And.intro; (focus (intro wk hk; go_simp; exact ⟨rfl, rfl⟩)); refine hK _ _ ?_; clear hK K
            -- 8: load<31> *t7
            refine stepK rfl (by kernel_rfl) (fun K hK => ?_); go_simp
            first | (refine hK _ _ ?_; clear hK K) | (apply Exists.intro; apply And.intro; (focus exact kLoad rfl rfl aggT31 r3 rfl id); refine hK _ _ ?_; clear hK K)
            -- 9: build<31> 
            refine stepK rfl (by kernel_rfl) (fun K hK => ?_); go_simp
            first | (refine hK _ _ ?_; clear hK K) | (apply Exists.intro; apply And.intro; (focus (intro wk hk; go_simp; exact ⟨rfl, rfl⟩)); refine hK _ _ ?_; clear hK K)
            -- 10: eql<31> t28, t29
            refine stepK rfl (by kernel_rfl) (fun K hK => ?_); go_simp
            first | (refine hK _ _ ?_; clear hK K) | (apply Exists.intro; apply And.intro; (focus (intro wk hk; go_simp; exact ⟨rfl, rfl⟩)); refine hK _ _ ?_; clear hK K)
            -- 11: pick t27 ? true : t30
            refine stepK rfl (by kernel_rfl) (fun K hK => ?_); go_simp
            apply Exists.intro; apply And.intro; (focus (intro wk hk; go_simp; exact ⟨rfl, rfl⟩)); refine hK _ _ ?_; clear hK K
            refine stepN ?_
            refine hQ _ _ ?_
            intro w2 hT hG hF
            have hbw2 := hT.below
            replace r0 := r0.below hbw2 r0.lt
            replace r1 := r1.below hbw2 r1.lt
            replace r2 := r2.below hbw2 r2.lt
            replace r3 := r3.below hbw2 r3.lt
            replace r4 := r4.below hbw2 r4.lt
            replace r5 := r5.below hbw2 r5.lt
            replace hl := hl.trans (hbw2.mono hl.size)
            clear hT hG hF hbw2 hQ QQ L 
            go_upto_region 4 with (fail)
            let L : List Sp := [sV 2 [] [] (fun u => u = .tuple #[.agg (W4 s), .bool true]), sA 6 31 [7] #[.int .u64 0, .int .u64 0, .int .u64 0, .int .u64 0], sT 7 6 31 [4] (fun g => aggOf g 4)]
            refine wp_region_six0 (shs L) (look6 L) (None_) (by kernel_rfl) (by kernel_rfl) (mk_St L [] [] (by kernel_rfl) (by kernel_rfl) ⟨ok_V ⟨_, rfl⟩, ok_A, ok_T aggOf_congr, trivial⟩ (by simp)) ?_
            intro QQ hQ
            -- 0: load<31> *t4
            refine stepK rfl (by kernel_rfl) (fun K hK => ?_); go_simp
            apply Exists.intro; apply And.intro; (focus exact kLoad rfl rfl aggT31 r0 rfl id); refine hK _ _ ?_; clear hK K
            -- 1: load<31> *t7
            refine stepK rfl (by kernel_rfl) (fun K hK => ?_); go_simp
            apply Exists.intro; apply And.intro; (focus exact kLoad rfl rfl aggT31 r3 rfl id); refine hK _ _ ?_; clear hK K
            -- 2: call F46(t34, t35)
            refine stepS _ rfl (by kernel_rfl) (fun K hK => ?_); go_simp
            refine ⟨?_, ?_⟩
            · intro wk hk hg hu; go_simp; refine upon_enter ((k1.out _).mono ?_); rintro e w' ⟨rfl, hb⟩; exact ⟨_, rfl, left_V (p := fun u => u = .tuple #[.agg (W4 s), .bool true]) rfl (hb) rfl⟩
            rintro ⟨v2, lo2, hi2⟩ - - (rfl : v2 = _)
            refine hK _ _ ?_; clear hK K
            -- 3: t36
            refine stepK rfl (by kernel_rfl) (fun K hK => ?_); go_simp
            apply Exists.intro; apply And.intro; (focus (intro wk hk; go_simp; exact ⟨rfl, rfl⟩)); refine hK _ _ ?_; clear hK K
            -- 4: extract t33 #0
            refine stepK rfl (by kernel_rfl) (fun K hK => ?_); go_simp
            apply Exists.intro; apply And.intro; (focus (intro wk hk; go_simp; exact ⟨rfl, rfl⟩)); refine hK _ _ ?_; clear hK K
            -- 5: extract t33 #1
            refine stepK rfl (by kernel_rfl) (fun K hK => ?_); go_simp
            apply Exists.intro; apply And.intro; (focus (intro wk hk; go_simp; exact ⟨rfl, rfl⟩)); refine hK _ _ ?_; clear hK K
            -- 6: alloc<31>
            refine stepS _ rfl (by kernel_rfl) (fun K hK => ?_); go_simp
            refine ⟨?_, ?_⟩
            · intro wk hk hg hu; go_simp; exact left_A rfl rfl
            rintro ⟨v6, lo4_6, hi6⟩ hlo6 hhi6 ⟨e6, f6⟩
            replace e6 : v6 = .pointer (some ⟨lo4_6, 0, none⟩) := e6; replace f6 : hi6 = lo4_6 + 1 := f6; replace hlo6 : _ ≤ lo4_6 := hlo6; subst e6; subst f6
            refine hK _ _ ?_; clear hK K
            -- 7: store<31> *t12 = t37
            refine stepS _ rfl (by kernel_rfl) (fun K hK => ?_); go_simp
            refine ⟨?_, ?_⟩
            · exact sStoreT rfl rfl rfl rfl rfl rfl rfl (by kernel_rfl) rfl (by kernel_rfl) (by decide) aggOf_congr
            rintro ⟨v7, lo7, hi7⟩ - - (rfl : v7 = undef)
            refine hK _ _ ?_; clear hK K
            -- 8: assign t38
            refine stepK rfl (by kernel_rfl) (fun K hK => ?_); go_simp
            apply Exists.intro; apply And.intro; (focus (intro wk hk; go_simp; exact ⟨rfl, rfl⟩)); refine hK _ _ ?_; clear hK K
            refine stepN ?_
            refine hQ _ _ ?_
            intro w3 hT hG hF
            have nr6r0 : w.heap.size < lo4_6 := Nat.lt_of_lt_of_le r0.lt hlo6
            have nr6r1 : w.heap.size + 1 < lo4_6 := Nat.lt_of_lt_of_le r1.lt hlo6
            have nr6r2 : w.heap.size + 1 + 1 < lo4_6 := Nat.lt_of_lt_of_le r2.lt hlo6
            have nr6r3 : w.heap.size + 1 + 1 + 1 < lo4_6 := Nat.lt_of_lt_of_le r3.lt hlo6
            have nr6r4 : w.heap.size + 1 + 1 + 1 + 1 < lo4_6 := Nat.lt_of_lt_of_le r4.lt hlo6
            have nr6r5 : lo1_7 < lo4_6 := Nat.lt_of_lt_of_le r5.lt hlo6
            have hbw3 := hT.below
            have r6 : Row w3 lo4_6 31 ((W4 s)) := (hF 7 _ rfl rfl (by decide)).2
            replace r0 := r0.below hbw3 r0.lt
            replace r1 := r1.below hbw3 r1.lt
            replace r2 := r2.below hbw3 r2.lt
            replace r3 := r3.below hbw3 r3.lt
            replace r4 := r4.below hbw3 r4.lt
            replace r5 := r5.below hbw3 r5.lt
            replace hl := hl.trans (hbw3.mono hl.size)
            clear hT hG hF hbw3 hQ QQ L hlo6 hhi6
            go_upto_region 5 with (fail)
            let L : List Sp := [sV 4 [] [] (fun u => u = .bool true)]
            refine wp_region_six0 (shs L) (look6 L) (None_) (by kernel_rfl) (by kernel_rfl) (mk_St L [] [] (by kernel_rfl) (by kernel_rfl) ⟨ok_V ⟨_, rfl⟩, trivial⟩ (by simp)) ?_
            intro QQ hQ
            -- 0: t11
            refine stepK rfl (by kernel_rfl) (fun K hK => ?_); go_simp
            apply Exists.intro; apply And.intro; (focus (intro wk hk; go_simp; exact ⟨rfl, rfl⟩)); refine hK _ _ ?_; clear hK K
            -- 1: not<4> t39
            refine stepK rfl (by kernel_rfl) (fun K hK => ?_); go_simp
            apply Exists.intro; apply And.intro; (focus (intro wk hk; go_simp; exact ⟨rfl, rfl⟩)); refine hK _ _ ?_; clear hK K
            -- 2: t40
            refine stepK rfl (by kernel_rfl) (fun K hK => ?_); go_simp
            apply Exists.intro; apply And.intro; (focus (intro wk hk; go_simp; exact ⟨rfl, rfl⟩)); refine hK _ _ ?_; clear hK K
            -- 3: load<31> *t12
            refine stepK rfl (by kernel_rfl) (fun K hK => ?_); go_simp
            first | (refine hK _ _ ?_; clear hK K) | (apply Exists.intro; apply And.intro; (focus exact kLoad rfl rfl aggT31 r6 rfl id); refine hK _ _ ?_; clear hK K)
            -- 4: call F105(t42)
            refine stepS _ rfl (by kernel_rfl) (fun K hK => ?_); go_simp
            refine ⟨?_, ?_⟩
            · intro wk hk hg hu; go_simp; refine upon_enter ((k2.out _).mono ?_); rintro e w' ⟨rfl, hb⟩; exact ⟨_, rfl, left_V (p := fun u => u = .bool true) rfl (hb) rfl⟩
            rintro ⟨v4, lo4, hi4⟩ - - (rfl : v4 = _)
            refine hK _ _ ?_; clear hK K
            -- 5: not<4> t43
            refine stepK rfl (by kernel_rfl) (fun K hK => ?_); go_simp
            first | (refine hK _ _ ?_; clear hK K) | (apply Exists.intro; apply And.intro; (focus (intro wk hk; go_simp; exact ⟨rfl, rfl⟩)); refine hK _ _ ?_; clear hK K)
            -- 6: pick t41 ? true : t44
            refine stepK rfl (by kernel_rfl) (fun K hK => ?_); go_simp
            apply Exists.intro; apply And.intro; (focus (intro wk hk; go_simp; exact ⟨rfl, rfl⟩)); refine hK _ _ ?_; clear hK K
            refine stepN ?_
            refine hQ _ _ ?_
            intro w4 hT hG hF
            have hbw4 := hT.below
            replace r0 := r0.below hbw4 r0.lt
            replace r1 := r1.below hbw4 r1.lt
            replace r2 := r2.below hbw4 r2.lt
            replace r3 := r3.below hbw4 r3.lt
            replace r4 := r4.below hbw4 r4.lt
            replace r5 := r5.below hbw4 r5.lt
            replace r6 := r6.below hbw4 r6.lt
            replace hl := hl.trans (hbw4.mono hl.size)
            clear hT hG hF hbw4 hQ QQ L 
            go_upto_region 7 with (fail)
            let L : List Sp := [sV 2 [] [] (fun u => u = .tuple #[.agg (W4 y), .bool true]), sO 6 (lo1_7) 31 [4] (fun g => aggOf g 4)]
            refine wp_region_six0 (shs L) (look6 L) (fun c => c = lo1_7) (by kernel_rfl) (by kernel_rfl) (mk_St L [6] [6] (by kernel_rfl) (by kernel_rfl) ⟨ok_V ⟨_, rfl⟩, ok_O aggOf_congr r5.lt (rfl), trivial⟩ (by simp)) ?_
            intro QQ hQ
            -- 0: load<31> *t10
            refine stepK rfl (by kernel_rfl) (fun K hK => ?_); go_simp
            apply Exists.intro; apply And.intro; (focus exact kLoad rfl rfl aggT31 r5 rfl (by first | exact id | (intro hx; have hx' : _ = _ ∨ _ = _ := hx; omega) | (intro hx; have hx' : _ = _ := hx; omega) | omega)); refine hK _ _ ?_; clear hK K
            -- 1: load<31> *t7
            refine stepK rfl (by kernel_rfl) (fun K hK => ?_); go_simp
            apply Exists.intro; apply And.intro; (focus exact kLoad rfl rfl aggT31 r3 rfl (by first | exact id | (intro hx; have hx' : _ = _ ∨ _ = _ := hx; omega) | (intro hx; have hx' : _ = _ := hx; omega) | omega)); refine hK _ _ ?_; clear hK K
            -- 2: call F46(t48, t49)
            refine stepS _ rfl (by kernel_rfl) (fun K hK => ?_); go_simp
            refine ⟨?_, ?_⟩
            · intro wk hk hg hu; go_simp; refine upon_enter ((k3.out _).mono ?_); rintro e w' ⟨rfl, hb⟩; exact ⟨_, rfl, left_V (p := fun u => u = .tuple #[.agg (W4 y), .bool true]) rfl (hb) rfl⟩
            rintro ⟨v2, lo2, hi2⟩ - - (rfl : v2 = _)
            refine hK _ _ ?_; clear hK K
            -- 3: t50
            refine stepK rfl (by kernel_rfl) (fun K hK => ?_); go_simp
            apply Exists.intro; apply And.intro; (focus (intro wk hk; go_simp; exact ⟨rfl, rfl⟩)); refine hK _ _ ?_; clear hK K
            -- 4: extract t47 #0
            refine stepK rfl (by kernel_rfl) (fun K hK => ?_); go_simp
            apply Exists.intro; apply And.intro; (focus (intro wk hk; go_simp; exact ⟨rfl, rfl⟩)); refine hK _ _ ?_; clear hK K
            -- 5: extract t47 #1
            refine stepKz rfl (fun K hK => ?_); go_simp
            apply Exists.intro; apply And.intro; (focus (intro wk hk; go_simp; exact ⟨rfl, rfl⟩)); refine hK _ _ ?_; clear hK K
            -- 6: store<31> *t10 = t51
            refine stepS _ rfl (by kernel_rfl) (fun K hK => ?_); go_simp
            refine ⟨?_, ?_⟩
            · exact sStoreO rfl rfl rfl rfl rfl rfl r5 id (by kernel_rfl) rfl (by kernel_rfl) (by decide) aggOf_congr
            rintro ⟨v6, lo6, hi6⟩ - - (rfl : v6 = undef)
            refine hK _ _ ?_; clear hK K
            refine stepN ?_
            refine hQ _ _ ?_
            intro w5 hT hG hF
            have hT' := hT
            have xr5 : Row w5 (lo1_7) 31 ((W4 y)) := hF 6 _ rfl rfl (by decide)
            have hl9 : Below w.heap.size w w5 := hl.trans (hT'.below_of hl.size (by intro c hc; omega))
            replace r0 := K6.Row.tr r0 hT' (by show ¬ (w.heap.size = lo1_7); omega)
            replace r1 := K6.Row.tr r1 hT' (by show ¬ (w.heap.size + 1 = lo1_7); omega)
            replace r2 := K6.Row.tr r2 hT' (by show ¬ (w.heap.size + 1 + 1 = lo1_7); omega)
            replace r3 := K6.Row.tr r3 hT' (by show ¬ (w.heap.size + 1 + 1 + 1 = lo1_7); omega)
            replace r4 := K6.Row.tr r4 hT' (by show ¬ (w.heap.size + 1 + 1 + 1 + 1 = lo1_7); omega)
            replace r6 := K6.Row.tr r6 hT' (by show ¬ (lo4_6 = lo1_7); omega)
            clear hT hT' hG hF hQ QQ L hl r5
            have hl := hl9; clear hl9
            have r5 := xr5; clear xr5
            go_upto_region 8 with (fail)
            let L : List Sp := [sV 3 [] [] (fun u => u = .tuple #[.agg (W4 q), .bool (ok)]), sO 6 (w.heap.size + 1 + 1 + 1 + 1) 31 [4] (fun g => aggOf g 4)]
            refine wp_region_six0 (shs L) (look6 L) (fun c => c = w.heap.size + 1 + 1 + 1 + 1) (by kernel_rfl) (by kernel_rfl) (mk_St L [6] [6] (by kernel_rfl) (by kernel_rfl) ⟨ok_V ⟨_, rfl⟩, ok_O aggOf_congr r4.lt (rfl), trivial⟩ (by simp)) ?_
            intro QQ hQ
            -- 0: load<31> *t10
            refine stepK rfl (by kernel_rfl) (fun K hK => ?_); go_simp
            apply Exists.intro; apply And.intro; (focus exact kLoad rfl rfl aggT31 r5 rfl (by first | exact id | (intro hx; have hx' : _ = _ ∨ _ = _ := hx; omega) | (intro hx; have hx' : _ = _ := hx; omega) | omega)); refine hK _ _ ?_; clear hK K
            -- 1: load<31> *t12
            refine stepK rfl (by kernel_rfl) (fun K hK => ?_); go_simp
            apply Exists.intro; apply And.intro; (focus exact kLoad rfl rfl aggT31 r6 rfl (by first | exact id | (intro hx; have hx' : _ = _ ∨ _ = _ := hx; omega) | (intro hx; have hx' : _ = _ := hx; omega) | omega)); refine hK _ _ ?_; clear hK K
            -- 2: load<31> *t6
            refine stepK rfl (by kernel_rfl) (fun K hK => ?_); go_simp
            apply Exists.intro; apply And.intro; (focus exact kLoad rfl rfl aggT31 r2 rfl (by first | exact id | (intro hx; have hx' : _ = _ ∨ _ = _ := hx; omega) | (intro hx; have hx' : _ = _ := hx; omega) | omega)); refine hK _ _ ?_; clear hK K
            -- 3: call F223(t53, t54, t55)
            refine stepS _ rfl (by kernel_rfl) (fun K hK => ?_); go_simp
            refine ⟨?_, ?_⟩
            · intro wk hk hg hu; go_simp; refine upon_enter ((k4.out _).mono ?_); rintro e w' ⟨rfl, hb⟩; exact ⟨_, rfl, left_V (p := fun u => u = .tuple #[.agg (W4 q), .bool (ok)]) rfl (hb) rfl⟩
            rintro ⟨v3, lo3, hi3⟩ - - (rfl : v3 = _)
            refine hK _ _ ?_; clear hK K
            -- 4: extract t56 #0
            refine stepK rfl (by kernel_rfl) (fun K hK => ?_); go_simp
            apply Exists.intro; apply And.intro; (focus (intro wk hk; go_simp; exact ⟨rfl, rfl⟩)); refine hK _ _ ?_; clear hK K
            -- 5: extract t56 #1
            refine stepK rfl (by kernel_rfl) (fun K hK => ?_); go_simp
            apply Exists.intro; apply And.intro; (focus (intro wk hk; go_simp; exact ⟨rfl, rfl⟩)); refine hK _ _ ?_; clear hK K
            -- 6: store<31> *t8 = t57
            refine stepS _ rfl (by kernel_rfl) (fun K hK => ?_); go_simp
            refine ⟨?_, ?_⟩
            · exact sStoreO rfl rfl rfl rfl rfl rfl r4 id (by kernel_rfl) rfl (by kernel_rfl) (by decide) aggOf_congr
            rintro ⟨v6, lo6, hi6⟩ - - (rfl : v6 = undef)
            refine hK _ _ ?_; clear hK K
            -- 7: assign t58
            refine stepKz rfl (fun K hK => ?_); go_simp
            apply Exists.intro; apply And.intro; (focus (intro wk hk; go_simp; exact ⟨rfl, rfl⟩)); refine hK _ _ ?_; clear hK K
            refine stepN ?_
            refine hQ _ _ ?_
            intro w6 hT hG hF
            have hT' := hT
            have xr4 : Row w6 (w.heap.size + 1 + 1 + 1 + 1) 31 ((W4 q)) := hF 6 _ rfl rfl (by decide)
            have hl9 : Below w.heap.size w w6 := hl.trans (hT'.below_of hl.size (by intro c hc; omega))
            replace r0 := K6.Row.tr r0 hT' (by show ¬ (w.heap.size = w.heap.size + 1 + 1 + 1 + 1); omega)
            replace r1 := K6.Row.tr r1 hT' (by show ¬ (w.heap.size + 1 = w.heap.size + 1 + 1 + 1 + 1); omega)
            replace r2 := K6.Row.tr r2 hT' (by show ¬ (w.heap.size + 1 + 1 = w.heap.size + 1 + 1 + 1 + 1); omega)
            replace r3 := K6.Row.tr r3 hT' (by show ¬ (w.heap.size + 1 + 1 + 1 = w.heap.size + 1 + 1 + 1 + 1); omega)
            replace r5 := K6.Row.tr r5 hT' (by show ¬ (lo1_7 = w.heap.size + 1 + 1 + 1 + 1); omega)
            replace r6 := K6.Row.tr r6 hT' (by show ¬ (lo4_6 = w.heap.size + 1 + 1 + 1 + 1); omega)
            clear hT hT' hG hF hQ QQ L hl r4
            have hl := hl9; clear hl9
            have r4 := xr4; clear xr4
            go_wp2_with fail
            refine bodyPost_ret (results_ct rfl aggT31 rfl r4 rfl) rfl ?_
            exact ⟨rfl, hl⟩
          · rw [decide_eq_false ha] at hE
            rw [(hZ hE).1, (hZ hE).2]
            have ha2 : decide (s < M2) = false := decide_eq_false ha
            clear hE hO hZ hW hdm hs ha hse
            have k0 := Lib.hid (show ∀ wx, Calls Try.prog 147 #[.agg (W4 d), .agg (W4 f), .agg (W4 m)] wx (Ret wx (.tuple #[.agg (W4 v), .bool true])) from fun wx => by have h := worthU hd hf hm wx; rw [← hv, hg] at h; exact h)
            have k1 := Lib.hid (show ∀ wx, Calls Try.prog 46 #[.agg (W4 d), .agg (W4 x)] wx (Ret wx (.tuple #[.agg (W4 s), .bool true])) from fun wx => by have h := addU hd hx wx; rw [hs1, hs2] at h; exact h)
            have k2 := Lib.hid (show ∀ wx, Calls Try.prog 105 #[.agg (W4 s)] wx (Ret wx (.bool false)) from fun wx => by have h := amountU sl wx; rw [ha2] at h; exact h)
            have q0 : ∀ wx, (Op.equalIn 10000 31 (.agg (W4 m)) (.agg #[.int .u64 0, .int .u64 0, .int .u64 0, .int .u64 0])).run Try.prog wx = .ok false wx := fun wx => by rw [eqU0 hm, decide_eq_false m0]
            have q1 : ∀ wx, (Op.equalIn 10000 31 (.agg (W4 x)) (.agg #[.int .u64 0, .int .u64 0, .int .u64 0, .int .u64 0])).run Try.prog wx = .ok false wx := fun wx => by rw [eqU0 hx, decide_eq_false x0]
            clear hv hg m0 x0 hs1 hs2 ha2
            go_enter Try.func148, Try.ntmps148
            apply wp_seq_eq
            focus
              intro J hJ
              go_wp2_with fail
              exact hJ
            refine wp_abs (Mem w [(w.heap.size, 31, W4 d), (w.heap.size + 1, 31, W4 f), (w.heap.size + 1 + 1, 31, W4 m), (w.heap.size + 1 + 1 + 1, 31, W4 x), (w.heap.size + 1 + 1 + 1 + 1, 31, arr .u64 (fun _ => 0) 4)]) ⟨by go_grown, ?_, ?_, ?_, ?_, ?_, trivial⟩ ?_
            · repeat (first | (refine Row.new_at ?_; simp; done) | refine Row.alloc ?_ _)
            · repeat (first | (refine Row.new_at ?_; simp; done) | refine Row.alloc ?_ _)
            · repeat (first | (refine Row.new_at ?_; simp; done) | refine Row.alloc ?_ _)
            · repeat (first | (refine Row.new_at ?_; simp; done) | refine Row.alloc ?_ _)
            · repeat (first | (refine Row.new_at ?_; simp; done) | refine Row.alloc ?_ _)
            intro w0 hM
            obtain ⟨hl, r0, r1, r2, r3, r4, -⟩ := hM
            go_upto_region 1 with (fail)
            let L : List Sp := [sV 3 [] [] (fun u => u = .tuple #[.agg (W4 v), .bool true]), sA 7 31 [8] #[.int .u64 0, .int .u64 0, .int .u64 0, .int .u64 0], sT 8 7 31 [5] (fun g => aggOf g 5)]
            refine wp_region_six0 (shs L) (look6 L) (None_) (by kernel_rfl) (by kernel_rfl) (mk_St L [] [] (by kernel_rfl) (by kernel_rfl) ⟨ok_V ⟨_, rfl⟩, ok_A, ok_T aggOf_congr, trivial⟩ (by simp)) ?_
            intro QQ hQ
            -- 0: load<31> *t4
            refine stepK rfl (by kernel_rfl) (fun K hK => ?_); go_simp
            apply Exists.intro; apply And.intro; (focus exact kLoad rfl rfl aggT31 r0 rfl id); refine hK _ _ ?_; clear hK K
            -- 1: load<31> *t5
            refine stepK rfl (by kernel_rfl) (fun K hK => ?_); go_simp
            apply Exists.intro; apply And.intro; (focus exact kLoad rfl rfl aggT31 r1 rfl id); refine hK _ _ ?_; clear hK K
            -- 2: load<31> *t6
            refine stepK rfl (by kernel_rfl) (fun K hK => ?_); go_simp
            apply Exists.intro; apply And.intro; (focus exact kLoad rfl rfl aggT31 r2 rfl id); refine hK _ _ ?_; clear hK K
            -- 3: call F147(t14, t15, t16)
            refine stepS _ rfl (by kernel_rfl) (fun K hK => ?_); go_simp
            refine ⟨?_, ?_⟩
            · intro wk hk hg hu; go_simp; refine upon_enter ((k0.out _).mono ?_); rintro e w' ⟨rfl, hb⟩; exact ⟨_, rfl, left_V (p := fun u => u = .tuple #[.agg (W4 v), .bool true]) rfl (hb) rfl⟩
            rintro ⟨v3, lo3, hi3⟩ - - (rfl : v3 = _)
            refine hK _ _ ?_; clear hK K
            -- 4: t17
            refine stepK rfl (by kernel_rfl) (fun K hK => ?_); go_simp
            apply Exists.intro; apply And.intro; (focus (intro wk hk; go_simp; exact ⟨rfl, rfl⟩)); refine hK _ _ ?_; clear hK K
            -- 5: extract t13 #0
            refine stepK rfl (by kernel_rfl) (fun K hK => ?_); go_simp
            apply Exists.intro; apply And.intro; (focus (intro wk hk; go_simp; exact ⟨rfl, rfl⟩)); refine hK _ _ ?_; clear hK K
            -- 6: extract t13 #1
            refine stepK rfl (by kernel_rfl) (fun K hK => ?_); go_simp
            apply Exists.intro; apply And.intro; (focus (intro wk hk; go_simp; exact ⟨rfl, rfl⟩)); refine hK _ _ ?_; clear hK K
            -- 7: alloc<31>
            refine stepS _ rfl (by kernel_rfl) (fun K hK => ?_); go_simp
            refine ⟨?_, ?_⟩
            · intro wk hk hg hu; go_simp; exact left_A rfl rfl
            rintro ⟨v7, lo1_7, hi7⟩ hlo7 hhi7 ⟨e7, f7⟩
            replace e7 : v7 = .pointer (some ⟨lo1_7, 0, none⟩) := e7; replace f7 : hi7 = lo1_7 + 1 := f7; replace hlo7 : _ ≤ lo1_7 := hlo7; subst e7; subst f7
            refine hK _ _ ?_; clear hK K
            -- 8: store<31> *t10 = t18
            refine stepS _ rfl (by kernel_rfl) (fun K hK => ?_); go_simp
            refine ⟨?_, ?_⟩
            · exact sStoreT rfl rfl rfl rfl rfl rfl rfl (by kernel_rfl) rfl (by kernel_rfl) (by decide) aggOf_congr
            rintro ⟨v8, lo8, hi8⟩ - - (rfl : v8 = undef)
            refine hK _ _ ?_; clear hK K
            -- 9: assign t19
            refine stepK rfl (by kernel_rfl) (fun K hK => ?_); go_simp
            apply Exists.intro; apply And.intro; (focus (intro wk hk; go_simp; exact ⟨rfl, rfl⟩)); refine hK _ _ ?_; clear hK K
            refine stepN ?_
            refine hQ _ _ ?_
            intro w1 hT hG hF
            have nr5r0 : w.heap.size < lo1_7 := Nat.lt_of_lt_of_le r0.lt hlo7
            have nr5r1 : w.heap.size + 1 < lo1_7 := Nat.lt_of_lt_of_le r1.lt hlo7
            have nr5r2 : w.heap.size + 1 + 1 < lo1_7 := Nat.lt_of_lt_of_le r2.lt hlo7
            have nr5r3 : w.heap.size + 1 + 1 + 1 < lo1_7 := Nat.lt_of_lt_of_le r3.lt hlo7
            have nr5r4 : w.heap.size + 1 + 1 + 1 + 1 < lo1_7 := Nat.lt_of_lt_of_le r4.lt hlo7
            have hbw1 := hT.below
            have r5 : Row w1 lo1_7 31 ((W4 v)) := (hF 8 _ rfl rfl (by decide)).2
            replace r0 := r0.below hbw1 r0.lt
            replace r1 := r1.below hbw1 r1.lt
            replace r2 := r2.below hbw1 r2.lt
            replace r3 := r3.below hbw1 r3.lt
            replace r4 := r4.below hbw1 r4.lt
            replace hl := hl.trans (hbw1.mono hl.size)
            clear hT hG hF hbw1 hQ QQ L hlo7 hhi7
            go_upto_region 2 with (fail)
            let L : List Sp := []
            refine wp_region_six0 (shs L) (look6 L) (None_) (by kernel_rfl) (by kernel_rfl) (mk_St L [] [] (by kernel_rfl) (by kernel_rfl) trivial (by simp)) ?_
            intro QQ hQ
            -- 0: t11
            refine stepK rfl (by kernel_rfl) (fun K hK => ?_); go_simp
            apply Exists.intro; apply And.intro; (focus (intro wk hk; go_simp; exact ⟨rfl, rfl⟩)); refine hK _ _ ?_; clear hK K
            -- 1: not<4> t20
            refine stepK rfl (by kernel_rfl) (fun K hK => ?_); go_simp
            apply Exists.intro; apply And.intro; (focus (intro wk hk; go_simp; exact ⟨rfl, rfl⟩)); refine hK _ _ ?_; clear hK K
            -- 2: t21
            refine stepK rfl (by kernel_rfl) (fun K hK => ?_); go_simp
            apply Exists.intro; apply And.intro; (focus (intro wk hk; go_simp; exact ⟨rfl, rfl⟩)); refine hK _ _ ?_; clear hK K
            -- 3: load<31> *t6
            refine stepK rfl (by kernel_rfl) (fun K hK => ?_); go_simp
            first | (refine hK _ _ ?_; clear hK K) | (apply Exists.intro; apply And.intro; (focus exact kLoad rfl rfl aggT31 r2 rfl id); refine hK _ _ ?_; clear hK K)
            -- 4: build<31> 
            refine stepK rfl (by kernel_rfl) (fun K hK => ?_); go_simp
            first | (refine hK _ _ ?_; clear hK K) | (apply Exists.intro; apply And.intro; (focus (intro wk hk; go_simp; exact ⟨rfl, rfl⟩)); refine hK _ _ ?_; clear hK K)
            -- 5: eql<31> t23, t24
            refine stepK rfl (by kernel_rfl) (fun K hK => ?_); go_simp
            first | (refine hK _ _ ?_; clear hK K) | (apply Exists.intro; apply And.intro; (focus (intro wk hk; go_simp; exact ⟨rfl, rfl⟩)); refine hK _ _ ?_; clear hK K)
            -- 6: pick t22 ? true : t25
            refine stepK rfl (by kernel_rfl) (fun K hK => ?_); go_simp
            apply Exists.intro; apply And.intro; (focus (intro wk hk; go_simp; exact ⟨rfl, rfl⟩)); refine hK _ _ ?_; clear hK K
            -- 7: t26
            refine stepK rfl (by kernel_rfl) (fun K hK => ?_); go_simp
            apply Exists.intro; apply And.intro; (focus (intro wk hk; go_simp; exact ⟨rfl, rfl⟩)); refine hK _ _ ?_; clear hK K
            -- 8: load<31> *t7
            refine stepK rfl (by kernel_rfl) (fun K hK => ?_); go_simp
            first | (refine hK _ _ ?_; clear hK K) | (apply Exists.intro; apply And.intro; (focus exact kLoad rfl rfl aggT31 r3 rfl id); refine hK _ _ ?_; clear hK K)
            -- 9: build<31> 
            refine stepK rfl (by kernel_rfl) (fun K hK => ?_); go_simp
            first | (refine hK _ _ ?_; clear hK K) | (apply Exists.intro; apply And.intro; (focus (intro wk hk; go_simp; exact ⟨rfl, rfl⟩)); refine hK _ _ ?_; clear hK K)
            -- 10: eql<31> t28, t29
            refine stepK rfl (by kernel_rfl) (fun K hK => ?_); go_simp
            first | (refine hK _ _ ?_; clear hK K) | (apply Exists.intro; apply And.intro; (focus (intro wk hk; go_simp; exact ⟨rfl, rfl⟩)); refine hK _ _ ?_; clear hK K)
            -- 11: pick t27 ? true : t30
            refine stepK rfl (by kernel_rfl) (fun K hK => ?_); go_simp
            apply Exists.intro; apply And.intro; (focus (intro wk hk; go_simp; exact ⟨rfl, rfl⟩)); refine hK _ _ ?_; clear hK K
            refine stepN ?_
            refine hQ _ _ ?_
            intro w2 hT hG hF
            have hbw2 := hT.below
            replace r0 := r0.below hbw2 r0.lt
            replace r1 := r1.below hbw2 r1.lt
            replace r2 := r2.below hbw2 r2.lt
            replace r3 := r3.below hbw2 r3.lt
            replace r4 := r4.below hbw2 r4.lt
            replace r5 := r5.below hbw2 r5.lt
            replace hl := hl.trans (hbw2.mono hl.size)
            clear hT hG hF hbw2 hQ QQ L 
            go_upto_region 4 with (fail)
            let L : List Sp := [sV 2 [] [] (fun u => u = .tuple #[.agg (W4 s), .bool true]), sA 6 31 [7] #[.int .u64 0, .int .u64 0, .int .u64 0, .int .u64 0], sT 7 6 31 [4] (fun g => aggOf g 4)]
            refine wp_region_six0 (shs L) (look6 L) (None_) (by kernel_rfl) (by kernel_rfl) (mk_St L [] [] (by kernel_rfl) (by kernel_rfl) ⟨ok_V ⟨_, rfl⟩, ok_A, ok_T aggOf_congr, trivial⟩ (by simp)) ?_
            intro QQ hQ
            -- 0: load<31> *t4
            refine stepK rfl (by kernel_rfl) (fun K hK => ?_); go_simp
            apply Exists.intro; apply And.intro; (focus exact kLoad rfl rfl aggT31 r0 rfl id); refine hK _ _ ?_; clear hK K
            -- 1: load<31> *t7
            refine stepK rfl (by kernel_rfl) (fun K hK => ?_); go_simp
            apply Exists.intro; apply And.intro; (focus exact kLoad rfl rfl aggT31 r3 rfl id); refine hK _ _ ?_; clear hK K
            -- 2: call F46(t34, t35)
            refine stepS _ rfl (by kernel_rfl) (fun K hK => ?_); go_simp
            refine ⟨?_, ?_⟩
            · intro wk hk hg hu; go_simp; refine upon_enter ((k1.out _).mono ?_); rintro e w' ⟨rfl, hb⟩; exact ⟨_, rfl, left_V (p := fun u => u = .tuple #[.agg (W4 s), .bool true]) rfl (hb) rfl⟩
            rintro ⟨v2, lo2, hi2⟩ - - (rfl : v2 = _)
            refine hK _ _ ?_; clear hK K
            -- 3: t36
            refine stepK rfl (by kernel_rfl) (fun K hK => ?_); go_simp
            apply Exists.intro; apply And.intro; (focus (intro wk hk; go_simp; exact ⟨rfl, rfl⟩)); refine hK _ _ ?_; clear hK K
            -- 4: extract t33 #0
            refine stepK rfl (by kernel_rfl) (fun K hK => ?_); go_simp
            apply Exists.intro; apply And.intro; (focus (intro wk hk; go_simp; exact ⟨rfl, rfl⟩)); refine hK _ _ ?_; clear hK K
            -- 5: extract t33 #1
            refine stepK rfl (by kernel_rfl) (fun K hK => ?_); go_simp
            apply Exists.intro; apply And.intro; (focus (intro wk hk; go_simp; exact ⟨rfl, rfl⟩)); refine hK _ _ ?_; clear hK K
            -- 6: alloc<31>
            refine stepS _ rfl (by kernel_rfl) (fun K hK => ?_); go_simp
            refine ⟨?_, ?_⟩
            · intro wk hk hg hu; go_simp; exact left_A rfl rfl
            rintro ⟨v6, lo4_6, hi6⟩ hlo6 hhi6 ⟨e6, f6⟩
            replace e6 : v6 = .pointer (some ⟨lo4_6, 0, none⟩) := e6; replace f6 : hi6 = lo4_6 + 1 := f6; replace hlo6 : _ ≤ lo4_6 := hlo6; subst e6; subst f6
            refine hK _ _ ?_; clear hK K
            -- 7: store<31> *t12 = t37
            refine stepS _ rfl (by kernel_rfl) (fun K hK => ?_); go_simp
            refine ⟨?_, ?_⟩
            · exact sStoreT rfl rfl rfl rfl rfl rfl rfl (by kernel_rfl) rfl (by kernel_rfl) (by decide) aggOf_congr
            rintro ⟨v7, lo7, hi7⟩ - - (rfl : v7 = undef)
            refine hK _ _ ?_; clear hK K
            -- 8: assign t38
            refine stepK rfl (by kernel_rfl) (fun K hK => ?_); go_simp
            apply Exists.intro; apply And.intro; (focus (intro wk hk; go_simp; exact ⟨rfl, rfl⟩)); refine hK _ _ ?_; clear hK K
            refine stepN ?_
            refine hQ _ _ ?_
            intro w3 hT hG hF
            have nr6r0 : w.heap.size < lo4_6 := Nat.lt_of_lt_of_le r0.lt hlo6
            have nr6r1 : w.heap.size + 1 < lo4_6 := Nat.lt_of_lt_of_le r1.lt hlo6
            have nr6r2 : w.heap.size + 1 + 1 < lo4_6 := Nat.lt_of_lt_of_le r2.lt hlo6
            have nr6r3 : w.heap.size + 1 + 1 + 1 < lo4_6 := Nat.lt_of_lt_of_le r3.lt hlo6
            have nr6r4 : w.heap.size + 1 + 1 + 1 + 1 < lo4_6 := Nat.lt_of_lt_of_le r4.lt hlo6
            have nr6r5 : lo1_7 < lo4_6 := Nat.lt_of_lt_of_le r5.lt hlo6
            have hbw3 := hT.below
            have r6 : Row w3 lo4_6 31 ((W4 s)) := (hF 7 _ rfl rfl (by decide)).2
            replace r0 := r0.below hbw3 r0.lt
            replace r1 := r1.below hbw3 r1.lt
            replace r2 := r2.below hbw3 r2.lt
            replace r3 := r3.below hbw3 r3.lt
            replace r4 := r4.below hbw3 r4.lt
            replace r5 := r5.below hbw3 r5.lt
            replace hl := hl.trans (hbw3.mono hl.size)
            clear hT hG hF hbw3 hQ QQ L hlo6 hhi6
            go_upto_region 5 with (fail)
            let L : List Sp := [sV 4 [] [] (fun u => u = .bool false)]
            refine wp_region_six0 (shs L) (look6 L) (None_) (by kernel_rfl) (by kernel_rfl) (mk_St L [] [] (by kernel_rfl) (by kernel_rfl) ⟨ok_V ⟨_, rfl⟩, trivial⟩ (by simp)) ?_
            intro QQ hQ
            -- 0: t11
            refine stepK rfl (by kernel_rfl) (fun K hK => ?_); go_simp
            apply Exists.intro; apply And.intro; (focus (intro wk hk; go_simp; exact ⟨rfl, rfl⟩)); refine hK _ _ ?_; clear hK K
            -- 1: not<4> t39
            refine stepK rfl (by kernel_rfl) (fun K hK => ?_); go_simp
            apply Exists.intro; apply And.intro; (focus (intro wk hk; go_simp; exact ⟨rfl, rfl⟩)); refine hK _ _ ?_; clear hK K
            -- 2: t40
            refine stepK rfl (by kernel_rfl) (fun K hK => ?_); go_simp
            apply Exists.intro; apply And.intro; (focus (intro wk hk; go_simp; exact ⟨rfl, rfl⟩)); refine hK _ _ ?_; clear hK K
            -- 3: load<31> *t12
            refine stepK rfl (by kernel_rfl) (fun K hK => ?_); go_simp
            first | (refine hK _ _ ?_; clear hK K) | (apply Exists.intro; apply And.intro; (focus exact kLoad rfl rfl aggT31 r6 rfl id); refine hK _ _ ?_; clear hK K)
            -- 4: call F105(t42)
            refine stepS _ rfl (by kernel_rfl) (fun K hK => ?_); go_simp
            refine ⟨?_, ?_⟩
            · intro wk hk hg hu; go_simp; refine upon_enter ((k2.out _).mono ?_); rintro e w' ⟨rfl, hb⟩; exact ⟨_, rfl, left_V (p := fun u => u = .bool false) rfl (hb) rfl⟩
            rintro ⟨v4, lo4, hi4⟩ - - (rfl : v4 = _)
            refine hK _ _ ?_; clear hK K
            -- 5: not<4> t43
            refine stepK rfl (by kernel_rfl) (fun K hK => ?_); go_simp
            first | (refine hK _ _ ?_; clear hK K) | (apply Exists.intro; apply And.intro; (focus (intro wk hk; go_simp; exact ⟨rfl, rfl⟩)); refine hK _ _ ?_; clear hK K)
            -- 6: pick t41 ? true : t44
            refine stepK rfl (by kernel_rfl) (fun K hK => ?_); go_simp
            apply Exists.intro; apply And.intro; (focus (intro wk hk; go_simp; exact ⟨rfl, rfl⟩)); refine hK _ _ ?_; clear hK K
            refine stepN ?_
            refine hQ _ _ ?_
            intro w4 hT hG hF
            have hbw4 := hT.below
            replace r0 := r0.below hbw4 r0.lt
            replace r1 := r1.below hbw4 r1.lt
            replace r2 := r2.below hbw4 r2.lt
            replace r3 := r3.below hbw4 r3.lt
            replace r4 := r4.below hbw4 r4.lt
            replace r5 := r5.below hbw4 r5.lt
            replace r6 := r6.below hbw4 r6.lt
            replace hl := hl.trans (hbw4.mono hl.size)
            clear hT hG hF hbw4 hQ QQ L 
            go_upto_region 6 with (fail)
            let L : List Sp := [sO 1 (w.heap.size + 1 + 1 + 1 + 1) 31 [0] (fun g => aggOf g 0)]
            refine wp_region_six0 (shs L) (look6 L) (fun c => c = w.heap.size + 1 + 1 + 1 + 1) (by kernel_rfl) (by kernel_rfl) (mk_St L [1] [1] (by kernel_rfl) (by kernel_rfl) ⟨ok_O aggOf_congr r4.lt (rfl), trivial⟩ (by simp)) ?_
            intro QQ hQ
            -- 0: build<31> 
            refine stepK rfl (by kernel_rfl) (fun K hK => ?_); go_simp
            apply Exists.intro; apply And.intro; (focus (intro wk hk; go_simp; exact ⟨rfl, rfl⟩)); refine hK _ _ ?_; clear hK K
            -- 1: store<31> *t8 = t46
            refine stepS _ rfl (by kernel_rfl) (fun K hK => ?_); go_simp
            refine ⟨?_, ?_⟩
            · exact sStoreO rfl rfl rfl rfl rfl rfl r4 id (by kernel_rfl) rfl (by kernel_rfl) (by decide) aggOf_congr
            rintro ⟨v1, lo1, hi1⟩ - - (rfl : v1 = undef)
            refine hK _ _ ?_; clear hK K
            -- 2: assign false
            refine stepKz rfl (fun K hK => ?_); go_simp
            apply Exists.intro; apply And.intro; (focus (intro wk hk; go_simp; exact ⟨rfl, rfl⟩)); refine hK _ _ ?_; clear hK K
            refine stepN ?_
            refine hQ _ _ ?_
            intro w5 hT hG hF
            have hT' := hT
            have xr4 : Row w5 (w.heap.size + 1 + 1 + 1 + 1) 31 (W4 0) := Row.congr (show Row w5 (w.heap.size + 1 + 1 + 1 + 1) 31 _ from hF 1 _ rfl rfl (by decide)) W4_zero
            have hl9 : Below w.heap.size w w5 := hl.trans (hT'.below_of hl.size (by intro c hc; omega))
            replace r0 := K6.Row.tr r0 hT' (by show ¬ (w.heap.size = w.heap.size + 1 + 1 + 1 + 1); omega)
            replace r1 := K6.Row.tr r1 hT' (by show ¬ (w.heap.size + 1 = w.heap.size + 1 + 1 + 1 + 1); omega)
            replace r2 := K6.Row.tr r2 hT' (by show ¬ (w.heap.size + 1 + 1 = w.heap.size + 1 + 1 + 1 + 1); omega)
            replace r3 := K6.Row.tr r3 hT' (by show ¬ (w.heap.size + 1 + 1 + 1 = w.heap.size + 1 + 1 + 1 + 1); omega)
            replace r5 := K6.Row.tr r5 hT' (by show ¬ (lo1_7 = w.heap.size + 1 + 1 + 1 + 1); omega)
            replace r6 := K6.Row.tr r6 hT' (by show ¬ (lo4_6 = w.heap.size + 1 + 1 + 1 + 1); omega)
            clear hT hT' hG hF hQ QQ L hl r4
            have hl := hl9; clear hl9
            have r4 := xr4; clear xr4
            go_wp2_with fail
            refine bodyPost_ret (results_ct rfl aggT31 rfl r4 rfl) rfl ?_
            exact ⟨rfl, hl⟩
        · have hs1 : addN d x = 0 := if_neg hs
          have hs2 : addB d x = false := decide_eq_false hs
          rw [decide_eq_false (fun h => hs (M2_M' h))] at hE
          rw [(hZ hE).1, (hZ hE).2]
          clear hE hO hZ hW hdm hs
          have k0 := Lib.hid (show ∀ wx, Calls Try.prog 147 #[.agg (W4 d), .agg (W4 f), .agg (W4 m)] wx (Ret wx (.tuple #[.agg (W4 v), .bool true])) from fun wx => by have h := worthU hd hf hm wx; rw [← hv, hg] at h; exact h)
          have k1 := Lib.hid (show ∀ wx, Calls Try.prog 46 #[.agg (W4 d), .agg (W4 x)] wx (Ret wx (.tuple #[.agg (W4 0), .bool false])) from fun wx => by have h := addU hd hx wx; rw [hs1, hs2] at h; exact h)
          have q0 : ∀ wx, (Op.equalIn 10000 31 (.agg (W4 m)) (.agg #[.int .u64 0, .int .u64 0, .int .u64 0, .int .u64 0])).run Try.prog wx = .ok false wx := fun wx => by rw [eqU0 hm, decide_eq_false m0]
          have q1 : ∀ wx, (Op.equalIn 10000 31 (.agg (W4 x)) (.agg #[.int .u64 0, .int .u64 0, .int .u64 0, .int .u64 0])).run Try.prog wx = .ok false wx := fun wx => by rw [eqU0 hx, decide_eq_false x0]
          clear hv hg m0 x0 hs1 hs2
          go_enter Try.func148, Try.ntmps148
          apply wp_seq_eq
          focus
            intro J hJ
            go_wp2_with fail
            exact hJ
          refine wp_abs (Mem w [(w.heap.size, 31, W4 d), (w.heap.size + 1, 31, W4 f), (w.heap.size + 1 + 1, 31, W4 m), (w.heap.size + 1 + 1 + 1, 31, W4 x), (w.heap.size + 1 + 1 + 1 + 1, 31, arr .u64 (fun _ => 0) 4)]) ⟨by go_grown, ?_, ?_, ?_, ?_, ?_, trivial⟩ ?_
          · repeat (first | (refine Row.new_at ?_; simp; done) | refine Row.alloc ?_ _)
          · repeat (first | (refine Row.new_at ?_; simp; done) | refine Row.alloc ?_ _)
          · repeat (first | (refine Row.new_at ?_; simp; done) | refine Row.alloc ?_ _)
          · repeat (first | (refine Row.new_at ?_; simp; done) | refine Row.alloc ?_ _)
          · repeat (first | (refine Row.new_at ?_; simp; done) | refine Row.alloc ?_ _)
          intro w0 hM
          obtain ⟨hl, r0, r1, r2, r3, r4, -⟩ := hM
          go_upto_region 1 with (fail)
          let L : List Sp := [sV 3 [] [] (fun u => u = .tuple #[.agg (W4 v), .bool true]), sA 7 31 [8] #[.int .u64 0, .int .u64 0, .int .u64 0, .int .u64 0], sT 8 7 31 [5] (fun g => aggOf g 5)]
          refine wp_region_six0 (shs L) (look6 L) (None_) (by kernel_rfl) (by kernel_rfl) (mk_St L [] [] (by kernel_rfl) (by kernel_rfl) ⟨ok_V ⟨_, rfl⟩, ok_A, ok_T aggOf_congr, trivial⟩ (by simp)) ?_
          intro QQ hQ
          -- 0: load<31> *t4
          refine stepK rfl (by kernel_rfl) (fun K hK => ?_); go_simp
          apply Exists.intro; apply And.intro; (focus exact kLoad rfl rfl aggT31 r0 rfl id); refine hK _ _ ?_; clear hK K
          -- 1: load<31> *t5
          refine stepK rfl (by kernel_rfl) (fun K hK => ?_); go_simp
          apply Exists.intro; apply And.intro; (focus exact kLoad rfl rfl aggT31 r1 rfl id); refine hK _ _ ?_; clear hK K
          -- 2: load<31> *t6
          refine stepK rfl (by kernel_rfl) (fun K hK => ?_); go_simp
          apply Exists.intro; apply And.intro; (focus exact kLoad rfl rfl aggT31 r2 rfl id); refine hK _ _ ?_; clear hK K
          -- 3: call F147(t14, t15, t16)
          refine stepS _ rfl (by kernel_rfl) (fun K hK => ?_); go_simp
          refine ⟨?_, ?_⟩
          · intro wk hk hg hu; go_simp; refine upon_enter ((k0.out _).mono ?_); rintro e w' ⟨rfl, hb⟩; exact ⟨_, rfl, left_V (p := fun u => u = .tuple #[.agg (W4 v), .bool true]) rfl (hb) rfl⟩
          rintro ⟨v3, lo3, hi3⟩ - - (rfl : v3 = _)
          refine hK _ _ ?_; clear hK K
          -- 4: t17
          refine stepK rfl (by kernel_rfl) (fun K hK => ?_); go_simp
          apply Exists.intro; apply And.intro; (focus (intro wk hk; go_simp; exact ⟨rfl, rfl⟩)); refine hK _ _ ?_; clear hK K
          -- 5: extract t13 #0
          refine stepK rfl (by kernel_rfl) (fun K hK => ?_); go_simp
          apply Exists.intro; apply And.intro; (focus (intro wk hk; go_simp; exact ⟨rfl, rfl⟩)); refine hK _ _ ?_; clear hK K
          -- 6: extract t13 #1
          refine stepK rfl (by kernel_rfl) (fun K hK => ?_); go_simp
          apply Exists.intro; apply And.intro; (focus (intro wk hk; go_simp; exact ⟨rfl, rfl⟩)); refine hK _ _ ?_; clear hK K
          -- 7: alloc<31>
          refine stepS _ rfl (by kernel_rfl) (fun K hK => ?_); go_simp
          refine ⟨?_, ?_⟩
          · intro wk hk hg hu; go_simp; exact left_A rfl rfl
          rintro ⟨v7, lo1_7, hi7⟩ hlo7 hhi7 ⟨e7, f7⟩
          replace e7 : v7 = .pointer (some ⟨lo1_7, 0, none⟩) := e7; replace f7 : hi7 = lo1_7 + 1 := f7; replace hlo7 : _ ≤ lo1_7 := hlo7; subst e7; subst f7
          refine hK _ _ ?_; clear hK K
          -- 8: store<31> *t10 = t18
          refine stepS _ rfl (by kernel_rfl) (fun K hK => ?_); go_simp
          refine ⟨?_, ?_⟩
          · exact sStoreT rfl rfl rfl rfl rfl rfl rfl (by kernel_rfl) rfl (by kernel_rfl) (by decide) aggOf_congr
          rintro ⟨v8, lo8, hi8⟩ - - (rfl : v8 = undef)
          refine hK _ _ ?_; clear hK K
          -- 9: assign t19
          refine stepK rfl (by kernel_rfl) (fun K hK => ?_); go_simp
          apply Exists.intro; apply And.intro; (focus (intro wk hk; go_simp; exact ⟨rfl, rfl⟩)); refine hK _ _ ?_; clear hK K
          refine stepN ?_
          refine hQ _ _ ?_
          intro w1 hT hG hF
          have nr5r0 : w.heap.size < lo1_7 := Nat.lt_of_lt_of_le r0.lt hlo7
          have nr5r1 : w.heap.size + 1 < lo1_7 := Nat.lt_of_lt_of_le r1.lt hlo7
          have nr5r2 : w.heap.size + 1 + 1 < lo1_7 := Nat.lt_of_lt_of_le r2.lt hlo7
          have nr5r3 : w.heap.size + 1 + 1 + 1 < lo1_7 := Nat.lt_of_lt_of_le r3.lt hlo7
          have nr5r4 : w.heap.size + 1 + 1 + 1 + 1 < lo1_7 := Nat.lt_of_lt_of_le r4.lt hlo7
          have hbw1 := hT.below
          have r5 : Row w1 lo1_7 31 ((W4 v)) := (hF 8 _ rfl rfl (by decide)).2
          replace r0 := r0.below hbw1 r0.lt
          replace r1 := r1.below hbw1 r1.lt
          replace r2 := r2.below hbw1 r2.lt
          replace r3 := r3.below hbw1 r3.lt
          replace r4 := r4.below hbw1 r4.lt
          replace hl := hl.trans (hbw1.mono hl.size)
          clear hT hG hF hbw1 hQ QQ L hlo7 hhi7
          go_upto_region 2 with (fail)
          let L : List Sp := []
          refine wp_region_six0 (shs L) (look6 L) (None_) (by kernel_rfl) (by kernel_rfl) (mk_St L [] [] (by kernel_rfl) (by kernel_rfl) trivial (by simp)) ?_
          intro QQ hQ
          -- 0: t11
          refine stepK rfl (by kernel_rfl) (fun K hK => ?_); go_simp
          apply Exists.intro; apply And.intro; (focus (intro wk hk; go_simp; exact ⟨rfl, rfl⟩)); refine hK _ _ ?_; clear hK K
          -- 1: not<4> t20
          refine stepK rfl (by kernel_rfl) (fun K hK => ?_); go_simp
          apply Exists.intro; apply And.intro; (focus (intro wk hk; go_simp; exact ⟨rfl, rfl⟩)); refine hK _ _ ?_; clear hK K
          -- 2: t21
          refine stepK rfl (by kernel_rfl) (fun K hK => ?_); go_simp
          apply Exists.intro; apply And.intro; (focus (intro wk hk; go_simp; exact ⟨rfl, rfl⟩)); refine hK _ _ ?_; clear hK K
          -- 3: load<31> *t6
          refine stepK rfl (by kernel_rfl) (fun K hK => ?_); go_simp
          first | (refine hK _ _ ?_; clear hK K) | (apply Exists.intro; apply And.intro; (focus exact kLoad rfl rfl aggT31 r2 rfl id); refine hK _ _ ?_; clear hK K)
          -- 4: build<31> 
          refine stepK rfl (by kernel_rfl) (fun K hK => ?_); go_simp
          first | (refine hK _ _ ?_; clear hK K) | (apply Exists.intro; apply And.intro; (focus (intro wk hk; go_simp; exact ⟨rfl, rfl⟩)); refine hK _ _ ?_; clear hK K)
          -- 5: eql<31> t23, t24
          refine stepK rfl (by kernel_rfl) (fun K hK => ?_); go_simp
          first | (refine hK _ _ ?_; clear hK K) | (apply Exists.intro; apply And.intro; (focus (intro wk hk; go_simp; exact ⟨rfl, rfl⟩)); refine hK _ _ ?_; clear hK K)
          -- 6: pick t22 ? true : t25
          refine stepK rfl (by kernel_rfl) (fun K hK => ?_); go_simp
          apply Exists.intro; apply And.intro; (focus (intro wk hk; go_simp; exact ⟨rfl, rfl⟩)); refine hK _ _ ?_; clear hK K
          -- 7: t26
          refine stepK rfl (by kernel_rfl) (fun K hK => ?_); go_simp
          apply Exists.intro; apply And.intro; (focus (intro wk hk; go_simp; exact ⟨rfl, rfl⟩)); refine hK _ _ ?_; clear hK K
          -- 8: load<31> *t7
          refine stepK rfl (by kernel_rfl) (fun K hK => ?_); go_simp
          first | (refine hK _ _ ?_; clear hK K) | (apply Exists.intro; apply And.intro; (focus exact kLoad rfl rfl aggT31 r3 rfl id); refine hK _ _ ?_; clear hK K)
          -- 9: build<31> 
          refine stepK rfl (by kernel_rfl) (fun K hK => ?_); go_simp
          first | (refine hK _ _ ?_; clear hK K) | (apply Exists.intro; apply And.intro; (focus (intro wk hk; go_simp; exact ⟨rfl, rfl⟩)); refine hK _ _ ?_; clear hK K)
          -- 10: eql<31> t28, t29
          refine stepK rfl (by kernel_rfl) (fun K hK => ?_); go_simp
          first | (refine hK _ _ ?_; clear hK K) | (apply Exists.intro; apply And.intro; (focus (intro wk hk; go_simp; exact ⟨rfl, rfl⟩)); refine hK _ _ ?_; clear hK K)
          -- 11: pick t27 ? true : t30
          refine stepK rfl (by kernel_rfl) (fun K hK => ?_); go_simp
          apply Exists.intro; apply And.intro; (focus (intro wk hk; go_simp; exact ⟨rfl, rfl⟩)); refine hK _ _ ?_; clear hK K
          refine stepN ?_
          refine hQ _ _ ?_
          intro w2 hT hG hF
          have hbw2 := hT.below
          replace r0 := r0.below hbw2 r0.lt
          replace r1 := r1.below hbw2 r1.lt
          replace r2 := r2.below hbw2 r2.lt
          replace r3 := r3.below hbw2 r3.lt
          replace r4 := r4.below hbw2 r4.lt
          replace r5 := r5.below hbw2 r5.lt
          replace hl := hl.trans (hbw2.mono hl.size)
          clear hT hG hF hbw2 hQ QQ L 
          go_upto_region 4 with (fail)
          let L : List Sp := [sV 2 [] [] (fun u => u = .tuple #[.agg (W4 0), .bool false]), sA 6 31 [7] #[.int .u64 0, .int .u64 0, .int .u64 0, .int .u64 0], sT 7 6 31 [4] (fun g => aggOf g 4)]
          refine wp_region_six0 (shs L) (look6 L) (None_) (by kernel_rfl) (by kernel_rfl) (mk_St L [] [] (by kernel_rfl) (by kernel_rfl) ⟨ok_V ⟨_, rfl⟩, ok_A, ok_T aggOf_congr, trivial⟩ (by simp)) ?_
          intro QQ hQ
          -- 0: load<31> *t4
          refine stepK rfl (by kernel_rfl) (fun K hK => ?_); go_simp
          apply Exists.intro; apply And.intro; (focus exact kLoad rfl rfl aggT31 r0 rfl id); refine hK _ _ ?_; clear hK K
          -- 1: load<31> *t7
          refine stepK rfl (by kernel_rfl) (fun K hK => ?_); go_simp
          apply Exists.intro; apply And.intro; (focus exact kLoad rfl rfl aggT31 r3 rfl id); refine hK _ _ ?_; clear hK K
          -- 2: call F46(t34, t35)
          refine stepS _ rfl (by kernel_rfl) (fun K hK => ?_); go_simp
          refine ⟨?_, ?_⟩
          · intro wk hk hg hu; go_simp; refine upon_enter ((k1.out _).mono ?_); rintro e w' ⟨rfl, hb⟩; exact ⟨_, rfl, left_V (p := fun u => u = .tuple #[.agg (W4 0), .bool false]) rfl (hb) rfl⟩
          rintro ⟨v2, lo2, hi2⟩ - - (rfl : v2 = _)
          refine hK _ _ ?_; clear hK K
          -- 3: t36
          refine stepK rfl (by kernel_rfl) (fun K hK => ?_); go_simp
          apply Exists.intro; apply And.intro; (focus (intro wk hk; go_simp; exact ⟨rfl, rfl⟩)); refine hK _ _ ?_; clear hK K
          -- 4: extract t33 #0
          refine stepK rfl (by kernel_rfl) (fun K hK => ?_); go_simp
          apply Exists.intro; apply And.intro; (focus (intro wk hk; go_simp; exact ⟨rfl, rfl⟩)); refine hK _ _ ?_; clear hK K
          -- 5: extract t33 #1
          refine stepK rfl (by kernel_rfl) (fun K hK => ?_); go_simp
          apply Exists.intro; apply And.intro; (focus (intro wk hk; go_simp; exact ⟨rfl, rfl⟩)); refine hK _ _ ?_; clear hK K
          -- 6: alloc<31>
          refine stepS _ rfl (by kernel_rfl) (fun K hK => ?_); go_simp
          refine ⟨?_, ?_⟩
          · intro wk hk hg hu; go_simp; exact left_A rfl rfl
          rintro ⟨v6, lo4_6, hi6⟩ hlo6 hhi6 ⟨e6, f6⟩
          replace e6 : v6 = .pointer (some ⟨lo4_6, 0, none⟩) := e6; replace f6 : hi6 = lo4_6 + 1 := f6; replace hlo6 : _ ≤ lo4_6 := hlo6; subst e6; subst f6
          refine hK _ _ ?_; clear hK K
          -- 7: store<31> *t12 = t37
          refine stepS _ rfl (by kernel_rfl) (fun K hK => ?_); go_simp
          refine ⟨?_, ?_⟩
          · exact sStoreT rfl rfl rfl rfl rfl rfl rfl (by kernel_rfl) rfl (by kernel_rfl) (by decide) aggOf_congr
          rintro ⟨v7, lo7, hi7⟩ - - (rfl : v7 = undef)
          refine hK _ _ ?_; clear hK K
          -- 8: assign t38
          refine stepK rfl (by kernel_rfl) (fun K hK => ?_); go_simp
          apply Exists.intro; apply And.intro; (focus (intro wk hk; go_simp; exact ⟨rfl, rfl⟩)); refine hK _ _ ?_; clear hK K
          refine stepN ?_
          refine hQ _ _ ?_
          intro w3 hT hG hF
          have nr6r0 : w.heap.size < lo4_6 := Nat.lt_of_lt_of_le r0.lt hlo6
          have nr6r1 : w.heap.size + 1 < lo4_6 := Nat.lt_of_lt_of_le r1.lt hlo6
          have nr6r2 : w.heap.size + 1 + 1 < lo4_6 := Nat.lt_of_lt_of_le r2.lt hlo6
          have nr6r3 : w.heap.size + 1 + 1 + 1 < lo4_6 := Nat.lt_of_lt_of_le r3.lt hlo6
          have nr6r4 : w.heap.size + 1 + 1 + 1 + 1 < lo4_6 := Nat.lt_of_lt_of_le r4.lt hlo6
          have nr6r5 : lo1_7 < lo4_6 := Nat.lt_of_lt_of_le r5.lt hlo6
          have hbw3 := hT.below
          have r6 : Row w3 lo4_6 31 ((W4 0)) := (hF 7 _ rfl rfl (by decide)).2
          replace r0 := r0.below hbw3 r0.lt
          replace r1 := r1.below hbw3 r1.lt
          replace r2 := r2.below hbw3 r2.lt
          replace r3 := r3.below hbw3 r3.lt
          replace r4 := r4.below hbw3 r4.lt
          replace r5 := r5.below hbw3 r5.lt
          replace hl := hl.trans (hbw3.mono hl.size)
          clear hT hG hF hbw3 hQ QQ L hlo6 hhi6
          go_upto_region 6 with (fail)
          let L : List Sp := [sO 1 (w.heap.size + 1 + 1 + 1 + 1) 31 [0] (fun g => aggOf g 0)]
          refine wp_region_six0 (shs L) (look6 L) (fun c => c = w.heap.size + 1 + 1 + 1 + 1) (by kernel_rfl) (by kernel_rfl) (mk_St L [1] [1] (by kernel_rfl) (by kernel_rfl) ⟨ok_O aggOf_congr r4.lt (rfl), trivial⟩ (by simp)) ?_
          intro QQ hQ
          -- 0: build<31> 
          refine stepK rfl (by kernel_rfl) (fun K hK => ?_); go_simp
          apply Exists.intro; apply And.intro; (focus (intro wk hk; go_simp; exact ⟨rfl, rfl⟩)); refine hK _ _ ?_; clear hK K
          -- 1: store<31> *t8 = t46
          refine stepS _ rfl (by kernel_rfl) (fun K hK => ?_); go_simp
          refine ⟨?_, ?_⟩
          · exact sStoreO rfl rfl rfl rfl rfl rfl r4 id (by kernel_rfl) rfl (by kernel_rfl) (by decide) aggOf_congr
          rintro ⟨v1, lo1, hi1⟩ - - (rfl : v1 = undef)
          refine hK _ _ ?_; clear hK K
          -- 2: assign false
          refine stepKz rfl (fun K hK => ?_); go_simp
          apply Exists.intro; apply And.intro; (focus (intro wk hk; go_simp; exact ⟨rfl, rfl⟩)); refine hK _ _ ?_; clear hK K
          refine stepN ?_
          refine hQ _ _ ?_
          intro w4 hT hG hF
          have hT' := hT
          have xr4 : Row w4 (w.heap.size + 1 + 1 + 1 + 1) 31 (W4 0) := Row.congr (show Row w4 (w.heap.size + 1 + 1 + 1 + 1) 31 _ from hF 1 _ rfl rfl (by decide)) W4_zero
          have hl9 : Below w.heap.size w w4 := hl.trans (hT'.below_of hl.size (by intro c hc; omega))
          replace r0 := K6.Row.tr r0 hT' (by show ¬ (w.heap.size = w.heap.size + 1 + 1 + 1 + 1); omega)
          replace r1 := K6.Row.tr r1 hT' (by show ¬ (w.heap.size + 1 = w.heap.size + 1 + 1 + 1 + 1); omega)
          replace r2 := K6.Row.tr r2 hT' (by show ¬ (w.heap.size + 1 + 1 = w.heap.size + 1 + 1 + 1 + 1); omega)
          replace r3 := K6.Row.tr r3 hT' (by show ¬ (w.heap.size + 1 + 1 + 1 = w.heap.size + 1 + 1 + 1 + 1); omega)
          replace r5 := K6.Row.tr r5 hT' (by show ¬ (lo1_7 = w.heap.size + 1 + 1 + 1 + 1); omega)
          replace r6 := K6.Row.tr r6 hT' (by show ¬ (lo4_6 = w.heap.size + 1 + 1 + 1 + 1); omega)
          clear hT hT' hG hF hQ QQ L hl r4
          have hl := hl9; clear hl9
          have r4 := xr4; clear xr4
          go_wp2_with fail
          refine bodyPost_ret (results_ct rfl aggT31 rfl r4 rfl) rfl ?_
          exact ⟨rfl, hl⟩
set_option maxRecDepth 100000 in
set_option maxHeartbeats 16000000 in
theorem moveU {d f m : Nat} (hd : d < M) (hf : f < M) (hm : m < M) (w : World) : Calls Try.prog 153 #[.agg (W4 d), .agg (W4 f), .agg (W4 m)] w (Ret w (.tuple #[.agg (W4 (mvN d f m)), .bool (mvB d f m)])) := by
  have hE : mvC d f m = (goodF d f m && (decide (d ≠ 0) && decide (m ≠ 0))) := rfl
  have hO := @mv_ok d f m
  have hZ := @mvN_no d f m
  cases hg : goodF d f m
  · rw [hg, Bool.false_and] at hE
    rw [(hZ hE).1, (hZ hE).2]
    clear hE hO hZ
    have k0 := Lib.hid (show ∀ wx, Calls Try.prog 151 #[.agg (W4 d), .agg (W4 f), .agg (W4 m)] wx (Ret wx (.bool false)) from fun wx => by have h := goodFU hd hf hm wx; rw [hg] at h; exact h)
    clear hg
    go_enter Try.func153, Try.ntmps153
    apply wp_seq_eq
    focus
      intro J hJ
      go_wp2_with fail
      exact hJ
    refine wp_abs (Mem w [(w.heap.size, 31, W4 d), (w.heap.size + 1, 31, W4 f), (w.heap.size + 1 + 1, 31, W4 m), (w.heap.size + 1 + 1 + 1, 31, arr .u64 (fun _ => 0) 4)]) ⟨by go_grown, ?_, ?_, ?_, ?_, trivial⟩ ?_
    · repeat (first | (refine Row.new_at ?_; simp; done) | refine Row.alloc ?_ _)
    · repeat (first | (refine Row.new_at ?_; simp; done) | refine Row.alloc ?_ _)
    · repeat (first | (refine Row.new_at ?_; simp; done) | refine Row.alloc ?_ _)
    · repeat (first | (refine Row.new_at ?_; simp; done) | refine Row.alloc ?_ _)
    intro w0 hM
    obtain ⟨hl, r0, r1, r2, r3, -⟩ := hM
    go_upto_region 1 with (fail)
    let L : List Sp := [sV 3 [] [] (fun u => u = .bool false)]
    refine wp_region_six0 (shs L) (look6 L) (None_) (by kernel_rfl) (by kernel_rfl) (mk_St L [] [] (by kernel_rfl) (by kernel_rfl) ⟨ok_V ⟨_, rfl⟩, trivial⟩ (by simp)) ?_
    intro QQ hQ
    -- 0: load<31> *t3
    refine stepK rfl (by kernel_rfl) (fun K hK => ?_); go_simp
    apply Exists.intro; apply And.intro; (focus exact kLoad rfl rfl aggT31 r0 rfl id); refine hK _ _ ?_; clear hK K
    -- 1: load<31> *t4
    refine stepK rfl (by kernel_rfl) (fun K hK => ?_); go_simp
    apply Exists.intro; apply And.intro; (focus exact kLoad rfl rfl aggT31 r1 rfl id); refine hK _ _ ?_; clear hK K
    -- 2: load<31> *t5
    refine stepK rfl (by kernel_rfl) (fun K hK => ?_); go_simp
    apply Exists.intro; apply And.intro; (focus exact kLoad rfl rfl aggT31 r2 rfl id); refine hK _ _ ?_; clear hK K
    -- 3: call F151(t10, t11, t12)
    refine stepS _ rfl (by kernel_rfl) (fun K hK => ?_); go_simp
    refine ⟨?_, ?_⟩
    · intro wk hk hg hu; go_simp; refine upon_enter ((k0.out _).mono ?_); rintro e w' ⟨rfl, hb⟩; exact ⟨_, rfl, left_V (p := fun u => u = .bool false) rfl (hb) rfl⟩
    rintro ⟨v3, lo3, hi3⟩ - - (rfl : v3 = _)
    refine hK _ _ ?_; clear hK K
    -- 4: not<4> t13
    refine stepK rfl (by kernel_rfl) (fun K hK => ?_); go_simp
    apply Exists.intro; apply And.intro; (focus (intro wk hk; go_simp; exact ⟨rfl, rfl⟩)); refine hK _ _ ?_; clear hK K
    -- 5: t14
    refine stepK rfl (by kernel_rfl) (fun K hK => ?_); go_simp
    apply Exists.intro; apply And.intro; (focus (intro wk hk; go_simp; exact ⟨rfl, rfl⟩)); refine hK _ _ ?_; clear hK K
    -- 6: load<31> *t3
    refine stepK rfl (by kernel_rfl) (fun K hK => ?_); go_simp
    first | (refine hK _ _ ?_; clear hK K) | (apply Exists.intro; apply And.intro; (focus (intro wk hk; go_simp; exact ⟨rfl, rfl⟩)); refine hK _ _ ?_; clear hK K)
    -- 7: build<31> 
    refine stepK rfl (by kernel_rfl) (fun K hK => ?_); go_simp
    first | (refine hK _ _ ?_; clear hK K) | (apply Exists.intro; apply And.intro; (focus (intro wk hk; go_simp; exact ⟨rfl, rfl⟩)); refine hK _ _ ?_; clear hK K)
    -- 8: eql<31> t16, t17
    refine stepK rfl (by kernel_rfl) (fun K hK => ?_); go_simp
    first | (refine hK _ _ ?_; clear hK K) | (apply Exists.intro; apply And.intro; (focus (intro wk hk; go_simp; exact ⟨rfl, rfl⟩)); refine hK _ _ ?_; clear hK K)
    -- 9: pick t15 ? true : t18
    refine stepK rfl (by kernel_rfl) (fun K hK => ?_); go_simp
    apply Exists.intro; apply And.intro; (focus (intro wk hk; go_simp; exact ⟨rfl, rfl⟩)); refine hK _ _ ?_; clear hK K
    -- 10: t19
    refine stepK rfl (by kernel_rfl) (fun K hK => ?_); go_simp
    apply Exists.intro; apply And.intro; (focus (intro wk hk; go_simp; exact ⟨rfl, rfl⟩)); refine hK _ _ ?_; clear hK K
    -- 11: load<31> *t5
    refine stepK rfl (by kernel_rfl) (fun K hK => ?_); go_simp
    first | (refine hK _ _ ?_; clear hK K) | (apply Exists.intro; apply And.intro; (focus (intro wk hk; go_simp; exact ⟨rfl, rfl⟩)); refine hK _ _ ?_; clear hK K)
    -- 12: build<31> 
    refine stepK rfl (by kernel_rfl) (fun K hK => ?_); go_simp
    first | (refine hK _ _ ?_; clear hK K) | (apply Exists.intro; apply And.intro; (focus (intro wk hk; go_simp; exact ⟨rfl, rfl⟩)); refine hK _ _ ?_; clear hK K)
    -- 13: eql<31> t21, t22
    refine stepK rfl (by kernel_rfl) (fun K hK => ?_); go_simp
    first | (refine hK _ _ ?_; clear hK K) | (apply Exists.intro; apply And.intro; (focus (intro wk hk; go_simp; exact ⟨rfl, rfl⟩)); refine hK _ _ ?_; clear hK K)
    -- 14: pick t20 ? true : t23
    refine stepK rfl (by kernel_rfl) (fun K hK => ?_); go_simp
    apply Exists.intro; apply And.intro; (focus (intro wk hk; go_simp; exact ⟨rfl, rfl⟩)); refine hK _ _ ?_; clear hK K
    refine stepN ?_
    refine hQ _ _ ?_
    intro w1 hT hG hF
    have hbw1 := hT.below
    replace r0 := r0.below hbw1 r0.lt
    replace r1 := r1.below hbw1 r1.lt
    replace r2 := r2.below hbw1 r2.lt
    replace r3 := r3.below hbw1 r3.lt
    replace hl := hl.trans (hbw1.mono hl.size)
    clear hT hG hF hbw1 hQ QQ L 
    go_upto_region 2 with (fail)
    let L : List Sp := [sO 1 (w.heap.size + 1 + 1 + 1) 31 [0] (fun g => aggOf g 0)]
    refine wp_region_six0 (shs L) (look6 L) (fun c => c = w.heap.size + 1 + 1 + 1) (by kernel_rfl) (by kernel_rfl) (mk_St L [1] [1] (by kernel_rfl) (by kernel_rfl) ⟨ok_O aggOf_congr r3.lt (rfl), trivial⟩ (by simp)) ?_
    intro QQ hQ
    -- 0: build<31> 
    refine stepK rfl (by kernel_rfl) (fun K hK => ?_); go_simp
    apply Exists.intro; apply And.intro; (focus (intro wk hk; go_simp; exact ⟨rfl, rfl⟩)); refine hK _ _ ?_; clear hK K
    -- 1: store<31> *t6 = t25
    refine stepS _ rfl (by kernel_rfl) (fun K hK => ?_); go_simp
    refine ⟨?_, ?_⟩
    · exact sStoreO rfl rfl rfl rfl rfl rfl r3 id (by kernel_rfl) rfl (by kernel_rfl) (by decide) aggOf_congr
    rintro ⟨v1, lo1, hi1⟩ - - (rfl : v1 = undef)
    refine hK _ _ ?_; clear hK K
    -- 2: assign false
    refine stepKz rfl (fun K hK => ?_); go_simp
    apply Exists.intro; apply And.intro; (focus (intro wk hk; go_simp; exact ⟨rfl, rfl⟩)); refine hK _ _ ?_; clear hK K
    refine stepN ?_
    refine hQ _ _ ?_
    intro w2 hT hG hF
    have hT' := hT
    have xr3 : Row w2 (w.heap.size + 1 + 1 + 1) 31 (W4 0) := Row.congr (show Row w2 (w.heap.size + 1 + 1 + 1) 31 _ from hF 1 _ rfl rfl (by decide)) W4_zero
    have hl9 : Below w.heap.size w w2 := hl.trans (hT'.below_of hl.size (by intro c hc; omega))
    replace r0 := K6.Row.tr r0 hT' (by show ¬ (w.heap.size = w.heap.size + 1 + 1 + 1); omega)
    replace r1 := K6.Row.tr r1 hT' (by show ¬ (w.heap.size + 1 = w.heap.size + 1 + 1 + 1); omega)
    replace r2 := K6.Row.tr r2 hT' (by show ¬ (w.heap.size + 1 + 1 = w.heap.size + 1 + 1 + 1); omega)
    clear hT hT' hG hF hQ QQ L hl r3
    have hl := hl9; clear hl9
    have r3 := xr3; clear xr3
    go_wp2_with fail
    refine bodyPost_ret (results_ct rfl aggT31 rfl r3 rfl) rfl ?_
    exact ⟨rfl, hl⟩
  · have hg2 : goodF d f E18 = true := goodF_mk (goodF_get hg).1 (goodF_get hg).2.1 (Nat.le_refl _)
    have hdm : d * m < M := dm_lt (goodF_get hg).1 (goodF_get hg).2.2
    rw [hg, Bool.true_and] at hE
    by_cases d0 : d = 0
    · rw [decide_eq_false (fun h => h d0), Bool.false_and] at hE
      rw [(hZ hE).1, (hZ hE).2]
      clear hE hO hZ hdm hg2
      have k0 := Lib.hid (show ∀ wx, Calls Try.prog 151 #[.agg (W4 d), .agg (W4 f), .agg (W4 m)] wx (Ret wx (.bool true)) from fun wx => by have h := goodFU hd hf hm wx; rw [hg] at h; exact h)
      have q0 : ∀ wx, (Op.equalIn 10000 31 (.agg (W4 d)) (.agg #[.int .u64 0, .int .u64 0, .int .u64 0, .int .u64 0])).run Try.prog wx = .ok true wx := fun wx => by rw [eqU0 hd, decide_eq_true d0]
      clear hg d0
      go_enter Try.func153, Try.ntmps153
      apply wp_seq_eq
      focus
        intro J hJ
        go_wp2_with fail
        exact hJ
      refine wp_abs (Mem w [(w.heap.size, 31, W4 d), (w.heap.size + 1, 31, W4 f), (w.heap.size + 1 + 1, 31, W4 m), (w.heap.size + 1 + 1 + 1, 31, arr .u64 (fun _ => 0) 4)]) ⟨by go_grown, ?_, ?_, ?_, ?_, trivial⟩ ?_
      · repeat (first | (refine Row.new_at ?_; simp; done) | refine Row.alloc ?_ _)
      · repeat (first | (refine Row.new_at ?_; simp; done) | refine Row.alloc ?_ _)
      · repeat (first | (refine Row.new_at ?_; simp; done) | refine Row.alloc ?_ _)
      · repeat (first | (refine Row.new_at ?_; simp; done) | refine Row.alloc ?_ _)
      intro w0 hM
      obtain ⟨hl, r0, r1, r2, r3, -⟩ := hM
      go_upto_region 1 with (fail)
      let L : List Sp := [sV 3 [] [] (fun u => u = .bool true)]
      refine wp_region_six0 (shs L) (look6 L) (None_) (by kernel_rfl) (by kernel_rfl) (mk_St L [] [] (by kernel_rfl) (by kernel_rfl) ⟨ok_V ⟨_, rfl⟩, trivial⟩ (by simp)) ?_
      intro QQ hQ
      -- 0: load<31> *t3
      refine stepK rfl (by kernel_rfl) (fun K hK => ?_); go_simp
      apply Exists.intro; apply And.intro; (focus exact kLoad rfl rfl aggT31 r0 rfl id); refine hK _ _ ?_; clear hK K
      -- 1: load<31> *t4
      refine stepK rfl (by kernel_rfl) (fun K hK => ?_); go_simp
      apply Exists.intro; apply And.intro; (focus exact kLoad rfl rfl aggT31 r1 rfl id); refine hK _ _ ?_; clear hK K
      -- 2: load<31> *t5
      refine stepK rfl (by kernel_rfl) (fun K hK => ?_); go_simp
      apply Exists.intro; apply And.intro; (focus exact kLoad rfl rfl aggT31 r2 rfl id); refine hK _ _ ?_; clear hK K
      -- 3: call F151(t10, t11, t12)
      refine stepS _ rfl (by kernel_rfl) (fun K hK => ?_); go_simp
      refine ⟨?_, ?_⟩
      · intro wk hk hg hu; go_simp; refine upon_enter ((k0.out _).mono ?_); rintro e w' ⟨rfl, hb⟩; exact ⟨_, rfl, left_V (p := fun u => u = .bool true) rfl (hb) rfl⟩
      rintro ⟨v3, lo3, hi3⟩ - - (rfl : v3 = _)
      refine hK _ _ ?_; clear hK K
      -- 4: not<4> t13
      refine stepK rfl (by kernel_rfl) (fun K hK => ?_); go_simp
      apply Exists.intro; apply And.intro; (focus (intro wk hk; go_simp; exact ⟨rfl, rfl⟩)); refine hK _ _ ?_; clear hK K
      -- 5: t14
      refine stepK rfl (by kernel_rfl) (fun K hK => ?_); go_simp
      apply Exists.intro; apply And.intro; (focus (intro wk hk; go_simp; exact ⟨rfl, rfl⟩)); refine hK _ _ ?_; clear hK K
      -- 6: load<31> *t3
      refine stepK rfl (by kernel_rfl) (fun K hK => ?_); go_simp
      first | (refine hK _ _ ?_; clear hK K) | (apply Exists.intro; apply And.intro; (focus exact kLoad rfl rfl aggT31 r0 rfl id); refine hK _ _ ?_; clear hK K)
      -- 7: build<31> 
      refine stepK rfl (by kernel_rfl) (fun K hK => ?_); go_simp
      first | (refine hK _ _ ?_; clear hK K) | (apply Exists.intro; apply And.intro; (focus (intro wk hk; go_simp; exact ⟨rfl, rfl⟩)); refine hK _ _ ?_; clear hK K)
      -- 8: eql<31> t16, t17
      refine stepK rfl (by kernel_rfl) (fun K hK => ?_); go_simp
      first | (refine hK _ _ ?_; clear hK K) | (apply Exists.intro; apply And.intro; (focus (intro wk hk; go_simp; exact ⟨rfl, rfl⟩)); refine hK _ _ ?_; clear hK K)
      -- 9: pick t15 ? true : t18
      refine stepK rfl (by kernel_rfl) (fun K hK => ?_); go_simp
      apply Exists.intro; apply And.intro; (focus (intro wk hk; go_simp; exact ⟨rfl, rfl⟩)); refine hK _ _ ?_; clear hK K
      -- 10: t19
      refine stepK rfl (by kernel_rfl) (fun K hK => ?_); go_simp
      apply Exists.intro; apply And.intro; (focus (intro wk hk; go_simp; exact ⟨rfl, rfl⟩)); refine hK _ _ ?_; clear hK K
      -- 11: load<31> *t5
      refine stepK rfl (by kernel_rfl) (fun K hK => ?_); go_simp
      first | (refine hK _ _ ?_; clear hK K) | (apply Exists.intro; apply And.intro; (focus (intro wk hk; go_simp; exact ⟨rfl, rfl⟩)); refine hK _ _ ?_; clear hK K)
      -- 12: build<31> 
      refine stepK rfl (by kernel_rfl) (fun K hK => ?_); go_simp
      first | (refine hK _ _ ?_; clear hK K) | (apply Exists.intro; apply And.intro; (focus (intro wk hk; go_simp; exact ⟨rfl, rfl⟩)); refine hK _ _ ?_; clear hK K)
      -- 13: eql<31> t21, t22
      refine stepK rfl (by kernel_rfl) (fun K hK => ?_); go_simp
      first | (refine hK _ _ ?_; clear hK K) | (apply Exists.intro; apply And.intro; (focus (intro wk hk; go_simp; exact ⟨rfl, rfl⟩)); refine hK _ _ ?_; clear hK K)
      -- 14: pick t20 ? true : t23
      refine stepK rfl (by kernel_rfl) (fun K hK => ?_); go_simp
      apply Exists.intro; apply And.intro; (focus (intro wk hk; go_simp; exact ⟨rfl, rfl⟩)); refine hK _ _ ?_; clear hK K
      refine stepN ?_
      refine hQ _ _ ?_
      intro w1 hT hG hF
      have hbw1 := hT.below
      replace r0 := r0.below hbw1 r0.lt
      replace r1 := r1.below hbw1 r1.lt
      replace r2 := r2.below hbw1 r2.lt
      replace r3 := r3.below hbw1 r3.lt
      replace hl := hl.trans (hbw1.mono hl.size)
      clear hT hG hF hbw1 hQ QQ L 
      go_upto_region 2 with (fail)
      let L : List Sp := [sO 1 (w.heap.size + 1 + 1 + 1) 31 [0] (fun g => aggOf g 0)]
      refine wp_region_six0 (shs L) (look6 L) (fun c => c = w.heap.size + 1 + 1 + 1) (by kernel_rfl) (by kernel_rfl) (mk_St L [1] [1] (by kernel_rfl) (by kernel_rfl) ⟨ok_O aggOf_congr r3.lt (rfl), trivial⟩ (by simp)) ?_
      intro QQ hQ
      -- 0: build<31> 
      refine stepK rfl (by kernel_rfl) (fun K hK => ?_); go_simp
      apply Exists.intro; apply And.intro; (focus (intro wk hk; go_simp; exact ⟨rfl, rfl⟩)); refine hK _ _ ?_; clear hK K
      -- 1: store<31> *t6 = t25
      refine stepS _ rfl (by kernel_rfl) (fun K hK => ?_); go_simp
      refine ⟨?_, ?_⟩
      · exact sStoreO rfl rfl rfl rfl rfl rfl r3 id (by kernel_rfl) rfl (by kernel_rfl) (by decide) aggOf_congr
      rintro ⟨v1, lo1, hi1⟩ - - (rfl : v1 = undef)
      refine hK _ _ ?_; clear hK K
      -- 2: assign false
      refine stepKz rfl (fun K hK => ?_); go_simp
      apply Exists.intro; apply And.intro; (focus (intro wk hk; go_simp; exact ⟨rfl, rfl⟩)); refine hK _ _ ?_; clear hK K
      refine stepN ?_
      refine hQ _ _ ?_
      intro w2 hT hG hF
      have hT' := hT
      have xr3 : Row w2 (w.heap.size + 1 + 1 + 1) 31 (W4 0) := Row.congr (show Row w2 (w.heap.size + 1 + 1 + 1) 31 _ from hF 1 _ rfl rfl (by decide)) W4_zero
      have hl9 : Below w.heap.size w w2 := hl.trans (hT'.below_of hl.size (by intro c hc; omega))
      replace r0 := K6.Row.tr r0 hT' (by show ¬ (w.heap.size = w.heap.size + 1 + 1 + 1); omega)
      replace r1 := K6.Row.tr r1 hT' (by show ¬ (w.heap.size + 1 = w.heap.size + 1 + 1 + 1); omega)
      replace r2 := K6.Row.tr r2 hT' (by show ¬ (w.heap.size + 1 + 1 = w.heap.size + 1 + 1 + 1); omega)
      clear hT hT' hG hF hQ QQ L hl r3
      have hl := hl9; clear hl9
      have r3 := xr3; clear xr3
      go_wp2_with fail
      refine bodyPost_ret (results_ct rfl aggT31 rfl r3 rfl) rfl ?_
      exact ⟨rfl, hl⟩
    · rw [decide_eq_true d0, Bool.true_and] at hE
      by_cases m0 : m = 0
      · rw [decide_eq_false (fun h => h m0)] at hE
        rw [(hZ hE).1, (hZ hE).2]
        clear hE hO hZ hdm hg2
        have k0 := Lib.hid (show ∀ wx, Calls Try.prog 151 #[.agg (W4 d), .agg (W4 f), .agg (W4 m)] wx (Ret wx (.bool true)) from fun wx => by have h := goodFU hd hf hm wx; rw [hg] at h; exact h)
        have q0 : ∀ wx, (Op.equalIn 10000 31 (.agg (W4 d)) (.agg #[.int .u64 0, .int .u64 0, .int .u64 0, .int .u64 0])).run Try.prog wx = .ok false wx := fun wx => by rw [eqU0 hd, decide_eq_false d0]
        have q1 : ∀ wx, (Op.equalIn 10000 31 (.agg (W4 m)) (.agg #[.int .u64 0, .int .u64 0, .int .u64 0, .int .u64 0])).run Try.prog wx = .ok true wx := fun wx => by rw [eqU0 hm, decide_eq_true m0]
        clear hg d0 m0
        go_enter Try.func153, Try.ntmps153
        apply wp_seq_eq
        focus
          intro J hJ
          go_wp2_with fail
          exact hJ
        refine wp_abs (Mem w [(w.heap.size, 31, W4 d), (w.heap.size + 1, 31, W4 f), (w.heap.size + 1 + 1, 31, W4 m), (w.heap.size + 1 + 1 + 1, 31, arr .u64 (fun _ => 0) 4)]) ⟨by go_grown, ?_, ?_, ?_, ?_, trivial⟩ ?_
        · repeat (first | (refine Row.new_at ?_; simp; done) | refine Row.alloc ?_ _)
        · repeat (first | (refine Row.new_at ?_; simp; done) | refine Row.alloc ?_ _)
        · repeat (first | (refine Row.new_at ?_; simp; done) | refine Row.alloc ?_ _)
        · repeat (first | (refine Row.new_at ?_; simp; done) | refine Row.alloc ?_ _)
        intro w0 hM
        obtain ⟨hl, r0, r1, r2, r3, -⟩ := hM
        go_upto_region 1 with (fail)
        let L : List Sp := [sV 3 [] [] (fun u => u = .bool true)]
        refine wp_region_six0 (shs L) (look6 L) (None_) (by kernel_rfl) (by kernel_rfl) (mk_St L [] [] (by kernel_rfl) (by kernel_rfl) ⟨ok_V ⟨_, rfl⟩, trivial⟩ (by simp)) ?_
        intro QQ hQ
        -- 0: load<31> *t3
        refine stepK rfl (by kernel_rfl) (fun K hK => ?_); go_simp
        apply Exists.intro; apply And.intro; (focus exact kLoad rfl rfl aggT31 r0 rfl id); refine hK _ _ ?_; clear hK K
        -- 1: load<31> *t4
        refine stepK rfl (by kernel_rfl) (fun K hK => ?_); go_simp
        apply Exists.intro; apply And.intro; (focus exact kLoad rfl rfl aggT31 r1 rfl id); refine hK _ _ ?_; clear hK K
        -- 2: load<31> *t5
        refine stepK rfl (by kernel_rfl) (fun K hK => ?_); go_simp
        apply Exists.intro; apply And.intro; (focus exact kLoad rfl rfl aggT31 r2 rfl id); refine hK _ _ ?_; clear hK K
        -- 3: call F151(t10, t11, t12)
        refine stepS _ rfl (by kernel_rfl) (fun K hK => ?_); go_simp
        refine ⟨?_, ?_⟩
        · intro wk hk hg hu; go_simp; refine upon_enter ((k0.out _).mono ?_); rintro e w' ⟨rfl, hb⟩; exact ⟨_, rfl, left_V (p := fun u => u = .bool true) rfl (hb) rfl⟩
        rintro ⟨v3, lo3, hi3⟩ - - (rfl : v3 = _)
        refine hK _ _ ?_; clear hK K
        -- 4: not<4> t13
        refine stepK rfl (by kernel_rfl) (fun K hK => ?_); go_simp
        apply Exists.intro; apply And.intro; (focus (intro wk hk; go_simp; exact ⟨rfl, rfl⟩)); refine hK _ _ ?_; clear hK K
        -- 5: t14
        refine stepK rfl (by kernel_rfl) (fun K hK => ?_); go_simp
        apply Exists.intro; apply And.intro; (focus (intro wk hk; go_simp; exact ⟨rfl, rfl⟩)); refine hK _ _ ?_; clear hK K
        -- 6: load<31> *t3
        refine stepK rfl (by kernel_rfl) (fun K hK => ?_); go_simp
        first | (refine hK _ _ ?_; clear hK K) | (apply Exists.intro; apply And.intro; (focus exact kLoad rfl rfl aggT31 r0 rfl id); refine hK _ _ ?_; clear hK K)
        -- 7: build<31> 
        refine stepK rfl (by kernel_rfl) (fun K hK => ?_); go_simp
        first | (refine hK _ _ ?_; clear hK K) | (apply Exists.intro; apply And.intro; (focus (intro wk hk; go_simp; exact ⟨rfl, rfl⟩)); refine hK _ _ ?_; clear hK K)
        -- 8: eql<31> t16, t17
        refine stepK rfl (by kernel_rfl) (fun K hK => ?_); go_simp
        first | (refine hK _ _ ?_; clear hK K) | (apply Exists.intro; apply And.intro; (focus (intro wk hk; go_simp; exact ⟨rfl, rfl⟩)); refine hK _ _ ?_; clear hK K)
        -- 9: pick t15 ? true : t18
        refine stepK rfl (by kernel_rfl) (fun K hK => ?_); go_simp
        apply Exists.intro; apply And.intro; (focus (intro wk hk; go_simp; exact ⟨rfl, rfl⟩)); refine hK _ _ ?_; clear hK K
        -- 10: t19
        refine stepK rfl (by kernel_rfl) (fun K hK => ?_); go_simp
        apply Exists.intro; apply And.intro; (focus (intro wk hk; go_simp; exact ⟨rfl, rfl⟩)); refine hK _ _ ?_; clear hK K
        -- 11: load<31> *t5
        refine stepK rfl (by kernel_rfl) (fun K hK => ?_); go_simp
        first | (refine hK _ _ ?_; clear hK K) | (apply Exists.intro; apply And.intro; (focus exact kLoad rfl rfl aggT31 r2 rfl id); refine hK _ _ ?_; clear hK K)
        -- 12: build<31> 
        refine stepK rfl (by kernel_rfl) (fun K hK => ?_); go_simp
        first | (refine hK _ _ ?_; clear hK K) | (apply Exists.intro; apply And.intro; (focus (intro wk hk; go_simp; exact ⟨rfl, rfl⟩)); refine hK _ _ ?_; clear hK K)
        -- 13: eql<31> t21, t22
        refine stepK rfl (by kernel_rfl) (fun K hK => ?_); go_simp
        first | (refine hK _ _ ?_; clear hK K) | (apply Exists.intro; apply And.intro; (focus (intro wk hk; go_simp; exact ⟨rfl, rfl⟩)); refine hK _ _ ?_; clear hK K)
        -- 14: pick t20 ? true : t23
        refine stepK rfl (by kernel_rfl) (fun K hK => ?_); go_simp
        apply Exists.intro; apply And.intro; (focus (intro wk hk; go_simp; exact ⟨rfl, rfl⟩)); refine hK _ _ ?_; clear hK K
        refine stepN ?_
        refine hQ _ _ ?_
        intro w1 hT hG hF
        have hbw1 := hT.below
        replace r0 := r0.below hbw1 r0.lt
        replace r1 := r1.below hbw1 r1.lt
        replace r2 := r2.below hbw1 r2.lt
        replace r3 := r3.below hbw1 r3.lt
        replace hl := hl.trans (hbw1.mono hl.size)
        clear hT hG hF hbw1 hQ QQ L 
        go_upto_region 2 with (fail)
        let L : List Sp := [sO 1 (w.heap.size + 1 + 1 + 1) 31 [0] (fun g => aggOf g 0)]
        refine wp_region_six0 (shs L) (look6 L) (fun c => c = w.heap.size + 1 + 1 + 1) (by kernel_rfl) (by kernel_rfl) (mk_St L [1] [1] (by kernel_rfl) (by kernel_rfl) ⟨ok_O aggOf_congr r3.lt (rfl), trivial⟩ (by simp)) ?_
        intro QQ hQ
        -- 0: build<31> 
        refine stepK rfl (by kernel_rfl) (fun K hK => ?_); go_simp
        apply Exists.intro; apply And.intro; (focus (intro wk hk; go_simp; exact ⟨rfl, rfl⟩)); refine hK _ _ ?_; clear hK K
        -- 1: store<31> *t6 = t25
        refine stepS _ rfl (by kernel_rfl) (fun K hK => ?_); go_simp
        refine ⟨?_, ?_⟩
        · exact sStoreO rfl rfl rfl rfl rfl rfl r3 id (by kernel_rfl) rfl (by kernel_rfl) (by decide) aggOf_congr
        rintro ⟨v1, lo1, hi1⟩ - - (rfl : v1 = undef)
        refine hK _ _ ?_; clear hK K
        -- 2: assign false
        refine stepKz rfl (fun K hK => ?_); go_simp
        apply Exists.intro; apply And.intro; (focus (intro wk hk; go_simp; exact ⟨rfl, rfl⟩)); refine hK _ _ ?_; clear hK K
        refine stepN ?_
        refine hQ _ _ ?_
        intro w2 hT hG hF
        have hT' := hT
        have xr3 : Row w2 (w.heap.size + 1 + 1 + 1) 31 (W4 0) := Row.congr (show Row w2 (w.heap.size + 1 + 1 + 1) 31 _ from hF 1 _ rfl rfl (by decide)) W4_zero
        have hl9 : Below w.heap.size w w2 := hl.trans (hT'.below_of hl.size (by intro c hc; omega))
        replace r0 := K6.Row.tr r0 hT' (by show ¬ (w.heap.size = w.heap.size + 1 + 1 + 1); omega)
        replace r1 := K6.Row.tr r1 hT' (by show ¬ (w.heap.size + 1 = w.heap.size + 1 + 1 + 1); omega)
        replace r2 := K6.Row.tr r2 hT' (by show ¬ (w.heap.size + 1 + 1 = w.heap.size + 1 + 1 + 1); omega)
        clear hT hT' hG hF hQ QQ L hl r3
        have hl := hl9; clear hl9
        have r3 := xr3; clear xr3
        go_wp2_with fail
        refine bodyPost_ret (results_ct rfl aggT31 rfl r3 rfl) rfl ?_
        exact ⟨rfl, hl⟩
      · rw [decide_eq_true m0] at hE
        rw [(hO hE).1, (hO hE).2]
        obtain ⟨v, hv⟩ : ∃ v, v = wrN d f E18 := ⟨_, rfl⟩
        have vl : v < M := hv ▸ wr_lt d f E18
        rw [← hv]
        have hfc := fun wx => factorU vl hd hm hdm wx
        obtain ⟨q, hq⟩ : ∃ q, q = fcN v (d * m) := ⟨_, rfl⟩
        obtain ⟨ok, hok⟩ : ∃ ok, ok = fcB v (d * m) := ⟨_, rfl⟩
        rw [← hq, ← hok] at hfc ⊢
        clear hE hO hZ hdm hq hok
        have k0 := Lib.hid (show ∀ wx, Calls Try.prog 151 #[.agg (W4 d), .agg (W4 f), .agg (W4 m)] wx (Ret wx (.bool true)) from fun wx => by have h := goodFU hd hf hm wx; rw [hg] at h; exact h)
        have k1 := Lib.hid (show ∀ wx, Calls Try.prog 107 #[] wx (Ret wx (.agg (W4 E18))) from fun wx => by have h := oneU  wx; exact h)
        have k2 := Lib.hid (show ∀ wx, Calls Try.prog 147 #[.agg (W4 d), .agg (W4 f), .agg (W4 E18)] wx (Ret wx (.tuple #[.agg (W4 v), .bool true])) from fun wx => by have h := worthU hd hf E18_lt wx; rw [← hv, hg2] at h; exact h)
        have k3 := Lib.hid (show ∀ wx, Calls Try.prog 223 #[.agg (W4 v), .agg (W4 d), .agg (W4 m)] wx (Ret wx (.tuple #[.agg (W4 q), .bool (ok)])) from fun wx => hfc wx)
        have q0 : ∀ wx, (Op.equalIn 10000 31 (.agg (W4 d)) (.agg #[.int .u64 0, .int .u64 0, .int .u64 0, .int .u64 0])).run Try.prog wx = .ok false wx := fun wx => by rw [eqU0 hd, decide_eq_false d0]
        have q1 : ∀ wx, (Op.equalIn 10000 31 (.agg (W4 m)) (.agg #[.int .u64 0, .int .u64 0, .int .u64 0, .int .u64 0])).run Try.prog wx = .ok false wx := fun wx => by rw [eqU0 hm, decide_eq_false m0]
        clear hg hg2 d0 m0 hv hfc
        go_enter Try.func153, Try.ntmps153
        apply wp_seq_eq
        focus
          intro J hJ
          go_wp2_with fail
          exact hJ
        refine wp_abs (Mem w [(w.heap.size, 31, W4 d), (w.heap.size + 1, 31, W4 f), (w.heap.size + 1 + 1, 31, W4 m), (w.heap.size + 1 + 1 + 1, 31, arr .u64 (fun _ => 0) 4)]) ⟨by go_grown, ?_, ?_, ?_, ?_, trivial⟩ ?_
        · repeat (first | (refine Row.new_at ?_; simp; done) | refine Row.alloc ?_ _)
        · repeat (first | (refine Row.new_at ?_; simp; done) | refine Row.alloc ?_ _)
        · repeat (first | (refine Row.new_at ?_; simp; done) | refine Row.alloc ?_ _)
        · repeat (first | (refine Row.new_at ?_; simp; done) | refine Row.alloc ?_ _)
        intro w0 hM
        obtain ⟨hl, r0, r1, r2, r3, -⟩ := hM
        go_upto_region 1 with (fail)
        let L : List Sp := [sV 3 [] [] (fun u => u = .bool true)]
        refine wp_region_six0 (shs L) (look6 L) (None_) (by kernel_rfl) (by kernel_rfl) (mk_St L [] [] (by kernel_rfl) (by kernel_rfl) ⟨ok_V ⟨_, rfl⟩, trivial⟩ (by simp)) ?_
        intro QQ hQ
        -- 0: load<31> *t3
        refine stepK rfl (by kernel_rfl) (fun K hK => ?_); go_simp
        apply Exists.intro; apply And.intro; (focus exact kLoad rfl rfl aggT31 r0 rfl id); refine hK _ _ ?_; clear hK K
        -- 1: load<31> *t4
        refine stepK rfl (by kernel_rfl) (fun K hK => ?_); go_simp
        apply Exists.intro; apply And.intro; (focus exact kLoad rfl rfl aggT31 r1 rfl id); refine hK _ _ ?_; clear hK K
        -- 2: load<31> *t5
        refine stepK rfl (by kernel_rfl) (fun K hK => ?_); go_simp
        apply Exists.intro; apply And.intro; (focus exact kLoad rfl rfl aggT31 r2 rfl id); refine hK _ _ ?_; clear hK K
        -- 3: call F151(t10, t11, t12)
        refine stepS _ rfl (by kernel_rfl) (fun K hK => ?_); go_simp
        refine ⟨?_, ?_⟩
        · intro wk hk hg hu; go_simp; refine upon_enter ((k0.out _).mono ?_); rintro e w' ⟨rfl, hb⟩; exact ⟨_, rfl, left_V (p := fun u => u = .bool true) rfl (hb) rfl⟩
        rintro ⟨v3, lo3, hi3⟩ - - (rfl : v3 = _)
        refine hK _ _ ?_; clear hK K
        -- 4: not<4> t13
        refine stepK rfl (by kernel_rfl) (fun K hK => ?_); go_simp
        apply Exists.intro; apply And.intro; (focus (intro wk hk; go_simp; exact ⟨rfl, rfl⟩)); refine hK _ _ ?_; clear hK K
        -- 5: t14
        refine stepK rfl (by kernel_rfl) (fun K hK => ?_); go_simp
        apply Exists.intro; apply And.intro; (focus (intro wk hk; go_simp; exact ⟨rfl, rfl⟩)); refine hK _ _ ?_; clear hK K
        -- 6: load<31> *t3
        refine stepK rfl (by kernel_rfl) (fun K hK => ?_); go_simp
        first | (refine hK _ _ ?_; clear hK K) | (apply Exists.intro; apply And.intro; (focus exact kLoad rfl rfl aggT31 r0 rfl id); refine hK _ _ ?_; clear hK K)
        -- 7: build<31> 
        refine stepK rfl (by kernel_rfl) (fun K hK => ?_); go_simp
        first | (refine hK _ _ ?_; clear hK K) | (apply Exists.intro; apply And.intro; (focus (intro wk hk; go_simp; exact ⟨rfl, rfl⟩)); refine hK _ _ ?_; clear hK K)
        -- 8: eql<31> t16, t17
        refine stepK rfl (by kernel_rfl) (fun K hK => ?_); go_simp
        first | (refine hK _ _ ?_; clear hK K) | (apply Exists.intro; apply And.intro; (focus (intro wk hk; go_simp; exact ⟨rfl, rfl⟩)); refine hK _ _ ?_; clear hK K)
        -- 9: pick t15 ? true : t18
        refine stepK rfl (by kernel_rfl) (fun K hK => ?_); go_simp
        apply Exists.intro; apply And.intro; (focus (intro wk hk; go_simp; exact ⟨rfl, rfl⟩)); refine hK _ _ ?_; clear hK K
        -- 10: t19
        refine stepK rfl (by kernel_rfl) (fun K hK => ?_); go_simp
        apply Exists.intro; apply And.intro; (focus (intro wk hk; go_simp; exact ⟨rfl, rfl⟩)); refine hK _ _ ?_; clear hK K
        -- 11: load<31> *t5
        refine stepK rfl (by kernel_rfl) (fun K hK => ?_); go_simp
        first | (refine hK _ _ ?_; clear hK K) | (apply Exists.intro; apply And.intro; (focus exact kLoad rfl rfl aggT31 r2 rfl id); refine hK _ _ ?_; clear hK K)
        -- 12: build<31> 
        refine stepK rfl (by kernel_rfl) (fun K hK => ?_); go_simp
        first | (refine hK _ _ ?_; clear hK K) | (apply Exists.intro; apply And.intro; (focus (intro wk hk; go_simp; exact ⟨rfl, rfl⟩)); refine hK _ _ ?_; clear hK K)
        -- 13: eql<31> t21, t22
        refine stepK rfl (by kernel_rfl) (fun K hK => ?_); go_simp
        first | (refine hK _ _ ?_; clear hK K) | (apply Exists.intro; apply And.intro; (focus (intro wk hk; go_simp; exact ⟨rfl, rfl⟩)); refine hK _ _ ?_; clear hK K)
        -- 14: pick t20 ? true : t23
        refine stepK rfl (by kernel_rfl) (fun K hK => ?_); go_simp
        apply Exists.intro; apply And.intro; (focus (intro wk hk; go_simp; exact ⟨rfl, rfl⟩)); refine hK _ _ ?_; clear hK K
        refine stepN ?_
        refine hQ _ _ ?_
        intro w1 hT hG hF
        have hbw1 := hT.below
        replace r0 := r0.below hbw1 r0.lt
        replace r1 := r1.below hbw1 r1.lt
        replace r2 := r2.below hbw1 r2.lt
        replace r3 := r3.below hbw1 r3.lt
        replace hl := hl.trans (hbw1.mono hl.size)
        clear hT hG hF hbw1 hQ QQ L 
        go_upto_region 3 with (fail)
        let L : List Sp := [sV 2 [] [] (fun u => u = .agg (W4 E18)), sV 3 [] [] (fun u => u = .tuple #[.agg (W4 v), .bool true]), sA 7 31 [8] #[.int .u64 0, .int .u64 0, .int .u64 0, .int .u64 0], sT 8 7 31 [5] (fun g => aggOf g 5)]
        refine wp_region_six (shs L) (look6 L) (None_) (by kernel_rfl) (by kernel_rfl) (mk_St L [] [] (by kernel_rfl) (by kernel_rfl) ⟨ok_V ⟨_, rfl⟩, ok_V ⟨_, rfl⟩, ok_A, ok_T aggOf_congr, trivial⟩ (by simp)) ?_
        intro QQ hQ
        -- 0: load<31> *t3
        refine stepK rfl (by kernel_rfl) (fun K hK => ?_); go_simp
        apply Exists.intro; apply And.intro; (focus exact kLoad rfl rfl aggT31 r0 rfl id); refine hK _ _ ?_; clear hK K
        -- 1: load<31> *t4
        refine stepK rfl (by kernel_rfl) (fun K hK => ?_); go_simp
        apply Exists.intro; apply And.intro; (focus exact kLoad rfl rfl aggT31 r1 rfl id); refine hK _ _ ?_; clear hK K
        -- 2: call F107()
        refine stepS _ rfl (by kernel_rfl) (fun K hK => ?_); go_simp
        refine ⟨?_, ?_⟩
        · intro wk hk hg hu; go_simp; refine upon_enter ((k1.out _).mono ?_); rintro e w' ⟨rfl, hb⟩; exact ⟨_, rfl, left_V (p := fun u => u = .agg (W4 E18)) rfl (hb) rfl⟩
        rintro ⟨v2, lo2, hi2⟩ - - (rfl : v2 = _)
        refine hK _ _ ?_; clear hK K
        -- 3: call F147(t27, t28, t29)
        refine stepS _ rfl (by kernel_rfl) (fun K hK => ?_); go_simp
        refine ⟨?_, ?_⟩
        · intro wk hk hg hu; go_simp; refine upon_enter ((k2.out _).mono ?_); rintro e w' ⟨rfl, hb⟩; exact ⟨_, rfl, left_V (p := fun u => u = .tuple #[.agg (W4 v), .bool true]) rfl (hb) rfl⟩
        rintro ⟨v3, lo3, hi3⟩ - - (rfl : v3 = _)
        refine hK _ _ ?_; clear hK K
        -- 4: t30
        refine stepK rfl (by kernel_rfl) (fun K hK => ?_); go_simp
        apply Exists.intro; apply And.intro; (focus (intro wk hk; go_simp; exact ⟨rfl, rfl⟩)); refine hK _ _ ?_; clear hK K
        -- 5: extract t26 #0
        refine stepK rfl (by kernel_rfl) (fun K hK => ?_); go_simp
        apply Exists.intro; apply And.intro; (focus (intro wk hk; go_simp; exact ⟨rfl, rfl⟩)); refine hK _ _ ?_; clear hK K
        -- 6: extract t26 #1
        refine stepK rfl (by kernel_rfl) (fun K hK => ?_); go_simp
        apply Exists.intro; apply And.intro; (focus (intro wk hk; go_simp; exact ⟨rfl, rfl⟩)); refine hK _ _ ?_; clear hK K
        -- 7: alloc<31>
        refine stepS _ rfl (by kernel_rfl) (fun K hK => ?_); go_simp
        refine ⟨?_, ?_⟩
        · intro wk hk hg hu; go_simp; exact left_A rfl rfl
        rintro ⟨v7, lo3_7, hi7⟩ hlo7 hhi7 ⟨e7, f7⟩
        replace e7 : v7 = .pointer (some ⟨lo3_7, 0, none⟩) := e7; replace f7 : hi7 = lo3_7 + 1 := f7; replace hlo7 : _ ≤ lo3_7 := hlo7; subst e7; subst f7
        refine hK _ _ ?_; clear hK K
        -- 8: store<31> *t8 = t31
        refine stepS _ rfl (by kernel_rfl) (fun K hK => ?_); go_simp
        refine ⟨?_, ?_⟩
        · exact sStoreT rfl rfl rfl rfl rfl rfl rfl (by kernel_rfl) rfl (by kernel_rfl) (by decide) aggOf_congr
        rintro ⟨v8, lo8, hi8⟩ - - (rfl : v8 = undef)
        refine hK _ _ ?_; clear hK K
        -- 9: assign t32
        refine stepK rfl (by kernel_rfl) (fun K hK => ?_); go_simp
        apply Exists.intro; apply And.intro; (focus (intro wk hk; go_simp; exact ⟨rfl, rfl⟩)); refine hK _ _ ?_; clear hK K
        refine stepN ?_
        refine hQ _ _ ?_
        intro w2 hT hG hF
        have nr4r0 : w.heap.size < lo3_7 := Nat.lt_of_lt_of_le r0.lt hlo7
        have nr4r1 : w.heap.size + 1 < lo3_7 := Nat.lt_of_lt_of_le r1.lt hlo7
        have nr4r2 : w.heap.size + 1 + 1 < lo3_7 := Nat.lt_of_lt_of_le r2.lt hlo7
        have nr4r3 : w.heap.size + 1 + 1 + 1 < lo3_7 := Nat.lt_of_lt_of_le r3.lt hlo7
        have hbw2 := hT.undrew.below
        have r4 : Row w2 lo3_7 31 ((W4 v)) := (hF 8 _ rfl rfl (by decide)).2
        replace r0 := r0.below hbw2 r0.lt
        replace r1 := r1.below hbw2 r1.lt
        replace r2 := r2.below hbw2 r2.lt
        replace r3 := r3.below hbw2 r3.lt
        replace hl := hl.trans (hbw2.mono hl.size)
        clear hT hG hF hbw2 hQ QQ L hlo7 hhi7
        go_upto_region 4 with (fail)
        let L : List Sp := [sV 3 [] [] (fun u => u = .tuple #[.agg (W4 q), .bool (ok)]), sO 6 (w.heap.size + 1 + 1 + 1) 31 [4] (fun g => aggOf g 4)]
        refine wp_region_six0 (shs L) (look6 L) (fun c => c = w.heap.size + 1 + 1 + 1) (by kernel_rfl) (by kernel_rfl) (mk_St L [6] [6] (by kernel_rfl) (by kernel_rfl) ⟨ok_V ⟨_, rfl⟩, ok_O aggOf_congr r3.lt (rfl), trivial⟩ (by simp)) ?_
        intro QQ hQ
        -- 0: load<31> *t8
        refine stepK rfl (by kernel_rfl) (fun K hK => ?_); go_simp
        apply Exists.intro; apply And.intro; (focus exact kLoad rfl rfl aggT31 r4 rfl (by first | exact id | (intro hx; have hx' : _ = _ ∨ _ = _ := hx; omega) | (intro hx; have hx' : _ = _ := hx; omega) | omega)); refine hK _ _ ?_; clear hK K
        -- 1: load<31> *t3
        refine stepK rfl (by kernel_rfl) (fun K hK => ?_); go_simp
        apply Exists.intro; apply And.intro; (focus exact kLoad rfl rfl aggT31 r0 rfl (by first | exact id | (intro hx; have hx' : _ = _ ∨ _ = _ := hx; omega) | (intro hx; have hx' : _ = _ := hx; omega) | omega)); refine hK _ _ ?_; clear hK K
        -- 2: load<31> *t5
        refine stepK rfl (by kernel_rfl) (fun K hK => ?_); go_simp
        apply Exists.intro; apply And.intro; (focus exact kLoad rfl rfl aggT31 r2 rfl (by first | exact id | (intro hx; have hx' : _ = _ ∨ _ = _ := hx; omega) | (intro hx; have hx' : _ = _ := hx; omega) | omega)); refine hK _ _ ?_; clear hK K
        -- 3: call F223(t33, t34, t35)
        refine stepS _ rfl (by kernel_rfl) (fun K hK => ?_); go_simp
        refine ⟨?_, ?_⟩
        · intro wk hk hg hu; go_simp; refine upon_enter ((k3.out _).mono ?_); rintro e w' ⟨rfl, hb⟩; exact ⟨_, rfl, left_V (p := fun u => u = .tuple #[.agg (W4 q), .bool (ok)]) rfl (hb) rfl⟩
        rintro ⟨v3, lo3, hi3⟩ - - (rfl : v3 = _)
        refine hK _ _ ?_; clear hK K
        -- 4: extract t36 #0
        refine stepK rfl (by kernel_rfl) (fun K hK => ?_); go_simp
        apply Exists.intro; apply And.intro; (focus (intro wk hk; go_simp; exact ⟨rfl, rfl⟩)); refine hK _ _ ?_; clear hK K
        -- 5: extract t36 #1
        refine stepK rfl (by kernel_rfl) (fun K hK => ?_); go_simp
        apply Exists.intro; apply And.intro; (focus (intro wk hk; go_simp; exact ⟨rfl, rfl⟩)); refine hK _ _ ?_; clear hK K
        -- 6: store<31> *t6 = t37
        refine stepS _ rfl (by kernel_rfl) (fun K hK => ?_); go_simp
        refine ⟨?_, ?_⟩
        · exact sStoreO rfl rfl rfl rfl rfl rfl r3 id (by kernel_rfl) rfl (by kernel_rfl) (by decide) aggOf_congr
        rintro ⟨v6, lo6, hi6⟩ - - (rfl : v6 = undef)
        refine hK _ _ ?_; clear hK K
        -- 7: assign t38
        refine stepKz rfl (fun K hK => ?_); go_simp
        apply Exists.intro; apply And.intro; (focus (intro wk hk; go_simp; exact ⟨rfl, rfl⟩)); refine hK _ _ ?_; clear hK K
        refine stepN ?_
        refine hQ _ _ ?_
        intro w3 hT hG hF
        have hT' := hT
        have xr3 : Row w3 (w.heap.size + 1 + 1 + 1) 31 ((W4 q)) := hF 6 _ rfl rfl (by decide)
        have hl9 : Below w.heap.size w w3 := hl.trans (hT'.below_of hl.size (by intro c hc; omega))
        replace r0 := K6.Row.tr r0 hT' (by show ¬ (w.heap.size = w.heap.size + 1 + 1 + 1); omega)
        replace r1 := K6.Row.tr r1 hT' (by show ¬ (w.heap.size + 1 = w.heap.size + 1 + 1 + 1); omega)
        replace r2 := K6.Row.tr r2 hT' (by show ¬ (w.heap.size + 1 + 1 = w.heap.size + 1 + 1 + 1); omega)
        replace r4 := K6.Row.tr r4 hT' (by show ¬ (lo3_7 = w.heap.size + 1 + 1 + 1); omega)
        clear hT hT' hG hF hQ QQ L hl r3
        have hl := hl9; clear hl9
        have r3 := xr3; clear xr3
        go_wp2_with fail
        refine bodyPost_ret (results_ct rfl aggT31 rfl r3 rfl) rfl ?_
        exact ⟨rfl, hl⟩
theorem E9_lt : 1000000000 < M := by unfold M; omega
set_option maxRecDepth 100000 in
set_option maxHeartbeats 16000000 in
theorem nearU {v t f : Nat} (hv : v < M) (ht : t < M) (hf : f < M) (hN : 1000000000 ≤ f → addN (addN v (t / 1000000000)) 2 ≥ t) (w : World) : Calls Try.prog 150 #[.agg (W4 v), .agg (W4 t), .agg (W4 f)] w (Ret w (.bool true)) := by
  obtain ⟨c, hc⟩ : ∃ c, c = cmpN f 1000000000 := ⟨_, rfl⟩
  by_cases h : f < 1000000000
  · have h0 : c < 0 := by rw [hc]; unfold cmpN; rw [if_pos h]; omega
    clear h hN
    have k0 := Lib.hid (show ∀ wx, Calls Try.prog 57 #[.agg (W4 f), .agg #[.int .u64 1000000000, .int .u64 0, .int .u64 0, .int .u64 0]] wx (Ret wx (.int .i64 c)) from fun wx => by have h := refcmpU hf (show 1000000000 < M by unfold M; omega) wx; rw [← hc] at h; exact h)
    clear hc
    go_enter Try.func150, Try.ntmps150
    apply wp_seq_eq
    focus
      intro J hJ
      go_wp2_with fail
      exact hJ
    refine wp_abs (Mem w [(w.heap.size, 31, W4 v), (w.heap.size + 1, 31, W4 t), (w.heap.size + 1 + 1, 31, W4 f)]) ⟨by go_grown, ?_, ?_, ?_, trivial⟩ ?_
    · repeat (first | (refine Row.new_at ?_; simp; done) | refine Row.alloc ?_ _)
    · repeat (first | (refine Row.new_at ?_; simp; done) | refine Row.alloc ?_ _)
    · repeat (first | (refine Row.new_at ?_; simp; done) | refine Row.alloc ?_ _)
    intro w0 hM
    obtain ⟨hl, r0, r1, r2, -⟩ := hM
    go_upto_region 1 with (fail)
    let L : List Sp := [sA 1 31 [2] #[.int .u64 0, .int .u64 0, .int .u64 0, .int .u64 0], sT 2 1 31 [0] (fun g => aggOf g 0)]
    refine wp_region_six0 (shs L) (look6 L) (None_) (by kernel_rfl) (by kernel_rfl) (mk_St L [] [] (by kernel_rfl) (by kernel_rfl) ⟨ok_A, ok_T aggOf_congr, trivial⟩ (by simp)) ?_
    intro QQ hQ
    -- 0: build<31> 0:1000000000u
    refine stepK rfl (by kernel_rfl) (fun K hK => ?_); go_simp
    apply Exists.intro; apply And.intro; (focus (intro wk hk; go_simp; exact ⟨rfl, rfl⟩)); refine hK _ _ ?_; clear hK K
    -- 1: alloc<31>
    refine stepS _ rfl (by kernel_rfl) (fun K hK => ?_); go_simp
    refine ⟨?_, ?_⟩
    · intro wk hk hg hu; go_simp; exact left_A rfl rfl
    rintro ⟨v1, lo1_1, hi1⟩ hlo1 hhi1 ⟨e1, f1⟩
    replace e1 : v1 = .pointer (some ⟨lo1_1, 0, none⟩) := e1; replace f1 : hi1 = lo1_1 + 1 := f1; replace hlo1 : _ ≤ lo1_1 := hlo1; subst e1; subst f1
    refine hK _ _ ?_; clear hK K
    -- 2: store<31> *t7 = t13
    refine stepS _ rfl (by kernel_rfl) (fun K hK => ?_); go_simp
    refine ⟨?_, ?_⟩
    · exact sStoreT rfl rfl rfl rfl rfl rfl rfl (by kernel_rfl) rfl (by kernel_rfl) (by decide) aggOf_congr
    rintro ⟨v2, lo2, hi2⟩ - - (rfl : v2 = undef)
    refine hK _ _ ?_; clear hK K
    refine stepN ?_
    refine hQ _ _ ?_
    intro w1 hT hG hF
    have hbw1 := hT.below
    have r3 : Row w1 lo1_1 31 #[.int .u64 1000000000, .int .u64 0, .int .u64 0, .int .u64 0] := (hF 2 _ rfl rfl (by decide)).2
    replace r0 := r0.below hbw1 r0.lt
    replace r1 := r1.below hbw1 r1.lt
    replace r2 := r2.below hbw1 r2.lt
    replace hl := hl.trans (hbw1.mono hl.size)
    clear hT hG hF hbw1 hQ QQ L hlo1 hhi1
    go_upto_region 2 with (fail)
    let L : List Sp := [sV 2 [] [] (fun u => u = .int .i64 c)]
    refine wp_region_six0 (shs L) (look6 L) (None_) (by kernel_rfl) (by kernel_rfl) (mk_St L [] [] (by kernel_rfl) (by kernel_rfl) ⟨ok_V ⟨_, rfl⟩, trivial⟩ (by simp)) ?_
    intro QQ hQ
    -- 0: load<31> *t5
    refine stepK rfl (by kernel_rfl) (fun K hK => ?_); go_simp
    apply Exists.intro; apply And.intro; (focus exact kLoad rfl rfl aggT31 r2 rfl id); refine hK _ _ ?_; clear hK K
    -- 1: load<31> *t7
    refine stepK rfl (by kernel_rfl) (fun K hK => ?_); go_simp
    apply Exists.intro; apply And.intro; (focus exact kLoad rfl rfl aggT31 r3 rfl id); refine hK _ _ ?_; clear hK K
    -- 2: call F57(t14, t15)
    refine stepS _ rfl (by kernel_rfl) (fun K hK => ?_); go_simp
    refine ⟨?_, ?_⟩
    · intro wk hk hg hu; go_simp; refine upon_enter ((k0.out _).mono ?_); rintro e w' ⟨rfl, hb⟩; exact ⟨_, rfl, left_V (p := fun u => u = .int .i64 c) rfl (hb) rfl⟩
    rintro ⟨v2, lo2, hi2⟩ - - (rfl : v2 = _)
    refine hK _ _ ?_; clear hK K
    -- 3: lss<3> t16, 0
    refine stepK rfl (by kernel_rfl) (fun K hK => ?_); go_simp
    apply Exists.intro; apply And.intro; (focus (intro wk hk; go_simp; exact ⟨rfl, rfl⟩)); refine hK _ _ ?_; clear hK K
    refine stepN ?_
    refine hQ _ _ ?_
    intro w2 hT hG hF
    have hbw2 := hT.below
    replace r0 := r0.below hbw2 r0.lt
    replace r1 := r1.below hbw2 r1.lt
    replace r2 := r2.below hbw2 r2.lt
    replace r3 := r3.below hbw2 r3.lt
    replace hl := hl.trans (hbw2.mono hl.size)
    clear hT hG hF hbw2 hQ QQ L 
    go_wp2_with fail
    go_ret
    exact ⟨rfl, hl⟩
  · have h0 : 0 ≤ c := by rw [hc]; unfold cmpN; rw [if_neg h]; split <;> omega
    have h1 := hN (by omega)
    clear h hN
    obtain ⟨p, hp⟩ : ∃ p, p = t / 1000000000 := ⟨_, rfl⟩
    obtain ⟨r, hr⟩ : ∃ r, r = divR t 1000000000 := ⟨_, rfl⟩
    rw [← hp] at h1
    obtain ⟨s, hs⟩ : ∃ s, s = addN v p := ⟨_, rfl⟩
    obtain ⟨b1, hb1⟩ : ∃ b, b = addB v p := ⟨_, rfl⟩
    rw [← hs] at h1
    obtain ⟨q, hq⟩ : ∃ q, q = addN s 2 := ⟨_, rfl⟩
    obtain ⟨b2, hb2⟩ : ∃ b, b = addB s 2 := ⟨_, rfl⟩
    rw [← hq] at h1
    have pl : p < M := hp ▸ Nat.lt_of_le_of_lt (Nat.div_le_self _ _) ht
    have sl : s < M := hs ▸ addN_lt2 _ _
    have ql : q < M := hq ▸ addN_lt2 _ _
    obtain ⟨e, he⟩ : ∃ e, e = cmpN q t := ⟨_, rfl⟩
    have h2 : 0 ≤ e := by rw [he]; unfold cmpN; rw [if_neg (by omega)]; split <;> omega
    have hz : decide ((1000000000 : Nat) ≠ 0) = true := by decide
    clear h1
    have k0 := Lib.hid (show ∀ wx, Calls Try.prog 57 #[.agg (W4 f), .agg #[.int .u64 1000000000, .int .u64 0, .int .u64 0, .int .u64 0]] wx (Ret wx (.int .i64 c)) from fun wx => by have h := refcmpU hf (show 1000000000 < M by unfold M; omega) wx; rw [← hc] at h; exact h)
    have k1 := Lib.hid (show ∀ wx, Calls Try.prog 56 #[.agg (W4 t), .agg #[.int .u64 1000000000, .int .u64 0, .int .u64 0, .int .u64 0]] wx (Ret wx (.tuple #[.agg (W4 p), .agg (W4 r), .bool true])) from fun wx => by have h := refdivU ht (show 1000000000 < M by unfold M; omega) wx; rw [← hp, ← hr, hz] at h; exact h)
    have k2 := Lib.hid (show ∀ wx, Calls Try.prog 51 #[.agg (W4 v), .agg (W4 p)] wx (Ret wx (.tuple #[.agg (W4 s), .bool (b1)])) from fun wx => by have h := refaddU hv pl wx; rw [← hs, ← hb1] at h; exact h)
    have k3 := Lib.hid (show ∀ wx, Calls Try.prog 51 #[.agg (W4 s), .agg #[.int .u64 2, .int .u64 0, .int .u64 0, .int .u64 0]] wx (Ret wx (.tuple #[.agg (W4 q), .bool (b2)])) from fun wx => by have h := refaddU sl (show 2 < M by unfold M; omega) wx; rw [← hq, ← hb2] at h; exact h)
    have k4 := Lib.hid (show ∀ wx, Calls Try.prog 57 #[.agg (W4 q), .agg (W4 t)] wx (Ret wx (.int .i64 e)) from fun wx => by have h := refcmpU ql ht wx; rw [← he] at h; exact h)
    clear hc hp hr hz hs hb1 hq hb2 he
    go_enter Try.func150, Try.ntmps150
    apply wp_seq_eq
    focus
      intro J hJ
      go_wp2_with fail
      exact hJ
    refine wp_abs (Mem w [(w.heap.size, 31, W4 v), (w.heap.size + 1, 31, W4 t), (w.heap.size + 1 + 1, 31, W4 f)]) ⟨by go_grown, ?_, ?_, ?_, trivial⟩ ?_
    · repeat (first | (refine Row.new_at ?_; simp; done) | refine Row.alloc ?_ _)
    · repeat (first | (refine Row.new_at ?_; simp; done) | refine Row.alloc ?_ _)
    · repeat (first | (refine Row.new_at ?_; simp; done) | refine Row.alloc ?_ _)
    intro w0 hM
    obtain ⟨hl, r0, r1, r2, -⟩ := hM
    go_upto_region 1 with (fail)
    let L : List Sp := [sA 1 31 [2] #[.int .u64 0, .int .u64 0, .int .u64 0, .int .u64 0], sT 2 1 31 [0] (fun g => aggOf g 0)]
    refine wp_region_six0 (shs L) (look6 L) (None_) (by kernel_rfl) (by kernel_rfl) (mk_St L [] [] (by kernel_rfl) (by kernel_rfl) ⟨ok_A, ok_T aggOf_congr, trivial⟩ (by simp)) ?_
    intro QQ hQ
    -- 0: build<31> 0:1000000000u
    refine stepK rfl (by kernel_rfl) (fun K hK => ?_); go_simp
    apply Exists.intro; apply And.intro; (focus (intro wk hk; go_simp; exact ⟨rfl, rfl⟩)); refine hK _ _ ?_; clear hK K
    -- 1: alloc<31>
    refine stepS _ rfl (by kernel_rfl) (fun K hK => ?_); go_simp
    refine ⟨?_, ?_⟩
    · intro wk hk hg hu; go_simp; exact left_A rfl rfl
    rintro ⟨v1, lo1_1, hi1⟩ hlo1 hhi1 ⟨e1, f1⟩
    replace e1 : v1 = .pointer (some ⟨lo1_1, 0, none⟩) := e1; replace f1 : hi1 = lo1_1 + 1 := f1; replace hlo1 : _ ≤ lo1_1 := hlo1; subst e1; subst f1
    refine hK _ _ ?_; clear hK K
    -- 2: store<31> *t7 = t13
    refine stepS _ rfl (by kernel_rfl) (fun K hK => ?_); go_simp
    refine ⟨?_, ?_⟩
    · exact sStoreT rfl rfl rfl rfl rfl rfl rfl (by kernel_rfl) rfl (by kernel_rfl) (by decide) aggOf_congr
    rintro ⟨v2, lo2, hi2⟩ - - (rfl : v2 = undef)
    refine hK _ _ ?_; clear hK K
    refine stepN ?_
    refine hQ _ _ ?_
    intro w1 hT hG hF
    have nr3r0 : w.heap.size < lo1_1 := Nat.lt_of_lt_of_le r0.lt hlo1
    have nr3r1 : w.heap.size + 1 < lo1_1 := Nat.lt_of_lt_of_le r1.lt hlo1
    have nr3r2 : w.heap.size + 1 + 1 < lo1_1 := Nat.lt_of_lt_of_le r2.lt hlo1
    have hbw1 := hT.below
    have r3 : Row w1 lo1_1 31 #[.int .u64 1000000000, .int .u64 0, .int .u64 0, .int .u64 0] := (hF 2 _ rfl rfl (by decide)).2
    replace r0 := r0.below hbw1 r0.lt
    replace r1 := r1.below hbw1 r1.lt
    replace r2 := r2.below hbw1 r2.lt
    replace hl := hl.trans (hbw1.mono hl.size)
    clear hT hG hF hbw1 hQ QQ L hlo1 hhi1
    go_upto_region 2 with (fail)
    let L : List Sp := [sV 2 [] [] (fun u => u = .int .i64 c)]
    refine wp_region_six0 (shs L) (look6 L) (None_) (by kernel_rfl) (by kernel_rfl) (mk_St L [] [] (by kernel_rfl) (by kernel_rfl) ⟨ok_V ⟨_, rfl⟩, trivial⟩ (by simp)) ?_
    intro QQ hQ
    -- 0: load<31> *t5
    refine stepK rfl (by kernel_rfl) (fun K hK => ?_); go_simp
    apply Exists.intro; apply And.intro; (focus exact kLoad rfl rfl aggT31 r2 rfl id); refine hK _ _ ?_; clear hK K
    -- 1: load<31> *t7
    refine stepK rfl (by kernel_rfl) (fun K hK => ?_); go_simp
    apply Exists.intro; apply And.intro; (focus exact kLoad rfl rfl aggT31 r3 rfl id); refine hK _ _ ?_; clear hK K
    -- 2: call F57(t14, t15)
    refine stepS _ rfl (by kernel_rfl) (fun K hK => ?_); go_simp
    refine ⟨?_, ?_⟩
    · intro wk hk hg hu; go_simp; refine upon_enter ((k0.out _).mono ?_); rintro e w' ⟨rfl, hb⟩; exact ⟨_, rfl, left_V (p := fun u => u = .int .i64 c) rfl (hb) rfl⟩
    rintro ⟨v2, lo2, hi2⟩ - - (rfl : v2 = _)
    refine hK _ _ ?_; clear hK K
    -- 3: lss<3> t16, 0
    refine stepK rfl (by kernel_rfl) (fun K hK => ?_); go_simp
    apply Exists.intro; apply And.intro; (focus (intro wk hk; go_simp; exact ⟨rfl, rfl⟩)); refine hK _ _ ?_; clear hK K
    refine stepN ?_
    refine hQ _ _ ?_
    intro w2 hT hG hF
    have hbw2 := hT.below
    replace r0 := r0.below hbw2 r0.lt
    replace r1 := r1.below hbw2 r1.lt
    replace r2 := r2.below hbw2 r2.lt
    replace r3 := r3.below hbw2 r3.lt
    replace hl := hl.trans (hbw2.mono hl.size)
    clear hT hG hF hbw2 hQ QQ L 
    go_upto_region 4 with (fail)
    let L : List Sp := [sV 2 [] [] (fun u => u = .tuple #[.agg (W4 p), .agg (W4 r), .bool true]), sA 7 31 [9] #[.int .u64 0, .int .u64 0, .int .u64 0, .int .u64 0], sA 8 31 [10] #[.int .u64 0, .int .u64 0, .int .u64 0, .int .u64 0], sT 9 7 31 [4] (fun g => aggOf g 4), sT 10 8 31 [5] (fun g => aggOf g 5)]
    refine wp_region_six0 (shs L) (look6 L) (None_) (by kernel_rfl) (by kernel_rfl) (mk_St L [] [] (by kernel_rfl) (by kernel_rfl) ⟨ok_V ⟨_, rfl⟩, ok_A, ok_A, ok_T aggOf_congr, ok_T aggOf_congr, trivial⟩ (by simp)) ?_
    intro QQ hQ
    -- 0: load<31> *t4
    refine stepK rfl (by kernel_rfl) (fun K hK => ?_); go_simp
    apply Exists.intro; apply And.intro; (focus exact kLoad rfl rfl aggT31 r1 rfl id); refine hK _ _ ?_; clear hK K
    -- 1: load<31> *t7
    refine stepK rfl (by kernel_rfl) (fun K hK => ?_); go_simp
    apply Exists.intro; apply And.intro; (focus exact kLoad rfl rfl aggT31 r3 rfl id); refine hK _ _ ?_; clear hK K
    -- 2: call F56(t19, t20)
    refine stepS _ rfl (by kernel_rfl) (fun K hK => ?_); go_simp
    refine ⟨?_, ?_⟩
    · intro wk hk hg hu; go_simp; refine upon_enter ((k1.out _).mono ?_); rintro e w' ⟨rfl, hb⟩; exact ⟨_, rfl, left_V (p := fun u => u = .tuple #[.agg (W4 p), .agg (W4 r), .bool true]) rfl (hb) rfl⟩
    rintro ⟨v2, lo2, hi2⟩ - - (rfl : v2 = _)
    refine hK _ _ ?_; clear hK K
    -- 3: t21
    refine stepK rfl (by kernel_rfl) (fun K hK => ?_); go_simp
    apply Exists.intro; apply And.intro; (focus (intro wk hk; go_simp; exact ⟨rfl, rfl⟩)); refine hK _ _ ?_; clear hK K
    -- 4: extract t18 #0
    refine stepK rfl (by kernel_rfl) (fun K hK => ?_); go_simp
    apply Exists.intro; apply And.intro; (focus (intro wk hk; go_simp; exact ⟨rfl, rfl⟩)); refine hK _ _ ?_; clear hK K
    -- 5: extract t18 #1
    refine stepK rfl (by kernel_rfl) (fun K hK => ?_); go_simp
    apply Exists.intro; apply And.intro; (focus (intro wk hk; go_simp; exact ⟨rfl, rfl⟩)); refine hK _ _ ?_; clear hK K
    -- 6: extract t18 #2
    refine stepK rfl (by kernel_rfl) (fun K hK => ?_); go_simp
    apply Exists.intro; apply And.intro; (focus (intro wk hk; go_simp; exact ⟨rfl, rfl⟩)); refine hK _ _ ?_; clear hK K
    -- 7: alloc<31>
    refine stepS _ rfl (by kernel_rfl) (fun K hK => ?_); go_simp
    refine ⟨?_, ?_⟩
    · intro wk hk hg hu; go_simp; exact left_A rfl rfl
    rintro ⟨v7, lo4_7, hi7⟩ hlo7 hhi7 ⟨e7, f7⟩
    replace e7 : v7 = .pointer (some ⟨lo4_7, 0, none⟩) := e7; replace f7 : hi7 = lo4_7 + 1 := f7; replace hlo7 : _ ≤ lo4_7 := hlo7; subst e7; subst f7
    refine hK _ _ ?_; clear hK K
    -- 8: alloc<31>
    refine stepS _ rfl (by kernel_rfl) (fun K hK => ?_); go_simp
    refine ⟨?_, ?_⟩
    · intro wk hk hg hu; go_simp; exact left_A rfl rfl
    rintro ⟨v8, lo4_8, hi8⟩ hlo8 hhi8 ⟨e8, f8⟩
    replace e8 : v8 = .pointer (some ⟨lo4_8, 0, none⟩) := e8; replace f8 : hi8 = lo4_8 + 1 := f8; replace hlo8 : _ ≤ lo4_8 := hlo8; subst e8; subst f8
    refine hK _ _ ?_; clear hK K
    -- 9: store<31> *t8 = t22
    refine stepS _ rfl (by kernel_rfl) (fun K hK => ?_); go_simp
    refine ⟨?_, ?_⟩
    · exact sStoreT rfl rfl rfl rfl rfl rfl rfl (by kernel_rfl) rfl (by kernel_rfl) (by decide) aggOf_congr
    rintro ⟨v9, lo9, hi9⟩ - - (rfl : v9 = undef)
    refine hK _ _ ?_; clear hK K
    -- 10: store<31> *t9 = t23
    refine stepS _ rfl (by kernel_rfl) (fun K hK => ?_); go_simp
    refine ⟨?_, ?_⟩
    · exact sStoreT rfl rfl rfl rfl rfl rfl rfl (by kernel_rfl) rfl (by kernel_rfl) (by decide) aggOf_congr
    rintro ⟨v10, lo10, hi10⟩ - - (rfl : v10 = undef)
    refine hK _ _ ?_; clear hK K
    -- 11: assign t24
    refine stepK rfl (by kernel_rfl) (fun K hK => ?_); go_simp
    apply Exists.intro; apply And.intro; (focus (intro wk hk; go_simp; exact ⟨rfl, rfl⟩)); refine hK _ _ ?_; clear hK K
    refine stepN ?_
    refine hQ _ _ ?_
    intro w3 hT hG hF
    have nr4r0 : w.heap.size < lo4_7 := Nat.lt_of_lt_of_le r0.lt hlo7
    have nr4r1 : w.heap.size + 1 < lo4_7 := Nat.lt_of_lt_of_le r1.lt hlo7
    have nr4r2 : w.heap.size + 1 + 1 < lo4_7 := Nat.lt_of_lt_of_le r2.lt hlo7
    have nr4r3 : lo1_1 < lo4_7 := Nat.lt_of_lt_of_le r3.lt hlo7
    have nr5r0 : w.heap.size < lo4_8 := Nat.lt_of_lt_of_le r0.lt hlo8
    have nr5r1 : w.heap.size + 1 < lo4_8 := Nat.lt_of_lt_of_le r1.lt hlo8
    have nr5r2 : w.heap.size + 1 + 1 < lo4_8 := Nat.lt_of_lt_of_le r2.lt hlo8
    have nr5r3 : lo1_1 < lo4_8 := Nat.lt_of_lt_of_le r3.lt hlo8
    have hbw3 := hT.below
    have r4 : Row w3 lo4_7 31 ((W4 p)) := (hF 9 _ rfl rfl (by decide)).2
    have r5 : Row w3 lo4_8 31 ((W4 r)) := (hF 10 _ rfl rfl (by decide)).2
    replace r0 := r0.below hbw3 r0.lt
    replace r1 := r1.below hbw3 r1.lt
    replace r2 := r2.below hbw3 r2.lt
    replace r3 := r3.below hbw3 r3.lt
    replace hl := hl.trans (hbw3.mono hl.size)
    clear hT hG hF hbw3 hQ QQ L hlo7 hhi7 hlo8 hhi8
    go_upto_region 5 with (fail)
    let L : List Sp := [sV 2 [] [] (fun u => u = .tuple #[.agg (W4 s), .bool (b1)]), sA 6 31 [7] #[.int .u64 0, .int .u64 0, .int .u64 0, .int .u64 0], sT 7 6 31 [4] (fun g => aggOf g 4)]
    refine wp_region_six0 (shs L) (look6 L) (None_) (by kernel_rfl) (by kernel_rfl) (mk_St L [] [] (by kernel_rfl) (by kernel_rfl) ⟨ok_V ⟨_, rfl⟩, ok_A, ok_T aggOf_congr, trivial⟩ (by simp)) ?_
    intro QQ hQ
    -- 0: load<31> *t3
    refine stepK rfl (by kernel_rfl) (fun K hK => ?_); go_simp
    apply Exists.intro; apply And.intro; (focus exact kLoad rfl rfl aggT31 r0 rfl id); refine hK _ _ ?_; clear hK K
    -- 1: load<31> *t8
    refine stepK rfl (by kernel_rfl) (fun K hK => ?_); go_simp
    apply Exists.intro; apply And.intro; (focus exact kLoad rfl rfl aggT31 r4 rfl id); refine hK _ _ ?_; clear hK K
    -- 2: call F51(t26, t27)
    refine stepS _ rfl (by kernel_rfl) (fun K hK => ?_); go_simp
    refine ⟨?_, ?_⟩
    · intro wk hk hg hu; go_simp; refine upon_enter ((k2.out _).mono ?_); rintro e w' ⟨rfl, hb⟩; exact ⟨_, rfl, left_V (p := fun u => u = .tuple #[.agg (W4 s), .bool (b1)]) rfl (hb) rfl⟩
    rintro ⟨v2, lo2, hi2⟩ - - (rfl : v2 = _)
    refine hK _ _ ?_; clear hK K
    -- 3: t28
    refine stepK rfl (by kernel_rfl) (fun K hK => ?_); go_simp
    apply Exists.intro; apply And.intro; (focus (intro wk hk; go_simp; exact ⟨rfl, rfl⟩)); refine hK _ _ ?_; clear hK K
    -- 4: extract t25 #0
    refine stepK rfl (by kernel_rfl) (fun K hK => ?_); go_simp
    apply Exists.intro; apply And.intro; (focus (intro wk hk; go_simp; exact ⟨rfl, rfl⟩)); refine hK _ _ ?_; clear hK K
    -- 5: extract t25 #1
    refine stepK rfl (by kernel_rfl) (fun K hK => ?_); go_simp
    apply Exists.intro; apply And.intro; (focus (intro wk hk; go_simp; exact ⟨rfl, rfl⟩)); refine hK _ _ ?_; clear hK K
    -- 6: alloc<31>
    refine stepS _ rfl (by kernel_rfl) (fun K hK => ?_); go_simp
    refine ⟨?_, ?_⟩
    · intro wk hk hg hu; go_simp; exact left_A rfl rfl
    rintro ⟨v6, lo5_6, hi6⟩ hlo6 hhi6 ⟨e6, f6⟩
    replace e6 : v6 = .pointer (some ⟨lo5_6, 0, none⟩) := e6; replace f6 : hi6 = lo5_6 + 1 := f6; replace hlo6 : _ ≤ lo5_6 := hlo6; subst e6; subst f6
    refine hK _ _ ?_; clear hK K
    -- 7: store<31> *t11 = t29
    refine stepS _ rfl (by kernel_rfl) (fun K hK => ?_); go_simp
    refine ⟨?_, ?_⟩
    · exact sStoreT rfl rfl rfl rfl rfl rfl rfl (by kernel_rfl) rfl (by kernel_rfl) (by decide) aggOf_congr
    rintro ⟨v7, lo7, hi7⟩ - - (rfl : v7 = undef)
    refine hK _ _ ?_; clear hK K
    -- 8: assign t30
    refine stepK rfl (by kernel_rfl) (fun K hK => ?_); go_simp
    apply Exists.intro; apply And.intro; (focus (intro wk hk; go_simp; exact ⟨rfl, rfl⟩)); refine hK _ _ ?_; clear hK K
    refine stepN ?_
    refine hQ _ _ ?_
    intro w4 hT hG hF
    have nr6r0 : w.heap.size < lo5_6 := Nat.lt_of_lt_of_le r0.lt hlo6
    have nr6r1 : w.heap.size + 1 < lo5_6 := Nat.lt_of_lt_of_le r1.lt hlo6
    have nr6r2 : w.heap.size + 1 + 1 < lo5_6 := Nat.lt_of_lt_of_le r2.lt hlo6
    have nr6r3 : lo1_1 < lo5_6 := Nat.lt_of_lt_of_le r3.lt hlo6
    have nr6r4 : lo4_7 < lo5_6 := Nat.lt_of_lt_of_le r4.lt hlo6
    have nr6r5 : lo4_8 < lo5_6 := Nat.lt_of_lt_of_le r5.lt hlo6
    have hbw4 := hT.below
    have r6 : Row w4 lo5_6 31 ((W4 s)) := (hF 7 _ rfl rfl (by decide)).2
    replace r0 := r0.below hbw4 r0.lt
    replace r1 := r1.below hbw4 r1.lt
    replace r2 := r2.below hbw4 r2.lt
    replace r3 := r3.below hbw4 r3.lt
    replace r4 := r4.below hbw4 r4.lt
    replace r5 := r5.below hbw4 r5.lt
    replace hl := hl.trans (hbw4.mono hl.size)
    clear hT hG hF hbw4 hQ QQ L hlo6 hhi6
    go_upto_region 6 with (fail)
    let L : List Sp := [sV 2 [] [] (fun u => u = .tuple #[.agg (W4 q), .bool (b2)]), sO 6 (lo5_6) 31 [4] (fun g => aggOf g 4)]
    refine wp_region_six0 (shs L) (look6 L) (fun c => c = lo5_6) (by kernel_rfl) (by kernel_rfl) (mk_St L [6] [6] (by kernel_rfl) (by kernel_rfl) ⟨ok_V ⟨_, rfl⟩, ok_O aggOf_congr r6.lt (rfl), trivial⟩ (by simp)) ?_
    intro QQ hQ
    -- 0: load<31> *t11
    refine stepK rfl (by kernel_rfl) (fun K hK => ?_); go_simp
    apply Exists.intro; apply And.intro; (focus exact kLoad rfl rfl aggT31 r6 rfl (by first | exact id | (intro hx; have hx' : _ = _ ∨ _ = _ := hx; omega) | (intro hx; have hx' : _ = _ := hx; omega) | omega)); refine hK _ _ ?_; clear hK K
    -- 1: build<31> 0:2u
    refine stepK rfl (by kernel_rfl) (fun K hK => ?_); go_simp
    apply Exists.intro; apply And.intro; (focus (intro wk hk; go_simp; exact ⟨rfl, rfl⟩)); refine hK _ _ ?_; clear hK K
    -- 2: call F51(t32, t33)
    refine stepS _ rfl (by kernel_rfl) (fun K hK => ?_); go_simp
    refine ⟨?_, ?_⟩
    · intro wk hk hg hu; go_simp; refine upon_enter ((k3.out _).mono ?_); rintro e w' ⟨rfl, hb⟩; exact ⟨_, rfl, left_V (p := fun u => u = .tuple #[.agg (W4 q), .bool (b2)]) rfl (hb) rfl⟩
    rintro ⟨v2, lo2, hi2⟩ - - (rfl : v2 = _)
    refine hK _ _ ?_; clear hK K
    -- 3: t34
    refine stepK rfl (by kernel_rfl) (fun K hK => ?_); go_simp
    apply Exists.intro; apply And.intro; (focus (intro wk hk; go_simp; exact ⟨rfl, rfl⟩)); refine hK _ _ ?_; clear hK K
    -- 4: extract t31 #0
    refine stepK rfl (by kernel_rfl) (fun K hK => ?_); go_simp
    apply Exists.intro; apply And.intro; (focus (intro wk hk; go_simp; exact ⟨rfl, rfl⟩)); refine hK _ _ ?_; clear hK K
    -- 5: extract t31 #1
    refine stepKz rfl (fun K hK => ?_); go_simp
    apply Exists.intro; apply And.intro; (focus (intro wk hk; go_simp; exact ⟨rfl, rfl⟩)); refine hK _ _ ?_; clear hK K
    -- 6: store<31> *t11 = t35
    refine stepS _ rfl (by kernel_rfl) (fun K hK => ?_); go_simp
    refine ⟨?_, ?_⟩
    · exact sStoreO rfl rfl rfl rfl rfl rfl r6 id (by kernel_rfl) rfl (by kernel_rfl) (by decide) aggOf_congr
    rintro ⟨v6, lo6, hi6⟩ - - (rfl : v6 = undef)
    refine hK _ _ ?_; clear hK K
    refine stepN ?_
    refine hQ _ _ ?_
    intro w5 hT hG hF
    have hT' := hT
    have xr6 : Row w5 (lo5_6) 31 ((W4 q)) := hF 6 _ rfl rfl (by decide)
    have hl9 : Below w.heap.size w w5 := hl.trans (hT'.below_of hl.size (by intro c hc; omega))
    replace r0 := K6.Row.tr r0 hT' (by show ¬ (w.heap.size = lo5_6); omega)
    replace r1 := K6.Row.tr r1 hT' (by show ¬ (w.heap.size + 1 = lo5_6); omega)
    replace r2 := K6.Row.tr r2 hT' (by show ¬ (w.heap.size + 1 + 1 = lo5_6); omega)
    replace r3 := K6.Row.tr r3 hT' (by show ¬ (lo1_1 = lo5_6); omega)
    replace r4 := K6.Row.tr r4 hT' (by show ¬ (lo4_7 = lo5_6); omega)
    replace r5 := K6.Row.tr r5 hT' (by show ¬ (lo4_8 = lo5_6); omega)
    clear hT hT' hG hF hQ QQ L hl r6
    have hl := hl9; clear hl9
    have r6 := xr6; clear xr6
    go_upto_region 7 with (fail)
    let L : List Sp := [sV 2 [] [] (fun u => u = .int .i64 e)]
    refine wp_region_six0 (shs L) (look6 L) (None_) (by kernel_rfl) (by kernel_rfl) (mk_St L [] [] (by kernel_rfl) (by kernel_rfl) ⟨ok_V ⟨_, rfl⟩, trivial⟩ (by simp)) ?_
    intro QQ hQ
    -- 0: load<31> *t11
    refine stepK rfl (by kernel_rfl) (fun K hK => ?_); go_simp
    apply Exists.intro; apply And.intro; (focus exact kLoad rfl rfl aggT31 r6 rfl id); refine hK _ _ ?_; clear hK K
    -- 1: load<31> *t4
    refine stepK rfl (by kernel_rfl) (fun K hK => ?_); go_simp
    apply Exists.intro; apply And.intro; (focus exact kLoad rfl rfl aggT31 r1 rfl id); refine hK _ _ ?_; clear hK K
    -- 2: call F57(t37, t38)
    refine stepS _ rfl (by kernel_rfl) (fun K hK => ?_); go_simp
    refine ⟨?_, ?_⟩
    · intro wk hk hg hu; go_simp; refine upon_enter ((k4.out _).mono ?_); rintro e w' ⟨rfl, hb⟩; exact ⟨_, rfl, left_V (p := fun u => u = .int .i64 e) rfl (hb) rfl⟩
    rintro ⟨v2, lo2, hi2⟩ - - (rfl : v2 = _)
    refine hK _ _ ?_; clear hK K
    -- 3: geq<3> t39, 0
    refine stepK rfl (by kernel_rfl) (fun K hK => ?_); go_simp
    apply Exists.intro; apply And.intro; (focus (intro wk hk; go_simp; exact ⟨rfl, rfl⟩)); refine hK _ _ ?_; clear hK K
    -- 4: assign t40
    refine stepK rfl (by kernel_rfl) (fun K hK => ?_); go_simp
    apply Exists.intro; apply And.intro; (focus (intro wk hk; go_simp; exact ⟨rfl, rfl⟩)); refine hK _ _ ?_; clear hK K
    refine stepN ?_
    refine hQ _ _ ?_
    intro w6 hT hG hF
    have hbw6 := hT.below
    replace r0 := r0.below hbw6 r0.lt
    replace r1 := r1.below hbw6 r1.lt
    replace r2 := r2.below hbw6 r2.lt
    replace r3 := r3.below hbw6 r3.lt
    replace r4 := r4.below hbw6 r4.lt
    replace r5 := r5.below hbw6 r5.lt
    replace r6 := r6.below hbw6 r6.lt
    replace hl := hl.trans (hbw6.mono hl.size)
    clear hT hG hF hbw6 hQ QQ L 
    go_wp2_with fail
    go_ret
    exact ⟨rfl, hl⟩
set_option maxRecDepth 100000 in
set_option maxHeartbeats 16000000 in
theorem lives20U (w : World) : Calls Try.prog 149 #[] w (Ret w (.bool true)) := by
  have k0 := Lib.hid (show ∀ wx, Calls Try.prog 107 #[] wx (Ret wx (.agg (W4 E18))) from fun wx => by have h := oneU  wx; exact h)
  have k1 := Lib.hid (show ∀ wx, Calls Try.prog 147 #[.agg #[.int .u64 100, .int .u64 0, .int .u64 0, .int .u64 0], .agg (W4 E18), .agg #[.int .u64 500000000000000000, .int .u64 0, .int .u64 0, .int .u64 0]] wx (Ret wx (.tuple #[.agg (W4 50), .bool true])) from fun wx => by have h := worthU (show 100 < M by unfold M; omega) E18_lt (show 500000000000000000 < M by unfold M; omega) wx; rw [show wrN 100 E18 500000000000000000 = 50 by decide, show goodF 100 E18 500000000000000000 = true by decide] at h; exact h)
  have k2 := Lib.hid (show ∀ wx, Calls Try.prog 148 #[.agg #[.int .u64 100, .int .u64 0, .int .u64 0, .int .u64 0], .agg (W4 E18), .agg #[.int .u64 500000000000000000, .int .u64 0, .int .u64 0, .int .u64 0], .agg #[.int .u64 50, .int .u64 0, .int .u64 0, .int .u64 0]] wx (Ret wx (.tuple #[.agg (W4 1333333333333333333), .bool true])) from fun wx => by have h := growU (show 100 < M by unfold M; omega) E18_lt (show 500000000000000000 < M by unfold M; omega) (show 50 < M by unfold M; omega) wx; rw [show grN 100 E18 500000000000000000 50 = 1333333333333333333 by decide, show grB 100 E18 500000000000000000 50 = true by decide] at h; exact h)
  have q0 : ∀ wx, (Op.equalIn 10000 31 (.agg (W4 50)) (.agg #[.int .u64 50, .int .u64 0, .int .u64 0, .int .u64 0])).run Try.prog wx = .ok true wx := fun wx => by have h := eqU (a := 50) (b := 50) (by unfold M; omega) (by unfold M; omega) wx; rw [decide_eq_true rfl] at h; exact h
  have q1 : ∀ wx, (Op.equalIn 10000 31 (.agg (W4 1333333333333333333)) (.agg #[.int .u64 1333333333333333333, .int .u64 0, .int .u64 0, .int .u64 0])).run Try.prog wx = .ok true wx := fun wx => by have h := eqU (a := 1333333333333333333) (b := 1333333333333333333) (by unfold M; omega) (by unfold M; omega) wx; rw [decide_eq_true rfl] at h; exact h
  go_enter Try.func149, Try.ntmps149
  apply wp_seq_eq
  focus
    intro J hJ
    go_wp2_with fail
    exact hJ
  have hl := Below.refl w.heap.size w
  go_upto_region 1 with (fail)
  let L : List Sp := [sA 1 31 [2] #[.int .u64 0, .int .u64 0, .int .u64 0, .int .u64 0], sT 2 1 31 [0] (fun g => aggOf g 0)]
  refine wp_region_six0 (shs L) (look6 L) (None_) (by kernel_rfl) (by kernel_rfl) (mk_St L [] [] (by kernel_rfl) (by kernel_rfl) ⟨ok_A, ok_T aggOf_congr, trivial⟩ (by simp)) ?_
  intro QQ hQ
  -- 0: build<31> 0:500000000000000000u
  refine stepK rfl (by kernel_rfl) (fun K hK => ?_); go_simp
  apply Exists.intro; apply And.intro; (focus (intro wk hk; go_simp; exact ⟨rfl, rfl⟩)); refine hK _ _ ?_; clear hK K
  -- 1: alloc<31>
  refine stepS _ rfl (by kernel_rfl) (fun K hK => ?_); go_simp
  refine ⟨?_, ?_⟩
  · intro wk hk hg hu; go_simp; exact left_A rfl rfl
  rintro ⟨v1, lo1_1, hi1⟩ hlo1 hhi1 ⟨e1, f1⟩
  replace e1 : v1 = .pointer (some ⟨lo1_1, 0, none⟩) := e1; replace f1 : hi1 = lo1_1 + 1 := f1; replace hlo1 : _ ≤ lo1_1 := hlo1; subst e1; subst f1
  refine hK _ _ ?_; clear hK K
  -- 2: store<31> *t1 = t6
  refine stepS _ rfl (by kernel_rfl) (fun K hK => ?_); go_simp
  refine ⟨?_, ?_⟩
  · exact sStoreT rfl rfl rfl rfl rfl rfl rfl (by kernel_rfl) rfl (by kernel_rfl) (by decide) aggOf_congr
  rintro ⟨v2, lo2, hi2⟩ - - (rfl : v2 = undef)
  refine hK _ _ ?_; clear hK K
  refine stepN ?_
  refine hQ _ _ ?_
  intro w1 hT hG hF
  have hbw1 := hT.below
  have r0 : Row w1 lo1_1 31 #[.int .u64 500000000000000000, .int .u64 0, .int .u64 0, .int .u64 0] := (hF 2 _ rfl rfl (by decide)).2
  replace hl := hl.trans (hbw1.mono hl.size)
  clear hT hG hF hbw1 hQ QQ L hlo1 hhi1
  go_upto_region 2 with (fail)
  let L : List Sp := [sV 1 [] [] (fun u => u = .agg (W4 E18)), sV 3 [] [] (fun u => u = .tuple #[.agg (W4 50), .bool true]), sA 7 31 [8] #[.int .u64 0, .int .u64 0, .int .u64 0, .int .u64 0], sT 8 7 31 [5] (fun g => aggOf g 5)]
  refine wp_region_six (shs L) (look6 L) (None_) (by kernel_rfl) (by kernel_rfl) (mk_St L [] [] (by kernel_rfl) (by kernel_rfl) ⟨ok_V ⟨_, rfl⟩, ok_V ⟨_, rfl⟩, ok_A, ok_T aggOf_congr, trivial⟩ (by simp)) ?_
  intro QQ hQ
  -- 0: build<31> 0:100u
  refine stepK rfl (by kernel_rfl) (fun K hK => ?_); go_simp
  apply Exists.intro; apply And.intro; (focus (intro wk hk; go_simp; exact ⟨rfl, rfl⟩)); refine hK _ _ ?_; clear hK K
  -- 1: call F107()
  refine stepS _ rfl (by kernel_rfl) (fun K hK => ?_); go_simp
  refine ⟨?_, ?_⟩
  · intro wk hk hg hu; go_simp; refine upon_enter ((k0.out _).mono ?_); rintro e w' ⟨rfl, hb⟩; exact ⟨_, rfl, left_V (p := fun u => u = .agg (W4 E18)) rfl (hb) rfl⟩
  rintro ⟨v1, lo1, hi1⟩ - - (rfl : v1 = _)
  refine hK _ _ ?_; clear hK K
  -- 2: load<31> *t1
  refine stepK rfl (by kernel_rfl) (fun K hK => ?_); go_simp
  apply Exists.intro; apply And.intro; (focus exact kLoad rfl rfl aggT31 r0 rfl id); refine hK _ _ ?_; clear hK K
  -- 3: call F147(t8, t9, t10)
  refine stepS _ rfl (by kernel_rfl) (fun K hK => ?_); go_simp
  refine ⟨?_, ?_⟩
  · intro wk hk hg hu; go_simp; refine upon_enter ((k1.out _).mono ?_); rintro e w' ⟨rfl, hb⟩; exact ⟨_, rfl, left_V (p := fun u => u = .tuple #[.agg (W4 50), .bool true]) rfl (hb) rfl⟩
  rintro ⟨v3, lo3, hi3⟩ - - (rfl : v3 = _)
  refine hK _ _ ?_; clear hK K
  -- 4: t11
  refine stepK rfl (by kernel_rfl) (fun K hK => ?_); go_simp
  apply Exists.intro; apply And.intro; (focus (intro wk hk; go_simp; exact ⟨rfl, rfl⟩)); refine hK _ _ ?_; clear hK K
  -- 5: extract t7 #0
  refine stepK rfl (by kernel_rfl) (fun K hK => ?_); go_simp
  apply Exists.intro; apply And.intro; (focus (intro wk hk; go_simp; exact ⟨rfl, rfl⟩)); refine hK _ _ ?_; clear hK K
  -- 6: extract t7 #1
  refine stepK rfl (by kernel_rfl) (fun K hK => ?_); go_simp
  apply Exists.intro; apply And.intro; (focus (intro wk hk; go_simp; exact ⟨rfl, rfl⟩)); refine hK _ _ ?_; clear hK K
  -- 7: alloc<31>
  refine stepS _ rfl (by kernel_rfl) (fun K hK => ?_); go_simp
  refine ⟨?_, ?_⟩
  · intro wk hk hg hu; go_simp; exact left_A rfl rfl
  rintro ⟨v7, lo2_7, hi7⟩ hlo7 hhi7 ⟨e7, f7⟩
  replace e7 : v7 = .pointer (some ⟨lo2_7, 0, none⟩) := e7; replace f7 : hi7 = lo2_7 + 1 := f7; replace hlo7 : _ ≤ lo2_7 := hlo7; subst e7; subst f7
  refine hK _ _ ?_; clear hK K
  -- 8: store<31> *t2 = t12
  refine stepS _ rfl (by kernel_rfl) (fun K hK => ?_); go_simp
  refine ⟨?_, ?_⟩
  · exact sStoreT rfl rfl rfl rfl rfl rfl rfl (by kernel_rfl) rfl (by kernel_rfl) (by decide) aggOf_congr
  rintro ⟨v8, lo8, hi8⟩ - - (rfl : v8 = undef)
  refine hK _ _ ?_; clear hK K
  -- 9: assign t13
  refine stepK rfl (by kernel_rfl) (fun K hK => ?_); go_simp
  apply Exists.intro; apply And.intro; (focus (intro wk hk; go_simp; exact ⟨rfl, rfl⟩)); refine hK _ _ ?_; clear hK K
  refine stepN ?_
  refine hQ _ _ ?_
  intro w2 hT hG hF
  have hbw2 := hT.undrew.below
  have r1 : Row w2 lo2_7 31 ((W4 50)) := (hF 8 _ rfl rfl (by decide)).2
  replace r0 := r0.below hbw2 r0.lt
  replace hl := hl.trans (hbw2.mono hl.size)
  clear hT hG hF hbw2 hQ QQ L hlo7 hhi7
  go_upto_region 3 with (fail)
  let L : List Sp := [sV 1 [] [] (fun u => u = .agg (W4 E18)), sV 4 [] [] (fun u => u = .tuple #[.agg (W4 1333333333333333333), .bool true]), sA 8 31 [9] #[.int .u64 0, .int .u64 0, .int .u64 0, .int .u64 0], sT 9 8 31 [6] (fun g => aggOf g 6)]
  refine wp_region_six (shs L) (look6 L) (None_) (by kernel_rfl) (by kernel_rfl) (mk_St L [] [] (by kernel_rfl) (by kernel_rfl) ⟨ok_V ⟨_, rfl⟩, ok_V ⟨_, rfl⟩, ok_A, ok_T aggOf_congr, trivial⟩ (by simp)) ?_
  intro QQ hQ
  -- 0: build<31> 0:100u
  refine stepK rfl (by kernel_rfl) (fun K hK => ?_); go_simp
  apply Exists.intro; apply And.intro; (focus (intro wk hk; go_simp; exact ⟨rfl, rfl⟩)); refine hK _ _ ?_; clear hK K
  -- 1: call F107()
  refine stepS _ rfl (by kernel_rfl) (fun K hK => ?_); go_simp
  refine ⟨?_, ?_⟩
  · intro wk hk hg hu; go_simp; refine upon_enter ((k0.out _).mono ?_); rintro e w' ⟨rfl, hb⟩; exact ⟨_, rfl, left_V (p := fun u => u = .agg (W4 E18)) rfl (hb) rfl⟩
  rintro ⟨v1, lo1, hi1⟩ - - (rfl : v1 = _)
  refine hK _ _ ?_; clear hK K
  -- 2: load<31> *t1
  refine stepK rfl (by kernel_rfl) (fun K hK => ?_); go_simp
  apply Exists.intro; apply And.intro; (focus exact kLoad rfl rfl aggT31 r0 rfl id); refine hK _ _ ?_; clear hK K
  -- 3: build<31> 0:50u
  refine stepK rfl (by kernel_rfl) (fun K hK => ?_); go_simp
  apply Exists.intro; apply And.intro; (focus (intro wk hk; go_simp; exact ⟨rfl, rfl⟩)); refine hK _ _ ?_; clear hK K
  -- 4: call F148(t15, t16, t17, t18)
  refine stepS _ rfl (by kernel_rfl) (fun K hK => ?_); go_simp
  refine ⟨?_, ?_⟩
  · intro wk hk hg hu; go_simp; refine upon_enter ((k2.out _).mono ?_); rintro e w' ⟨rfl, hb⟩; exact ⟨_, rfl, left_V (p := fun u => u = .tuple #[.agg (W4 1333333333333333333), .bool true]) rfl (hb) rfl⟩
  rintro ⟨v4, lo4, hi4⟩ - - (rfl : v4 = _)
  refine hK _ _ ?_; clear hK K
  -- 5: t19
  refine stepK rfl (by kernel_rfl) (fun K hK => ?_); go_simp
  apply Exists.intro; apply And.intro; (focus (intro wk hk; go_simp; exact ⟨rfl, rfl⟩)); refine hK _ _ ?_; clear hK K
  -- 6: extract t14 #0
  refine stepK rfl (by kernel_rfl) (fun K hK => ?_); go_simp
  apply Exists.intro; apply And.intro; (focus (intro wk hk; go_simp; exact ⟨rfl, rfl⟩)); refine hK _ _ ?_; clear hK K
  -- 7: extract t14 #1
  refine stepK rfl (by kernel_rfl) (fun K hK => ?_); go_simp
  apply Exists.intro; apply And.intro; (focus (intro wk hk; go_simp; exact ⟨rfl, rfl⟩)); refine hK _ _ ?_; clear hK K
  -- 8: alloc<31>
  refine stepS _ rfl (by kernel_rfl) (fun K hK => ?_); go_simp
  refine ⟨?_, ?_⟩
  · intro wk hk hg hu; go_simp; exact left_A rfl rfl
  rintro ⟨v8, lo3_8, hi8⟩ hlo8 hhi8 ⟨e8, f8⟩
  replace e8 : v8 = .pointer (some ⟨lo3_8, 0, none⟩) := e8; replace f8 : hi8 = lo3_8 + 1 := f8; replace hlo8 : _ ≤ lo3_8 := hlo8; subst e8; subst f8
  refine hK _ _ ?_; clear hK K
  -- 9: store<31> *t4 = t20
  refine stepS _ rfl (by kernel_rfl) (fun K hK => ?_); go_simp
  refine ⟨?_, ?_⟩
  · exact sStoreT rfl rfl rfl rfl rfl rfl rfl (by kernel_rfl) rfl (by kernel_rfl) (by decide) aggOf_congr
  rintro ⟨v9, lo9, hi9⟩ - - (rfl : v9 = undef)
  refine hK _ _ ?_; clear hK K
  -- 10: assign t21
  refine stepK rfl (by kernel_rfl) (fun K hK => ?_); go_simp
  apply Exists.intro; apply And.intro; (focus (intro wk hk; go_simp; exact ⟨rfl, rfl⟩)); refine hK _ _ ?_; clear hK K
  refine stepN ?_
  refine hQ _ _ ?_
  intro w3 hT hG hF
  have hbw3 := hT.undrew.below
  have r2 : Row w3 lo3_8 31 ((W4 1333333333333333333)) := (hF 9 _ rfl rfl (by decide)).2
  replace r0 := r0.below hbw3 r0.lt
  replace r1 := r1.below hbw3 r1.lt
  replace hl := hl.trans (hbw3.mono hl.size)
  clear hT hG hF hbw3 hQ QQ L hlo8 hhi8
  go_upto_region 4 with (fail)
  let L : List Sp := []
  refine wp_region_six0 (shs L) (look6 L) (None_) (by kernel_rfl) (by kernel_rfl) (mk_St L [] [] (by kernel_rfl) (by kernel_rfl) trivial (by simp)) ?_
  intro QQ hQ
  -- 0: t3
  refine stepK rfl (by kernel_rfl) (fun K hK => ?_); go_simp
  apply Exists.intro; apply And.intro; (focus (intro wk hk; go_simp; exact ⟨rfl, rfl⟩)); refine hK _ _ ?_; clear hK K
  -- 1: t22
  refine stepK rfl (by kernel_rfl) (fun K hK => ?_); go_simp
  apply Exists.intro; apply And.intro; (focus (intro wk hk; go_simp; exact ⟨rfl, rfl⟩)); refine hK _ _ ?_; clear hK K
  -- 2: t5
  refine stepK rfl (by kernel_rfl) (fun K hK => ?_); go_simp
  first | (refine hK _ _ ?_; clear hK K) | (apply Exists.intro; apply And.intro; (focus (intro wk hk; go_simp; exact ⟨rfl, rfl⟩)); refine hK _ _ ?_; clear hK K)
  -- 3: pick t23 ? t24 : false
  refine stepK rfl (by kernel_rfl) (fun K hK => ?_); go_simp
  apply Exists.intro; apply And.intro; (focus (intro wk hk; go_simp; exact ⟨rfl, rfl⟩)); refine hK _ _ ?_; clear hK K
  -- 4: t25
  refine stepK rfl (by kernel_rfl) (fun K hK => ?_); go_simp
  apply Exists.intro; apply And.intro; (focus (intro wk hk; go_simp; exact ⟨rfl, rfl⟩)); refine hK _ _ ?_; clear hK K
  -- 5: load<31> *t2
  refine stepK rfl (by kernel_rfl) (fun K hK => ?_); go_simp
  first | (refine hK _ _ ?_; clear hK K) | (apply Exists.intro; apply And.intro; (focus exact kLoad rfl rfl aggT31 r1 rfl id); refine hK _ _ ?_; clear hK K)
  -- 6: build<31> 0:50u
  refine stepK rfl (by kernel_rfl) (fun K hK => ?_); go_simp
  first | (refine hK _ _ ?_; clear hK K) | (apply Exists.intro; apply And.intro; (focus (intro wk hk; go_simp; exact ⟨rfl, rfl⟩)); refine hK _ _ ?_; clear hK K)
  -- 7: eql<31> t27, t28
  refine stepK rfl (by kernel_rfl) (fun K hK => ?_); go_simp
  first | (refine hK _ _ ?_; clear hK K) | (apply Exists.intro; apply And.intro; (focus (intro wk hk; go_simp; exact ⟨rfl, rfl⟩)); refine hK _ _ ?_; clear hK K)
  -- 8: pick t26 ? t29 : false
  refine stepK rfl (by kernel_rfl) (fun K hK => ?_); go_simp
  apply Exists.intro; apply And.intro; (focus (intro wk hk; go_simp; exact ⟨rfl, rfl⟩)); refine hK _ _ ?_; clear hK K
  -- 9: t30
  refine stepK rfl (by kernel_rfl) (fun K hK => ?_); go_simp
  apply Exists.intro; apply And.intro; (focus (intro wk hk; go_simp; exact ⟨rfl, rfl⟩)); refine hK _ _ ?_; clear hK K
  -- 10: load<31> *t4
  refine stepK rfl (by kernel_rfl) (fun K hK => ?_); go_simp
  first | (refine hK _ _ ?_; clear hK K) | (apply Exists.intro; apply And.intro; (focus exact kLoad rfl rfl aggT31 r2 rfl id); refine hK _ _ ?_; clear hK K)
  -- 11: build<31> 0:1333333333333333333u
  refine stepK rfl (by kernel_rfl) (fun K hK => ?_); go_simp
  first | (refine hK _ _ ?_; clear hK K) | (apply Exists.intro; apply And.intro; (focus (intro wk hk; go_simp; exact ⟨rfl, rfl⟩)); refine hK _ _ ?_; clear hK K)
  -- 12: eql<31> t32, t33
  refine stepK rfl (by kernel_rfl) (fun K hK => ?_); go_simp
  first | (refine hK _ _ ?_; clear hK K) | (apply Exists.intro; apply And.intro; (focus (intro wk hk; go_simp; exact ⟨rfl, rfl⟩)); refine hK _ _ ?_; clear hK K)
  -- 13: pick t31 ? t34 : false
  refine stepK rfl (by kernel_rfl) (fun K hK => ?_); go_simp
  apply Exists.intro; apply And.intro; (focus (intro wk hk; go_simp; exact ⟨rfl, rfl⟩)); refine hK _ _ ?_; clear hK K
  -- 14: assign t35
  refine stepK rfl (by kernel_rfl) (fun K hK => ?_); go_simp
  apply Exists.intro; apply And.intro; (focus (intro wk hk; go_simp; exact ⟨rfl, rfl⟩)); refine hK _ _ ?_; clear hK K
  refine stepN ?_
  refine hQ _ _ ?_
  intro w4 hT hG hF
  have hbw4 := hT.below
  replace r0 := r0.below hbw4 r0.lt
  replace r1 := r1.below hbw4 r1.lt
  replace r2 := r2.below hbw4 r2.lt
  replace hl := hl.trans (hbw4.mono hl.size)
  clear hT hG hF hbw4 hQ QQ L 
  go_wp2_with fail
  go_ret
  exact ⟨rfl, hl⟩
end Go.Proofs.Ytpdenhmkpiafiaa
