/-
  tallagelaw02.MuldivRounds, THE WALK: less (94), below (95) and the law.
-/
import Derived.Test.YtpdenhmkpiafiaaPart8
import Derived.Test.YtpdenhmkpiafiaaRefMulDiv
import Derived.Test.YtpdenhmkpiafiaaLives2
namespace Go.Proofs.Ytpdenhmkpiafiaa
open Go Go.RowKit K6

/-- a pointer to a new row -/
def NewRow (w : World) (t : Nat) (cs : Array Value) (e : Ending) (w' : World) : Prop := ∃ g, e = .returned (.pointer (some ⟨g, 0, none⟩)) ∧ Row w' g t cs ∧ Below w.heap.size w w'
theorem W4_one : #[Value.int .u64 1, .int .u64 0, .int .u64 0, .int .u64 0] = W4 1 := W4_word 1 (by omega)
theorem W4_max : #[Value.int .u64 18446744073709551615, .int .u64 18446744073709551615, .int .u64 18446744073709551615, .int .u64 18446744073709551615] = W4 (M - 1) := by
  unfold W4
  rw [show wordsOf (M - 1) 0 = 18446744073709551615 by decide, show wordsOf (M - 1) 1 = 18446744073709551615 by decide, show wordsOf (M - 1) 2 = 18446744073709551615 by decide, show wordsOf (M - 1) 3 = 18446744073709551615 by decide]
theorem one_ltM : 1 < M := by unfold M; omega
theorem Mm1_lt : M - 1 < M := by unfold M; omega
set_option maxRecDepth 100000 in
set_option maxHeartbeats 16000000 in
theorem lessU {ph pl lh ll r : Nat} (h1 : ph < M) (h2 : pl < M) (h3 : lh < M) (h4 : ll < M) (hr : r < M) (hE : lh * M + ll + r = ph * M + pl) (w : World) : Calls Try.prog 94 #[.agg (W8 ph pl), .agg (W8 lh ll)] w (NewRow w 92 (W8 0 r)) := by
  by_cases hc : ll ≤ pl
  · have hq : ph = lh := by
      rcases Nat.lt_trichotomy ph lh with h | h | h
      · have := Nat.mul_le_mul_right M (show ph + 1 ≤ lh from h)
        rw [Nat.add_mul] at this
        omega
      · exact h
      · have := Nat.mul_le_mul_right M (show lh + 1 ≤ ph from h)
        rw [Nat.add_mul] at this
        omega
    have e1 : pl - ll = r := by rw [hq] at hE; omega
    have e2 : subB pl ll = true := decide_eq_true hc
    have e3 : ph - lh = 0 := by omega
    have e4 : subB ph lh = true := decide_eq_true (by omega)
    clear hc hq hE
    have k0 := Lib.hid (show ∀ wx, Calls Try.prog 53 #[.agg (W4 pl), .agg (W4 ll)] wx (Ret wx (.tuple #[.agg (W4 r), .bool true])) from fun wx => by have h := refsubU h2 h4 wx; rw [e1, e2] at h; exact h)
    have k1 := Lib.hid (show ∀ wx, Calls Try.prog 53 #[.agg (W4 ph), .agg (W4 lh)] wx (Ret wx (.tuple #[.agg (W4 0), .bool true])) from fun wx => by have h := refsubU h1 h3 wx; rw [e3, e4] at h; exact h)
    clear e1 e2 e3 e4
    go_enter Try.func94, Try.ntmps94
    apply wp_seq_eq
    focus
      intro J hJ
      go_wp2_with fail
      exact hJ
    refine wp_abs (Mem w [(w.heap.size, 92, W8 ph pl), (w.heap.size + 1, 92, W8 lh ll)]) ⟨by go_grown, ?_, ?_, trivial⟩ ?_
    · repeat (first | (refine Row.new_at ?_; simp; done) | refine Row.alloc ?_ _)
    · repeat (first | (refine Row.new_at ?_; simp; done) | refine Row.alloc ?_ _)
    intro w0 hM
    obtain ⟨hl, r0, r1, -⟩ := hM
    go_upto_region 1 with (fail)
    let L : List Sp := [sV 4 [] [] (fun u => u = .tuple #[.agg (W4 r), .bool true]), sA 8 31 [9] #[.int .u64 0, .int .u64 0, .int .u64 0, .int .u64 0], sT 9 8 31 [6] (fun g => aggOf g 6)]
    refine wp_region_six0 (shs L) (look6 L) (None_) (by kernel_rfl) (by kernel_rfl) (mk_St L [] [] (by kernel_rfl) (by kernel_rfl) ⟨ok_V ⟨_, rfl⟩, ok_A, ok_T aggOf_congr, trivial⟩ (by simp)) ?_
    intro QQ hQ
    -- 0: fieldAddr<92> t2.1
    refine stepK rfl (by kernel_rfl) (fun K hK => ?_); go_simp
    apply Exists.intro; apply And.intro; (focus (intro wk hk; go_simp; exact ⟨rfl, rfl⟩)); refine hK _ _ ?_; clear hK K
    -- 1: load<31> *t12
    refine stepK rfl (by kernel_rfl) (fun K hK => ?_); go_simp
    apply Exists.intro; apply And.intro; (focus exact kLoadMid rfl rfl aggT31 r0 (W8_lo ph pl) rfl id); refine hK _ _ ?_; clear hK K
    -- 2: fieldAddr<92> t3.1
    refine stepK rfl (by kernel_rfl) (fun K hK => ?_); go_simp
    apply Exists.intro; apply And.intro; (focus (intro wk hk; go_simp; exact ⟨rfl, rfl⟩)); refine hK _ _ ?_; clear hK K
    -- 3: load<31> *t14
    refine stepK rfl (by kernel_rfl) (fun K hK => ?_); go_simp
    apply Exists.intro; apply And.intro; (focus exact kLoadMid rfl rfl aggT31 r1 (W8_lo lh ll) rfl id); refine hK _ _ ?_; clear hK K
    -- 4: call F53(t13, t15)
    refine stepS _ rfl (by kernel_rfl) (fun K hK => ?_); go_simp
    refine ⟨?_, ?_⟩
    · intro wk hk hg hu; go_simp; refine upon_enter ((k0.out _).mono ?_); rintro e w' ⟨rfl, hb⟩; exact ⟨_, rfl, left_V (p := fun u => u = .tuple #[.agg (W4 r), .bool true]) rfl (hb) rfl⟩
    rintro ⟨v4, lo4, hi4⟩ - - (rfl : v4 = _)
    refine hK _ _ ?_; clear hK K
    -- 5: t16
    refine stepK rfl (by kernel_rfl) (fun K hK => ?_); go_simp
    apply Exists.intro; apply And.intro; (focus (intro wk hk; go_simp; exact ⟨rfl, rfl⟩)); refine hK _ _ ?_; clear hK K
    -- 6: extract t11 #0
    refine stepK rfl (by kernel_rfl) (fun K hK => ?_); go_simp
    apply Exists.intro; apply And.intro; (focus (intro wk hk; go_simp; exact ⟨rfl, rfl⟩)); refine hK _ _ ?_; clear hK K
    -- 7: extract t11 #1
    refine stepK rfl (by kernel_rfl) (fun K hK => ?_); go_simp
    apply Exists.intro; apply And.intro; (focus (intro wk hk; go_simp; exact ⟨rfl, rfl⟩)); refine hK _ _ ?_; clear hK K
    -- 8: alloc<31>
    refine stepS _ rfl (by kernel_rfl) (fun K hK => ?_); go_simp
    refine ⟨?_, ?_⟩
    · intro wk hk hg hu; go_simp; exact left_A rfl rfl
    rintro ⟨v8, lo1_8, hi8⟩ hlo8 hhi8 ⟨e8, f8⟩
    replace e8 : v8 = .pointer (some ⟨lo1_8, 0, none⟩) := e8; replace f8 : hi8 = lo1_8 + 1 := f8; replace hlo8 : _ ≤ lo1_8 := hlo8; subst e8; subst f8
    refine hK _ _ ?_; clear hK K
    -- 9: store<31> *t5 = t17
    refine stepS _ rfl (by kernel_rfl) (fun K hK => ?_); go_simp
    refine ⟨?_, ?_⟩
    · exact sStoreT rfl rfl rfl rfl rfl rfl rfl (by kernel_rfl) rfl (by kernel_rfl) (by decide) aggOf_congr
    rintro ⟨v9, lo9, hi9⟩ - - (rfl : v9 = undef)
    refine hK _ _ ?_; clear hK K
    -- 10: assign t18
    refine stepK rfl (by kernel_rfl) (fun K hK => ?_); go_simp
    apply Exists.intro; apply And.intro; (focus (intro wk hk; go_simp; exact ⟨rfl, rfl⟩)); refine hK _ _ ?_; clear hK K
    refine stepN ?_
    refine hQ _ _ ?_
    intro w1 hT hG hF
    have nr2r0 : w.heap.size < lo1_8 := Nat.lt_of_lt_of_le r0.lt hlo8
    have nr2r1 : w.heap.size + 1 < lo1_8 := Nat.lt_of_lt_of_le r1.lt hlo8
    have hbw1 := hT.below
    have r2 : Row w1 lo1_8 31 ((W4 r)) := (hF 9 _ rfl rfl (by decide)).2
    replace r0 := r0.below hbw1 r0.lt
    replace r1 := r1.below hbw1 r1.lt
    replace hl := hl.trans (hbw1.mono hl.size)
    clear hT hG hF hbw1 hQ QQ L hlo8 hhi8
    go_upto_region 2 with (fail)
    let L : List Sp := [sV 4 [] [] (fun u => u = .tuple #[.agg (W4 0), .bool true]), sA 8 31 [9] #[.int .u64 0, .int .u64 0, .int .u64 0, .int .u64 0], sT 9 8 31 [6] (fun g => aggOf g 6)]
    refine wp_region_six0 (shs L) (look6 L) (None_) (by kernel_rfl) (by kernel_rfl) (mk_St L [] [] (by kernel_rfl) (by kernel_rfl) ⟨ok_V ⟨_, rfl⟩, ok_A, ok_T aggOf_congr, trivial⟩ (by simp)) ?_
    intro QQ hQ
    -- 0: fieldAddr<92> t2.0
    refine stepK rfl (by kernel_rfl) (fun K hK => ?_); go_simp
    apply Exists.intro; apply And.intro; (focus (intro wk hk; go_simp; exact ⟨rfl, rfl⟩)); refine hK _ _ ?_; clear hK K
    -- 1: load<31> *t20
    refine stepK rfl (by kernel_rfl) (fun K hK => ?_); go_simp
    apply Exists.intro; apply And.intro; (focus exact kLoadMid rfl rfl aggT31 r0 (W8_hi ph pl) rfl id); refine hK _ _ ?_; clear hK K
    -- 2: fieldAddr<92> t3.0
    refine stepK rfl (by kernel_rfl) (fun K hK => ?_); go_simp
    apply Exists.intro; apply And.intro; (focus (intro wk hk; go_simp; exact ⟨rfl, rfl⟩)); refine hK _ _ ?_; clear hK K
    -- 3: load<31> *t22
    refine stepK rfl (by kernel_rfl) (fun K hK => ?_); go_simp
    apply Exists.intro; apply And.intro; (focus exact kLoadMid rfl rfl aggT31 r1 (W8_hi lh ll) rfl id); refine hK _ _ ?_; clear hK K
    -- 4: call F53(t21, t23)
    refine stepS _ rfl (by kernel_rfl) (fun K hK => ?_); go_simp
    refine ⟨?_, ?_⟩
    · intro wk hk hg hu; go_simp; refine upon_enter ((k1.out _).mono ?_); rintro e w' ⟨rfl, hb⟩; exact ⟨_, rfl, left_V (p := fun u => u = .tuple #[.agg (W4 0), .bool true]) rfl (hb) rfl⟩
    rintro ⟨v4, lo4, hi4⟩ - - (rfl : v4 = _)
    refine hK _ _ ?_; clear hK K
    -- 5: t24
    refine stepK rfl (by kernel_rfl) (fun K hK => ?_); go_simp
    apply Exists.intro; apply And.intro; (focus (intro wk hk; go_simp; exact ⟨rfl, rfl⟩)); refine hK _ _ ?_; clear hK K
    -- 6: extract t19 #0
    refine stepK rfl (by kernel_rfl) (fun K hK => ?_); go_simp
    apply Exists.intro; apply And.intro; (focus (intro wk hk; go_simp; exact ⟨rfl, rfl⟩)); refine hK _ _ ?_; clear hK K
    -- 7: extract t19 #1
    refine stepK rfl (by kernel_rfl) (fun K hK => ?_); go_simp
    apply Exists.intro; apply And.intro; (focus (intro wk hk; go_simp; exact ⟨rfl, rfl⟩)); refine hK _ _ ?_; clear hK K
    -- 8: alloc<31>
    refine stepS _ rfl (by kernel_rfl) (fun K hK => ?_); go_simp
    refine ⟨?_, ?_⟩
    · intro wk hk hg hu; go_simp; exact left_A rfl rfl
    rintro ⟨v8, lo2_8, hi8⟩ hlo8 hhi8 ⟨e8, f8⟩
    replace e8 : v8 = .pointer (some ⟨lo2_8, 0, none⟩) := e8; replace f8 : hi8 = lo2_8 + 1 := f8; replace hlo8 : _ ≤ lo2_8 := hlo8; subst e8; subst f8
    refine hK _ _ ?_; clear hK K
    -- 9: store<31> *t7 = t25
    refine stepS _ rfl (by kernel_rfl) (fun K hK => ?_); go_simp
    refine ⟨?_, ?_⟩
    · exact sStoreT rfl rfl rfl rfl rfl rfl rfl (by kernel_rfl) rfl (by kernel_rfl) (by decide) aggOf_congr
    rintro ⟨v9, lo9, hi9⟩ - - (rfl : v9 = undef)
    refine hK _ _ ?_; clear hK K
    -- 10: assign t26
    refine stepK rfl (by kernel_rfl) (fun K hK => ?_); go_simp
    apply Exists.intro; apply And.intro; (focus (intro wk hk; go_simp; exact ⟨rfl, rfl⟩)); refine hK _ _ ?_; clear hK K
    refine stepN ?_
    refine hQ _ _ ?_
    intro w2 hT hG hF
    have nr3r0 : w.heap.size < lo2_8 := Nat.lt_of_lt_of_le r0.lt hlo8
    have nr3r1 : w.heap.size + 1 < lo2_8 := Nat.lt_of_lt_of_le r1.lt hlo8
    have nr3r2 : lo1_8 < lo2_8 := Nat.lt_of_lt_of_le r2.lt hlo8
    have hbw2 := hT.below
    have r3 : Row w2 lo2_8 31 ((W4 0)) := (hF 9 _ rfl rfl (by decide)).2
    replace r0 := r0.below hbw2 r0.lt
    replace r1 := r1.below hbw2 r1.lt
    replace r2 := r2.below hbw2 r2.lt
    replace hl := hl.trans (hbw2.mono hl.size)
    clear hT hG hF hbw2 hQ QQ L hlo8 hhi8
    go_upto_region 12 with (fail)
    let L : List Sp := [sA 3 92 [] ((W8 0 r))]
    refine wp_region_six0 (shs L) (look6 L) (None_) (by kernel_rfl) (by kernel_rfl) (mk_St L [] [] (by kernel_rfl) (by kernel_rfl) ⟨ok_A, trivial⟩ (by simp)) ?_
    intro QQ hQ
    -- 0: load<31> *t7
    refine stepK rfl (by kernel_rfl) (fun K hK => ?_); go_simp
    apply Exists.intro; apply And.intro; (focus exact kLoad rfl rfl aggT31 r3 rfl id); refine hK _ _ ?_; clear hK K
    -- 1: load<31> *t5
    refine stepK rfl (by kernel_rfl) (fun K hK => ?_); go_simp
    apply Exists.intro; apply And.intro; (focus exact kLoad rfl rfl aggT31 r2 rfl id); refine hK _ _ ?_; clear hK K
    -- 2: build<92> 0:t59, 1:t60
    refine stepK rfl (by kernel_rfl) (fun K hK => ?_); go_simp
    apply Exists.intro; apply And.intro; (focus exact kBuild rfl rfl rfl (fun wx => build92 0 r wx)); refine hK _ _ ?_; clear hK K
    -- 3: box<92> t61
    refine stepS _ rfl (by kernel_rfl) (fun K hK => ?_); go_simp
    refine ⟨?_, ?_⟩
    · intro wk hk hg hu; go_simp; exact left_A rfl rfl
    rintro ⟨v3, lo12_3, hi3⟩ hlo3 hhi3 ⟨e3, f3⟩
    replace e3 : v3 = .pointer (some ⟨lo12_3, 0, none⟩) := e3; replace f3 : hi3 = lo12_3 + 1 := f3; replace hlo3 : _ ≤ lo12_3 := hlo3; subst e3; subst f3
    refine hK _ _ ?_; clear hK K
    -- 4: assign t62
    refine stepK rfl (by kernel_rfl) (fun K hK => ?_); go_simp
    apply Exists.intro; apply And.intro; (focus (intro wk hk; go_simp; exact ⟨rfl, rfl⟩)); refine hK _ _ ?_; clear hK K
    refine stepN ?_
    refine hQ _ _ ?_
    intro w3 hT hG hF
    have nr4r0 : w.heap.size < lo12_3 := Nat.lt_of_lt_of_le r0.lt hlo3
    have nr4r1 : w.heap.size + 1 < lo12_3 := Nat.lt_of_lt_of_le r1.lt hlo3
    have nr4r2 : lo1_8 < lo12_3 := Nat.lt_of_lt_of_le r2.lt hlo3
    have nr4r3 : lo2_8 < lo12_3 := Nat.lt_of_lt_of_le r3.lt hlo3
    have hbw3 := hT.below
    have r4 : Row w3 lo12_3 92 ((W8 0 r)) := (hF 3 _ rfl rfl (by decide)).2
    replace r0 := r0.below hbw3 r0.lt
    replace r1 := r1.below hbw3 r1.lt
    replace r2 := r2.below hbw3 r2.lt
    replace r3 := r3.below hbw3 r3.lt
    replace hl := hl.trans (hbw3.mono hl.size)
    clear hT hG hF hbw3 hQ QQ L hlo3 hhi3
    go_wp2_with fail
    go_ret
    exact ⟨_, rfl, r4, hl⟩
  · have hq : ph = lh + 1 := by
      rcases Nat.lt_trichotomy ph (lh + 1) with h | h | h
      · have := Nat.mul_le_mul_right M (show ph ≤ lh by omega)
        omega
      · exact h
      · have := Nat.mul_le_mul_right M (show lh + 1 + 1 ≤ ph from h)
        rw [Nat.add_mul, Nat.add_mul] at this
        omega
    have e2 : subB pl ll = false := decide_eq_false hc
    have e3 : ph - lh = 1 := by omega
    have e4 : subB ph lh = true := decide_eq_true (by omega)
    have hM := M_pos
    obtain ⟨f, hf⟩ : ∃ f, f = pl - ll := ⟨_, rfl⟩
    have fl : f < M := by omega
    obtain ⟨k, hk⟩ : ∃ k, k = ll - pl := ⟨_, rfl⟩
    have kl : k < M := by omega
    have e5 : subB ll pl = true := decide_eq_true (by omega)
    obtain ⟨z, hz⟩ : ∃ z, z = M - 1 - k := ⟨_, rfl⟩
    have zl : z < M := by omega
    have e6 : subB (M - 1) k = true := decide_eq_true (by omega)
    have hrz : z + 1 = r := by rw [hq, Nat.add_mul] at hE; omega
    have e7 : addN z 1 = r := by unfold addN; rw [hrz]; exact if_pos hr
    have e8 : addB z 1 = true := by unfold addB; rw [hrz]; exact decide_eq_true hr
    clear hc hq hE hM hrz
    have k0 := Lib.hid (show ∀ wx, Calls Try.prog 53 #[.agg (W4 pl), .agg (W4 ll)] wx (Ret wx (.tuple #[.agg (W4 f), .bool false])) from fun wx => by have h := refsubU h2 h4 wx; rw [← hf, e2] at h; exact h)
    have k1 := Lib.hid (show ∀ wx, Calls Try.prog 53 #[.agg (W4 ph), .agg (W4 lh)] wx (Ret wx (.tuple #[.agg (W4 1), .bool true])) from fun wx => by have h := refsubU h1 h3 wx; rw [e3, e4] at h; exact h)
    have k2 := Lib.hid (show ∀ wx, Calls Try.prog 53 #[.agg (W4 1), .agg #[.int .u64 1, .int .u64 0, .int .u64 0, .int .u64 0]] wx (Ret wx (.tuple #[.agg (W4 0), .bool true])) from fun wx => by have h := refsubU one_ltM one_ltM wx; rw [show 1 - 1 = 0 from rfl, show subB 1 1 = true by decide, ← W4_one] at h; rw [← W4_one]; exact h)
    have k3 := Lib.hid (show ∀ wx, Calls Try.prog 53 #[.agg (W4 ll), .agg (W4 pl)] wx (Ret wx (.tuple #[.agg (W4 k), .bool true])) from fun wx => by have h := refsubU h4 h2 wx; rw [← hk, e5] at h; exact h)
    have k4 := Lib.hid (show ∀ wx, Calls Try.prog 53 #[.agg #[.int .u64 18446744073709551615, .int .u64 18446744073709551615, .int .u64 18446744073709551615, .int .u64 18446744073709551615], .agg (W4 k)] wx (Ret wx (.tuple #[.agg (W4 z), .bool true])) from fun wx => by have h := refsubU Mm1_lt kl wx; rw [← hz, e6, ← W4_max] at h; exact h)
    have k5 := Lib.hid (show ∀ wx, Calls Try.prog 51 #[.agg (W4 z), .agg #[.int .u64 1, .int .u64 0, .int .u64 0, .int .u64 0]] wx (Ret wx (.tuple #[.agg (W4 r), .bool true])) from fun wx => by have h := refaddU zl one_ltM wx; rw [e7, e8, ← W4_one] at h; exact h)
    clear hf e2 e3 e4 hk e5 hz e6 e7 e8
    go_enter Try.func94, Try.ntmps94
    apply wp_seq_eq
    focus
      intro J hJ
      go_wp2_with fail
      exact hJ
    refine wp_abs (Mem w [(w.heap.size, 92, W8 ph pl), (w.heap.size + 1, 92, W8 lh ll)]) ⟨by go_grown, ?_, ?_, trivial⟩ ?_
    · repeat (first | (refine Row.new_at ?_; simp; done) | refine Row.alloc ?_ _)
    · repeat (first | (refine Row.new_at ?_; simp; done) | refine Row.alloc ?_ _)
    intro w0 hM
    obtain ⟨hl, r0, r1, -⟩ := hM
    go_upto_region 1 with (fail)
    let L : List Sp := [sV 4 [] [] (fun u => u = .tuple #[.agg (W4 f), .bool false]), sA 8 31 [9] #[.int .u64 0, .int .u64 0, .int .u64 0, .int .u64 0], sT 9 8 31 [6] (fun g => aggOf g 6)]
    refine wp_region_six0 (shs L) (look6 L) (None_) (by kernel_rfl) (by kernel_rfl) (mk_St L [] [] (by kernel_rfl) (by kernel_rfl) ⟨ok_V ⟨_, rfl⟩, ok_A, ok_T aggOf_congr, trivial⟩ (by simp)) ?_
    intro QQ hQ
    -- 0: fieldAddr<92> t2.1
    refine stepK rfl (by kernel_rfl) (fun K hK => ?_); go_simp
    apply Exists.intro; apply And.intro; (focus (intro wk hk; go_simp; exact ⟨rfl, rfl⟩)); refine hK _ _ ?_; clear hK K
    -- 1: load<31> *t12
    refine stepK rfl (by kernel_rfl) (fun K hK => ?_); go_simp
    apply Exists.intro; apply And.intro; (focus exact kLoadMid rfl rfl aggT31 r0 (W8_lo ph pl) rfl id); refine hK _ _ ?_; clear hK K
    -- 2: fieldAddr<92> t3.1
    refine stepK rfl (by kernel_rfl) (fun K hK => ?_); go_simp
    apply Exists.intro; apply And.intro; (focus (intro wk hk; go_simp; exact ⟨rfl, rfl⟩)); refine hK _ _ ?_; clear hK K
    -- 3: load<31> *t14
    refine stepK rfl (by kernel_rfl) (fun K hK => ?_); go_simp
    apply Exists.intro; apply And.intro; (focus exact kLoadMid rfl rfl aggT31 r1 (W8_lo lh ll) rfl id); refine hK _ _ ?_; clear hK K
    -- 4: call F53(t13, t15)
    refine stepS _ rfl (by kernel_rfl) (fun K hK => ?_); go_simp
    refine ⟨?_, ?_⟩
    · intro wk hk hg hu; go_simp; refine upon_enter ((k0.out _).mono ?_); rintro e w' ⟨rfl, hb⟩; exact ⟨_, rfl, left_V (p := fun u => u = .tuple #[.agg (W4 f), .bool false]) rfl (hb) rfl⟩
    rintro ⟨v4, lo4, hi4⟩ - - (rfl : v4 = _)
    refine hK _ _ ?_; clear hK K
    -- 5: t16
    refine stepK rfl (by kernel_rfl) (fun K hK => ?_); go_simp
    apply Exists.intro; apply And.intro; (focus (intro wk hk; go_simp; exact ⟨rfl, rfl⟩)); refine hK _ _ ?_; clear hK K
    -- 6: extract t11 #0
    refine stepK rfl (by kernel_rfl) (fun K hK => ?_); go_simp
    apply Exists.intro; apply And.intro; (focus (intro wk hk; go_simp; exact ⟨rfl, rfl⟩)); refine hK _ _ ?_; clear hK K
    -- 7: extract t11 #1
    refine stepK rfl (by kernel_rfl) (fun K hK => ?_); go_simp
    apply Exists.intro; apply And.intro; (focus (intro wk hk; go_simp; exact ⟨rfl, rfl⟩)); refine hK _ _ ?_; clear hK K
    -- 8: alloc<31>
    refine stepS _ rfl (by kernel_rfl) (fun K hK => ?_); go_simp
    refine ⟨?_, ?_⟩
    · intro wk hk hg hu; go_simp; exact left_A rfl rfl
    rintro ⟨v8, lo1_8, hi8⟩ hlo8 hhi8 ⟨e8, f8⟩
    replace e8 : v8 = .pointer (some ⟨lo1_8, 0, none⟩) := e8; replace f8 : hi8 = lo1_8 + 1 := f8; replace hlo8 : _ ≤ lo1_8 := hlo8; subst e8; subst f8
    refine hK _ _ ?_; clear hK K
    -- 9: store<31> *t5 = t17
    refine stepS _ rfl (by kernel_rfl) (fun K hK => ?_); go_simp
    refine ⟨?_, ?_⟩
    · exact sStoreT rfl rfl rfl rfl rfl rfl rfl (by kernel_rfl) rfl (by kernel_rfl) (by decide) aggOf_congr
    rintro ⟨v9, lo9, hi9⟩ - - (rfl : v9 = undef)
    refine hK _ _ ?_; clear hK K
    -- 10: assign t18
    refine stepK rfl (by kernel_rfl) (fun K hK => ?_); go_simp
    apply Exists.intro; apply And.intro; (focus (intro wk hk; go_simp; exact ⟨rfl, rfl⟩)); refine hK _ _ ?_; clear hK K
    refine stepN ?_
    refine hQ _ _ ?_
    intro w1 hT hG hF
    have nr2r0 : w.heap.size < lo1_8 := Nat.lt_of_lt_of_le r0.lt hlo8
    have nr2r1 : w.heap.size + 1 < lo1_8 := Nat.lt_of_lt_of_le r1.lt hlo8
    have hbw1 := hT.below
    have r2 : Row w1 lo1_8 31 ((W4 f)) := (hF 9 _ rfl rfl (by decide)).2
    replace r0 := r0.below hbw1 r0.lt
    replace r1 := r1.below hbw1 r1.lt
    replace hl := hl.trans (hbw1.mono hl.size)
    clear hT hG hF hbw1 hQ QQ L hlo8 hhi8
    go_upto_region 2 with (fail)
    let L : List Sp := [sV 4 [] [] (fun u => u = .tuple #[.agg (W4 1), .bool true]), sA 8 31 [9] #[.int .u64 0, .int .u64 0, .int .u64 0, .int .u64 0], sT 9 8 31 [6] (fun g => aggOf g 6)]
    refine wp_region_six0 (shs L) (look6 L) (None_) (by kernel_rfl) (by kernel_rfl) (mk_St L [] [] (by kernel_rfl) (by kernel_rfl) ⟨ok_V ⟨_, rfl⟩, ok_A, ok_T aggOf_congr, trivial⟩ (by simp)) ?_
    intro QQ hQ
    -- 0: fieldAddr<92> t2.0
    refine stepK rfl (by kernel_rfl) (fun K hK => ?_); go_simp
    apply Exists.intro; apply And.intro; (focus (intro wk hk; go_simp; exact ⟨rfl, rfl⟩)); refine hK _ _ ?_; clear hK K
    -- 1: load<31> *t20
    refine stepK rfl (by kernel_rfl) (fun K hK => ?_); go_simp
    apply Exists.intro; apply And.intro; (focus exact kLoadMid rfl rfl aggT31 r0 (W8_hi ph pl) rfl id); refine hK _ _ ?_; clear hK K
    -- 2: fieldAddr<92> t3.0
    refine stepK rfl (by kernel_rfl) (fun K hK => ?_); go_simp
    apply Exists.intro; apply And.intro; (focus (intro wk hk; go_simp; exact ⟨rfl, rfl⟩)); refine hK _ _ ?_; clear hK K
    -- 3: load<31> *t22
    refine stepK rfl (by kernel_rfl) (fun K hK => ?_); go_simp
    apply Exists.intro; apply And.intro; (focus exact kLoadMid rfl rfl aggT31 r1 (W8_hi lh ll) rfl id); refine hK _ _ ?_; clear hK K
    -- 4: call F53(t21, t23)
    refine stepS _ rfl (by kernel_rfl) (fun K hK => ?_); go_simp
    refine ⟨?_, ?_⟩
    · intro wk hk hg hu; go_simp; refine upon_enter ((k1.out _).mono ?_); rintro e w' ⟨rfl, hb⟩; exact ⟨_, rfl, left_V (p := fun u => u = .tuple #[.agg (W4 1), .bool true]) rfl (hb) rfl⟩
    rintro ⟨v4, lo4, hi4⟩ - - (rfl : v4 = _)
    refine hK _ _ ?_; clear hK K
    -- 5: t24
    refine stepK rfl (by kernel_rfl) (fun K hK => ?_); go_simp
    apply Exists.intro; apply And.intro; (focus (intro wk hk; go_simp; exact ⟨rfl, rfl⟩)); refine hK _ _ ?_; clear hK K
    -- 6: extract t19 #0
    refine stepK rfl (by kernel_rfl) (fun K hK => ?_); go_simp
    apply Exists.intro; apply And.intro; (focus (intro wk hk; go_simp; exact ⟨rfl, rfl⟩)); refine hK _ _ ?_; clear hK K
    -- 7: extract t19 #1
    refine stepK rfl (by kernel_rfl) (fun K hK => ?_); go_simp
    apply Exists.intro; apply And.intro; (focus (intro wk hk; go_simp; exact ⟨rfl, rfl⟩)); refine hK _ _ ?_; clear hK K
    -- 8: alloc<31>
    refine stepS _ rfl (by kernel_rfl) (fun K hK => ?_); go_simp
    refine ⟨?_, ?_⟩
    · intro wk hk hg hu; go_simp; exact left_A rfl rfl
    rintro ⟨v8, lo2_8, hi8⟩ hlo8 hhi8 ⟨e8, f8⟩
    replace e8 : v8 = .pointer (some ⟨lo2_8, 0, none⟩) := e8; replace f8 : hi8 = lo2_8 + 1 := f8; replace hlo8 : _ ≤ lo2_8 := hlo8; subst e8; subst f8
    refine hK _ _ ?_; clear hK K
    -- 9: store<31> *t7 = t25
    refine stepS _ rfl (by kernel_rfl) (fun K hK => ?_); go_simp
    refine ⟨?_, ?_⟩
    · exact sStoreT rfl rfl rfl rfl rfl rfl rfl (by kernel_rfl) rfl (by kernel_rfl) (by decide) aggOf_congr
    rintro ⟨v9, lo9, hi9⟩ - - (rfl : v9 = undef)
    refine hK _ _ ?_; clear hK K
    -- 10: assign t26
    refine stepK rfl (by kernel_rfl) (fun K hK => ?_); go_simp
    apply Exists.intro; apply And.intro; (focus (intro wk hk; go_simp; exact ⟨rfl, rfl⟩)); refine hK _ _ ?_; clear hK K
    refine stepN ?_
    refine hQ _ _ ?_
    intro w2 hT hG hF
    have nr3r0 : w.heap.size < lo2_8 := Nat.lt_of_lt_of_le r0.lt hlo8
    have nr3r1 : w.heap.size + 1 < lo2_8 := Nat.lt_of_lt_of_le r1.lt hlo8
    have nr3r2 : lo1_8 < lo2_8 := Nat.lt_of_lt_of_le r2.lt hlo8
    have hbw2 := hT.below
    have r3 : Row w2 lo2_8 31 ((W4 1)) := (hF 9 _ rfl rfl (by decide)).2
    replace r0 := r0.below hbw2 r0.lt
    replace r1 := r1.below hbw2 r1.lt
    replace r2 := r2.below hbw2 r2.lt
    replace hl := hl.trans (hbw2.mono hl.size)
    clear hT hG hF hbw2 hQ QQ L hlo8 hhi8
    go_upto_region 6 with (fail)
    let L : List Sp := [sV 2 [] [] (fun u => u = .tuple #[.agg (W4 0), .bool true]), sO 6 (lo2_8) 31 [4] (fun g => aggOf g 4)]
    refine wp_region_six0 (shs L) (look6 L) (fun c => c = lo2_8) (by kernel_rfl) (by kernel_rfl) (mk_St L [6] [6] (by kernel_rfl) (by kernel_rfl) ⟨ok_V ⟨_, rfl⟩, ok_O aggOf_congr r3.lt (rfl), trivial⟩ (by simp)) ?_
    intro QQ hQ
    -- 0: load<31> *t7
    refine stepK rfl (by kernel_rfl) (fun K hK => ?_); go_simp
    apply Exists.intro; apply And.intro; (focus exact kLoad rfl rfl aggT31 r3 rfl (by first | exact id | (intro hx; have hx' : _ = _ ∨ _ = _ := hx; omega) | (intro hx; have hx' : _ = _ := hx; omega) | omega)); refine hK _ _ ?_; clear hK K
    -- 1: build<31> 0:1u
    refine stepK rfl (by kernel_rfl) (fun K hK => ?_); go_simp
    apply Exists.intro; apply And.intro; (focus (intro wk hk; go_simp; exact ⟨rfl, rfl⟩)); refine hK _ _ ?_; clear hK K
    -- 2: call F53(t32, t33)
    refine stepS _ rfl (by kernel_rfl) (fun K hK => ?_); go_simp
    refine ⟨?_, ?_⟩
    · intro wk hk hg hu; go_simp; refine upon_enter ((k2.out _).mono ?_); rintro e w' ⟨rfl, hb⟩; exact ⟨_, rfl, left_V (p := fun u => u = .tuple #[.agg (W4 0), .bool true]) rfl (hb) rfl⟩
    rintro ⟨v2, lo2, hi2⟩ - - (rfl : v2 = _)
    refine hK _ _ ?_; clear hK K
    -- 3: t34
    refine stepK rfl (by kernel_rfl) (fun K hK => ?_); go_simp
    apply Exists.intro; apply And.intro; (focus (intro wk hk; go_simp; exact ⟨rfl, rfl⟩)); refine hK _ _ ?_; clear hK K
    -- 4: extract t31 #0
    refine stepK rfl (by kernel_rfl) (fun K hK => ?_); go_simp
    apply Exists.intro; apply And.intro; (focus (intro wk hk; go_simp; exact ⟨rfl, rfl⟩)); refine hK _ _ ?_; clear hK K
    -- 5: extract t31 #1
    refine stepKz rfl (fun K hK => ?_); go_simp
    apply Exists.intro; apply And.intro; (focus (intro wk hk; go_simp; exact ⟨rfl, rfl⟩)); refine hK _ _ ?_; clear hK K
    -- 6: store<31> *t7 = t35
    refine stepS _ rfl (by kernel_rfl) (fun K hK => ?_); go_simp
    refine ⟨?_, ?_⟩
    · exact sStoreO rfl rfl rfl rfl rfl rfl r3 id (by kernel_rfl) rfl (by kernel_rfl) (by decide) aggOf_congr
    rintro ⟨v6, lo6, hi6⟩ - - (rfl : v6 = undef)
    refine hK _ _ ?_; clear hK K
    -- 7: assign t36
    refine stepKz rfl (fun K hK => ?_); go_simp
    apply Exists.intro; apply And.intro; (focus (intro wk hk; go_simp; exact ⟨rfl, rfl⟩)); refine hK _ _ ?_; clear hK K
    refine stepN ?_
    refine hQ _ _ ?_
    intro w3 hT hG hF
    have hT' := hT
    have xr3 : Row w3 (lo2_8) 31 ((W4 0)) := hF 6 _ rfl rfl (by decide)
    have hl9 : Below w.heap.size w w3 := hl.trans (hT'.below_of hl.size (by intro c hc; omega))
    replace r0 := K6.Row.tr r0 hT' (by show ¬ (w.heap.size = lo2_8); omega)
    replace r1 := K6.Row.tr r1 hT' (by show ¬ (w.heap.size + 1 = lo2_8); omega)
    replace r2 := K6.Row.tr r2 hT' (by show ¬ (lo1_8 = lo2_8); omega)
    clear hT hT' hG hF hQ QQ L hl r3
    have hl := hl9; clear hl9
    have r3 := xr3; clear xr3
    go_upto_region 7 with (fail)
    let L : List Sp := [sV 4 [] [] (fun u => u = .tuple #[.agg (W4 k), .bool true]), sA 8 31 [9] #[.int .u64 0, .int .u64 0, .int .u64 0, .int .u64 0], sT 9 8 31 [6] (fun g => aggOf g 6)]
    refine wp_region_six0 (shs L) (look6 L) (None_) (by kernel_rfl) (by kernel_rfl) (mk_St L [] [] (by kernel_rfl) (by kernel_rfl) ⟨ok_V ⟨_, rfl⟩, ok_A, ok_T aggOf_congr, trivial⟩ (by simp)) ?_
    intro QQ hQ
    -- 0: fieldAddr<92> t3.1
    refine stepK rfl (by kernel_rfl) (fun K hK => ?_); go_simp
    apply Exists.intro; apply And.intro; (focus (intro wk hk; go_simp; exact ⟨rfl, rfl⟩)); refine hK _ _ ?_; clear hK K
    -- 1: load<31> *t38
    refine stepK rfl (by kernel_rfl) (fun K hK => ?_); go_simp
    apply Exists.intro; apply And.intro; (focus exact kLoadMid rfl rfl aggT31 r1 (W8_lo lh ll) rfl id); refine hK _ _ ?_; clear hK K
    -- 2: fieldAddr<92> t2.1
    refine stepK rfl (by kernel_rfl) (fun K hK => ?_); go_simp
    apply Exists.intro; apply And.intro; (focus (intro wk hk; go_simp; exact ⟨rfl, rfl⟩)); refine hK _ _ ?_; clear hK K
    -- 3: load<31> *t40
    refine stepK rfl (by kernel_rfl) (fun K hK => ?_); go_simp
    apply Exists.intro; apply And.intro; (focus exact kLoadMid rfl rfl aggT31 r0 (W8_lo ph pl) rfl id); refine hK _ _ ?_; clear hK K
    -- 4: call F53(t39, t41)
    refine stepS _ rfl (by kernel_rfl) (fun K hK => ?_); go_simp
    refine ⟨?_, ?_⟩
    · intro wk hk hg hu; go_simp; refine upon_enter ((k3.out _).mono ?_); rintro e w' ⟨rfl, hb⟩; exact ⟨_, rfl, left_V (p := fun u => u = .tuple #[.agg (W4 k), .bool true]) rfl (hb) rfl⟩
    rintro ⟨v4, lo4, hi4⟩ - - (rfl : v4 = _)
    refine hK _ _ ?_; clear hK K
    -- 5: t42
    refine stepK rfl (by kernel_rfl) (fun K hK => ?_); go_simp
    apply Exists.intro; apply And.intro; (focus (intro wk hk; go_simp; exact ⟨rfl, rfl⟩)); refine hK _ _ ?_; clear hK K
    -- 6: extract t37 #0
    refine stepK rfl (by kernel_rfl) (fun K hK => ?_); go_simp
    apply Exists.intro; apply And.intro; (focus (intro wk hk; go_simp; exact ⟨rfl, rfl⟩)); refine hK _ _ ?_; clear hK K
    -- 7: extract t37 #1
    refine stepK rfl (by kernel_rfl) (fun K hK => ?_); go_simp
    apply Exists.intro; apply And.intro; (focus (intro wk hk; go_simp; exact ⟨rfl, rfl⟩)); refine hK _ _ ?_; clear hK K
    -- 8: alloc<31>
    refine stepS _ rfl (by kernel_rfl) (fun K hK => ?_); go_simp
    refine ⟨?_, ?_⟩
    · intro wk hk hg hu; go_simp; exact left_A rfl rfl
    rintro ⟨v8, lo7_8, hi8⟩ hlo8 hhi8 ⟨e8, f8⟩
    replace e8 : v8 = .pointer (some ⟨lo7_8, 0, none⟩) := e8; replace f8 : hi8 = lo7_8 + 1 := f8; replace hlo8 : _ ≤ lo7_8 := hlo8; subst e8; subst f8
    refine hK _ _ ?_; clear hK K
    -- 9: store<31> *t9 = t43
    refine stepS _ rfl (by kernel_rfl) (fun K hK => ?_); go_simp
    refine ⟨?_, ?_⟩
    · exact sStoreT rfl rfl rfl rfl rfl rfl rfl (by kernel_rfl) rfl (by kernel_rfl) (by decide) aggOf_congr
    rintro ⟨v9, lo9, hi9⟩ - - (rfl : v9 = undef)
    refine hK _ _ ?_; clear hK K
    -- 10: assign t44
    refine stepK rfl (by kernel_rfl) (fun K hK => ?_); go_simp
    apply Exists.intro; apply And.intro; (focus (intro wk hk; go_simp; exact ⟨rfl, rfl⟩)); refine hK _ _ ?_; clear hK K
    refine stepN ?_
    refine hQ _ _ ?_
    intro w4 hT hG hF
    have nr4r0 : w.heap.size < lo7_8 := Nat.lt_of_lt_of_le r0.lt hlo8
    have nr4r1 : w.heap.size + 1 < lo7_8 := Nat.lt_of_lt_of_le r1.lt hlo8
    have nr4r2 : lo1_8 < lo7_8 := Nat.lt_of_lt_of_le r2.lt hlo8
    have nr4r3 : lo2_8 < lo7_8 := Nat.lt_of_lt_of_le r3.lt hlo8
    have hbw4 := hT.below
    have r4 : Row w4 lo7_8 31 ((W4 k)) := (hF 9 _ rfl rfl (by decide)).2
    replace r0 := r0.below hbw4 r0.lt
    replace r1 := r1.below hbw4 r1.lt
    replace r2 := r2.below hbw4 r2.lt
    replace r3 := r3.below hbw4 r3.lt
    replace hl := hl.trans (hbw4.mono hl.size)
    clear hT hG hF hbw4 hQ QQ L hlo8 hhi8
    go_upto_region 8 with (fail)
    let L : List Sp := [sV 2 [] [] (fun u => u = .tuple #[.agg (W4 z), .bool true]), sO 6 (lo1_8) 31 [4] (fun g => aggOf g 4)]
    refine wp_region_six0 (shs L) (look6 L) (fun c => c = lo1_8) (by kernel_rfl) (by kernel_rfl) (mk_St L [6] [6] (by kernel_rfl) (by kernel_rfl) ⟨ok_V ⟨_, rfl⟩, ok_O aggOf_congr r2.lt (rfl), trivial⟩ (by simp)) ?_
    intro QQ hQ
    -- 0: build<31> 0:18446744073709551615u, 1:18446744073709551615u, 2:18446744073709551615u, 3:18446744073709551615u
    refine stepK rfl (by kernel_rfl) (fun K hK => ?_); go_simp
    apply Exists.intro; apply And.intro; (focus (intro wk hk; go_simp; exact ⟨rfl, rfl⟩)); refine hK _ _ ?_; clear hK K
    -- 1: load<31> *t9
    refine stepK rfl (by kernel_rfl) (fun K hK => ?_); go_simp
    apply Exists.intro; apply And.intro; (focus exact kLoad rfl rfl aggT31 r4 rfl (by first | exact id | (intro hx; have hx' : _ = _ ∨ _ = _ := hx; omega) | (intro hx; have hx' : _ = _ := hx; omega) | omega)); refine hK _ _ ?_; clear hK K
    -- 2: call F53(t46, t47)
    refine stepS _ rfl (by kernel_rfl) (fun K hK => ?_); go_simp
    refine ⟨?_, ?_⟩
    · intro wk hk hg hu; go_simp; refine upon_enter ((k4.out _).mono ?_); rintro e w' ⟨rfl, hb⟩; exact ⟨_, rfl, left_V (p := fun u => u = .tuple #[.agg (W4 z), .bool true]) rfl (hb) rfl⟩
    rintro ⟨v2, lo2, hi2⟩ - - (rfl : v2 = _)
    refine hK _ _ ?_; clear hK K
    -- 3: t48
    refine stepK rfl (by kernel_rfl) (fun K hK => ?_); go_simp
    apply Exists.intro; apply And.intro; (focus (intro wk hk; go_simp; exact ⟨rfl, rfl⟩)); refine hK _ _ ?_; clear hK K
    -- 4: extract t45 #0
    refine stepK rfl (by kernel_rfl) (fun K hK => ?_); go_simp
    apply Exists.intro; apply And.intro; (focus (intro wk hk; go_simp; exact ⟨rfl, rfl⟩)); refine hK _ _ ?_; clear hK K
    -- 5: extract t45 #1
    refine stepKz rfl (fun K hK => ?_); go_simp
    apply Exists.intro; apply And.intro; (focus (intro wk hk; go_simp; exact ⟨rfl, rfl⟩)); refine hK _ _ ?_; clear hK K
    -- 6: store<31> *t5 = t49
    refine stepS _ rfl (by kernel_rfl) (fun K hK => ?_); go_simp
    refine ⟨?_, ?_⟩
    · exact sStoreO rfl rfl rfl rfl rfl rfl r2 id (by kernel_rfl) rfl (by kernel_rfl) (by decide) aggOf_congr
    rintro ⟨v6, lo6, hi6⟩ - - (rfl : v6 = undef)
    refine hK _ _ ?_; clear hK K
    refine stepN ?_
    refine hQ _ _ ?_
    intro w5 hT hG hF
    have hT' := hT
    have xr2 : Row w5 (lo1_8) 31 ((W4 z)) := hF 6 _ rfl rfl (by decide)
    have hl9 : Below w.heap.size w w5 := hl.trans (hT'.below_of hl.size (by intro c hc; omega))
    replace r0 := K6.Row.tr r0 hT' (by show ¬ (w.heap.size = lo1_8); omega)
    replace r1 := K6.Row.tr r1 hT' (by show ¬ (w.heap.size + 1 = lo1_8); omega)
    replace r3 := K6.Row.tr r3 hT' (by show ¬ (lo2_8 = lo1_8); omega)
    replace r4 := K6.Row.tr r4 hT' (by show ¬ (lo7_8 = lo1_8); omega)
    clear hT hT' hG hF hQ QQ L hl r2
    have hl := hl9; clear hl9
    have r2 := xr2; clear xr2
    go_upto_region 9 with (fail)
    let L : List Sp := [sV 2 [] [] (fun u => u = .tuple #[.agg (W4 r), .bool true]), sO 6 (lo1_8) 31 [4] (fun g => aggOf g 4)]
    refine wp_region_six0 (shs L) (look6 L) (fun c => c = lo1_8) (by kernel_rfl) (by kernel_rfl) (mk_St L [6] [6] (by kernel_rfl) (by kernel_rfl) ⟨ok_V ⟨_, rfl⟩, ok_O aggOf_congr r2.lt (rfl), trivial⟩ (by simp)) ?_
    intro QQ hQ
    -- 0: load<31> *t5
    refine stepK rfl (by kernel_rfl) (fun K hK => ?_); go_simp
    apply Exists.intro; apply And.intro; (focus exact kLoad rfl rfl aggT31 r2 rfl (by first | exact id | (intro hx; have hx' : _ = _ ∨ _ = _ := hx; omega) | (intro hx; have hx' : _ = _ := hx; omega) | omega)); refine hK _ _ ?_; clear hK K
    -- 1: build<31> 0:1u
    refine stepK rfl (by kernel_rfl) (fun K hK => ?_); go_simp
    apply Exists.intro; apply And.intro; (focus (intro wk hk; go_simp; exact ⟨rfl, rfl⟩)); refine hK _ _ ?_; clear hK K
    -- 2: call F51(t52, t53)
    refine stepS _ rfl (by kernel_rfl) (fun K hK => ?_); go_simp
    refine ⟨?_, ?_⟩
    · intro wk hk hg hu; go_simp; refine upon_enter ((k5.out _).mono ?_); rintro e w' ⟨rfl, hb⟩; exact ⟨_, rfl, left_V (p := fun u => u = .tuple #[.agg (W4 r), .bool true]) rfl (hb) rfl⟩
    rintro ⟨v2, lo2, hi2⟩ - - (rfl : v2 = _)
    refine hK _ _ ?_; clear hK K
    -- 3: t54
    refine stepK rfl (by kernel_rfl) (fun K hK => ?_); go_simp
    apply Exists.intro; apply And.intro; (focus (intro wk hk; go_simp; exact ⟨rfl, rfl⟩)); refine hK _ _ ?_; clear hK K
    -- 4: extract t51 #0
    refine stepK rfl (by kernel_rfl) (fun K hK => ?_); go_simp
    apply Exists.intro; apply And.intro; (focus (intro wk hk; go_simp; exact ⟨rfl, rfl⟩)); refine hK _ _ ?_; clear hK K
    -- 5: extract t51 #1
    refine stepKz rfl (fun K hK => ?_); go_simp
    apply Exists.intro; apply And.intro; (focus (intro wk hk; go_simp; exact ⟨rfl, rfl⟩)); refine hK _ _ ?_; clear hK K
    -- 6: store<31> *t5 = t55
    refine stepS _ rfl (by kernel_rfl) (fun K hK => ?_); go_simp
    refine ⟨?_, ?_⟩
    · exact sStoreO rfl rfl rfl rfl rfl rfl r2 id (by kernel_rfl) rfl (by kernel_rfl) (by decide) aggOf_congr
    rintro ⟨v6, lo6, hi6⟩ - - (rfl : v6 = undef)
    refine hK _ _ ?_; clear hK K
    refine stepN ?_
    refine hQ _ _ ?_
    intro w6 hT hG hF
    have hT' := hT
    have xr2 : Row w6 (lo1_8) 31 ((W4 r)) := hF 6 _ rfl rfl (by decide)
    have hl9 : Below w.heap.size w w6 := hl.trans (hT'.below_of hl.size (by intro c hc; omega))
    replace r0 := K6.Row.tr r0 hT' (by show ¬ (w.heap.size = lo1_8); omega)
    replace r1 := K6.Row.tr r1 hT' (by show ¬ (w.heap.size + 1 = lo1_8); omega)
    replace r3 := K6.Row.tr r3 hT' (by show ¬ (lo2_8 = lo1_8); omega)
    replace r4 := K6.Row.tr r4 hT' (by show ¬ (lo7_8 = lo1_8); omega)
    clear hT hT' hG hF hQ QQ L hl r2
    have hl := hl9; clear hl9
    have r2 := xr2; clear xr2
    go_upto_region 12 with (fail)
    let L : List Sp := [sA 3 92 [] ((W8 0 r))]
    refine wp_region_six0 (shs L) (look6 L) (None_) (by kernel_rfl) (by kernel_rfl) (mk_St L [] [] (by kernel_rfl) (by kernel_rfl) ⟨ok_A, trivial⟩ (by simp)) ?_
    intro QQ hQ
    -- 0: load<31> *t7
    refine stepK rfl (by kernel_rfl) (fun K hK => ?_); go_simp
    apply Exists.intro; apply And.intro; (focus exact kLoad rfl rfl aggT31 r3 rfl id); refine hK _ _ ?_; clear hK K
    -- 1: load<31> *t5
    refine stepK rfl (by kernel_rfl) (fun K hK => ?_); go_simp
    apply Exists.intro; apply And.intro; (focus exact kLoad rfl rfl aggT31 r2 rfl id); refine hK _ _ ?_; clear hK K
    -- 2: build<92> 0:t59, 1:t60
    refine stepK rfl (by kernel_rfl) (fun K hK => ?_); go_simp
    apply Exists.intro; apply And.intro; (focus exact kBuild rfl rfl rfl (fun wx => build92 0 r wx)); refine hK _ _ ?_; clear hK K
    -- 3: box<92> t61
    refine stepS _ rfl (by kernel_rfl) (fun K hK => ?_); go_simp
    refine ⟨?_, ?_⟩
    · intro wk hk hg hu; go_simp; exact left_A rfl rfl
    rintro ⟨v3, lo12_3, hi3⟩ hlo3 hhi3 ⟨e3, f3⟩
    replace e3 : v3 = .pointer (some ⟨lo12_3, 0, none⟩) := e3; replace f3 : hi3 = lo12_3 + 1 := f3; replace hlo3 : _ ≤ lo12_3 := hlo3; subst e3; subst f3
    refine hK _ _ ?_; clear hK K
    -- 4: assign t62
    refine stepK rfl (by kernel_rfl) (fun K hK => ?_); go_simp
    apply Exists.intro; apply And.intro; (focus (intro wk hk; go_simp; exact ⟨rfl, rfl⟩)); refine hK _ _ ?_; clear hK K
    refine stepN ?_
    refine hQ _ _ ?_
    intro w7 hT hG hF
    have nr5r0 : w.heap.size < lo12_3 := Nat.lt_of_lt_of_le r0.lt hlo3
    have nr5r1 : w.heap.size + 1 < lo12_3 := Nat.lt_of_lt_of_le r1.lt hlo3
    have nr5r2 : lo1_8 < lo12_3 := Nat.lt_of_lt_of_le r2.lt hlo3
    have nr5r3 : lo2_8 < lo12_3 := Nat.lt_of_lt_of_le r3.lt hlo3
    have nr5r4 : lo7_8 < lo12_3 := Nat.lt_of_lt_of_le r4.lt hlo3
    have hbw7 := hT.below
    have r5 : Row w7 lo12_3 92 ((W8 0 r)) := (hF 3 _ rfl rfl (by decide)).2
    replace r0 := r0.below hbw7 r0.lt
    replace r1 := r1.below hbw7 r1.lt
    replace r2 := r2.below hbw7 r2.lt
    replace r3 := r3.below hbw7 r3.lt
    replace r4 := r4.below hbw7 r4.lt
    replace hl := hl.trans (hbw7.mono hl.size)
    clear hT hG hF hbw7 hQ QQ L hlo3 hhi3
    go_wp2_with fail
    go_ret
    exact ⟨_, rfl, r5, hl⟩
set_option maxRecDepth 100000 in
set_option maxHeartbeats 16000000 in
theorem belowU {r d g : Nat} (hr : r < M) (hd : d < M) (hrd : r < d) (w : World) (rg : Row w g 92 (W8 0 r)) : Calls Try.prog 95 #[.pointer (some ⟨g, 0, none⟩), .agg (W4 d)] w (Ret w (.bool true)) := by
  obtain ⟨c, hc⟩ : ∃ c, c = cmpN r d := ⟨_, rfl⟩
  have c0 : c < 0 := by rw [hc]; unfold cmpN; rw [if_pos hrd]; omega
  have kc := Lib.hid (show ∀ wx, Calls Try.prog 57 #[.agg (W4 r), .agg (W4 d)] wx (Ret wx (.int .i64 c)) from fun wx => by have h := refcmpU hr hd wx; rw [← hc] at h; exact h)
  have q0 : ∀ wx, (Op.equalIn 10000 31 (.agg (W4 0)) (.agg #[.int .u64 0, .int .u64 0, .int .u64 0, .int .u64 0])).run Try.prog wx = .ok true wx := fun wx => by rw [eqU0 M_pos, decide_eq_true rfl]
  clear hc hrd
  go_enter Try.func95, Try.ntmps95
  apply wp_seq_eq
  focus
    intro J hJ
    go_wp2_with fail
    exact hJ
  refine wp_abs (Mem w [(w.heap.size, 31, W4 d), (g, 92, W8 0 r)]) ⟨by go_grown, Row.new_at rfl, rg.alloc _, trivial⟩ ?_
  clear rg
  intro w0 hM
  obtain ⟨hl, rd, rg, -⟩ := hM
  go_upto_region 1 with (fail)
  let L : List Sp := [sV 12 [] [] (fun u => u = .int .i64 c)]
  refine wp_region_six (shs L) (look6 L) (None_) (by kernel_rfl) (by kernel_rfl) (mk_St L [] [] (by kernel_rfl) (by kernel_rfl) ⟨ok_V ⟨_, rfl⟩, trivial⟩ (by simp)) ?_
  intro QQ hQ
  -- 0: t0
  refine stepK rfl (by kernel_rfl) (fun K hK => ?_); go_simp
  apply Exists.intro; apply And.intro; (focus (intro wk hk; go_simp; exact ⟨rfl, rfl⟩)); refine hK _ _ ?_; clear hK K
  -- 1: nilCheck t5
  refine stepK rfl (by kernel_rfl) (fun K hK => ?_); go_simp
  apply Exists.intro; apply And.intro; (focus (intro wk hk; go_simp; exact ⟨rfl, rfl⟩)); refine hK _ _ ?_; clear hK K
  -- 2: fieldAddr<92> t6.0
  refine stepK rfl (by kernel_rfl) (fun K hK => ?_); go_simp
  apply Exists.intro; apply And.intro; (focus (intro wk hk; go_simp; exact ⟨rfl, rfl⟩)); refine hK _ _ ?_; clear hK K
  -- 3: load<31> *t7
  refine stepK rfl (by kernel_rfl) (fun K hK => ?_); go_simp
  apply Exists.intro; apply And.intro; (focus exact kLoadMid rfl rfl aggT31 rg (W8_hi 0 r) rfl id); refine hK _ _ ?_; clear hK K
  -- 4: build<31> 
  refine stepK rfl (by kernel_rfl) (fun K hK => ?_); go_simp
  apply Exists.intro; apply And.intro; (focus (intro wk hk; go_simp; exact ⟨rfl, rfl⟩)); refine hK _ _ ?_; clear hK K
  -- 5: eql<31> t8, t9
  refine stepK rfl (by kernel_rfl) (fun K hK => ?_); go_simp
  apply Exists.intro; apply And.intro; (focus (intro wk hk; go_simp; exact ⟨rfl, rfl⟩)); refine hK _ _ ?_; clear hK K
  -- 6: t10
  refine stepK rfl (by kernel_rfl) (fun K hK => ?_); go_simp
  apply Exists.intro; apply And.intro; (focus (intro wk hk; go_simp; exact ⟨rfl, rfl⟩)); refine hK _ _ ?_; clear hK K
  -- 7: t0
  refine stepK rfl (by kernel_rfl) (fun K hK => ?_); go_simp
  first | (refine hK _ _ ?_; clear hK K) | (apply Exists.intro; apply And.intro; (focus (intro wk hk; go_simp; exact ⟨rfl, rfl⟩)); refine hK _ _ ?_; clear hK K)
  -- 8: nilCheck t12
  refine stepK rfl (by kernel_rfl) (fun K hK => ?_); go_simp
  first | (refine hK _ _ ?_; clear hK K) | (apply Exists.intro; apply And.intro; (focus (intro wk hk; go_simp; exact ⟨rfl, rfl⟩)); refine hK _ _ ?_; clear hK K)
  -- 9: fieldAddr<92> t13.1
  refine stepK rfl (by kernel_rfl) (fun K hK => ?_); go_simp
  first | (refine hK _ _ ?_; clear hK K) | (apply Exists.intro; apply And.intro; (focus (intro wk hk; go_simp; exact ⟨rfl, rfl⟩)); refine hK _ _ ?_; clear hK K)
  -- 10: load<31> *t14
  refine stepK rfl (by kernel_rfl) (fun K hK => ?_); go_simp
  first | (refine hK _ _ ?_; clear hK K) | (apply Exists.intro; apply And.intro; (focus exact kLoadMid rfl rfl aggT31 rg (W8_lo 0 r) rfl id); refine hK _ _ ?_; clear hK K)
  -- 11: load<31> *t3
  refine stepK rfl (by kernel_rfl) (fun K hK => ?_); go_simp
  first | (refine hK _ _ ?_; clear hK K) | (apply Exists.intro; apply And.intro; (focus exact kLoad rfl rfl aggT31 rd rfl id); refine hK _ _ ?_; clear hK K)
  -- 12: call F57(t15, t16)
  refine stepS _ rfl (by kernel_rfl) (fun K hK => ?_); go_simp
  refine ⟨?_, ?_⟩
  · intro wk hk hg hu; go_simp; refine upon_enter ((kc.out _).mono ?_); rintro e w' ⟨rfl, hb⟩; exact ⟨_, rfl, left_V (p := fun u => u = .int .i64 c) rfl (hb) rfl⟩
  rintro ⟨v12, lo12, hi12⟩ - - (rfl : v12 = _)
  refine hK _ _ ?_; clear hK K
  -- 13: lss<3> t17, 0
  refine stepK rfl (by kernel_rfl) (fun K hK => ?_); go_simp
  first | (refine hK _ _ ?_; clear hK K) | (apply Exists.intro; apply And.intro; (focus (intro wk hk; go_simp; exact ⟨rfl, rfl⟩)); refine hK _ _ ?_; clear hK K)
  -- 14: pick t11 ? t18 : false
  refine stepK rfl (by kernel_rfl) (fun K hK => ?_); go_simp
  apply Exists.intro; apply And.intro; (focus (intro wk hk; go_simp; exact ⟨rfl, rfl⟩)); refine hK _ _ ?_; clear hK K
  -- 15: assign t19
  refine stepK rfl (by kernel_rfl) (fun K hK => ?_); go_simp
  apply Exists.intro; apply And.intro; (focus (intro wk hk; go_simp; exact ⟨rfl, rfl⟩)); refine hK _ _ ?_; clear hK K
  refine stepN ?_
  refine hQ _ _ ?_
  intro w1 hT hG hF
  have hbw1 := hT.undrew.below
  replace hl := hl.trans (hbw1.mono hl.size)
  clear hT hG hF hbw1 hQ QQ L kc q0
  go_wp2_with fail
  go_ret
  exact ⟨rfl, hl⟩
theorem ptr_some {w : World} : ∃ x : GV, w.heap.size ≤ x.lo ∧ x.lo ≤ x.hi ∧ ∃ z, x.v = .pointer (some ⟨z, 0, none⟩) := ⟨⟨.pointer (some ⟨0, 0, none⟩), w.heap.size, w.heap.size⟩, Nat.le_refl _, Nat.le_refl _, 0, rfl⟩
theorem half_eq {n : Nat} : n / M * M + n % M = n := by rw [Nat.mul_comm]; exact Nat.div_add_mod _ _
set_option maxRecDepth 100000 in
set_option maxHeartbeats 16000000 in
theorem rounds_walk (a b d : Nat) (ha : a < M) (hb : b < M) (hd : d < M) (w : World) : Calls Try.prog 15 #[.agg (W4 a), .agg (W4 b), .agg (W4 d)] w (Ret w (.bool true)) := by
  cases hok : quoB (a * b) d
  · have hx0 : quoN (a * b) d = 0 := if_neg (of_decide_eq_false hok)
    have k0 := Lib.hid (show ∀ wx, Calls Try.prog 85 #[.agg (W4 a), .agg (W4 b), .agg (W4 d)] wx (Ret wx (.tuple #[.agg (W4 0), .bool false])) from fun wx => by have h := downU ha hb hd wx; rw [hx0, hok] at h; exact h)
    have k1 := Lib.hid (show ∀ wx, Calls Try.prog 91 #[] wx (Ret wx (.bool true)) from fun wx => by have h := lives2U  wx; exact h)
    have q0 : ∀ wx, (Op.equalIn 10000 31 (.agg (W4 0)) (.agg #[.int .u64 0, .int .u64 0, .int .u64 0, .int .u64 0])).run Try.prog wx = .ok true wx := fun wx => by rw [eqU0 M_pos, decide_eq_true rfl]
    clear hx0 hok
    go_enter Try.func15, Try.ntmps15
    apply wp_seq_eq
    focus
      intro J hJ
      go_wp2_with fail
      exact hJ
    refine wp_abs (Mem w [(w.heap.size, 31, W4 a), (w.heap.size + 1, 31, W4 b), (w.heap.size + 1 + 1, 31, W4 d)]) ⟨by go_grown, ?_, ?_, ?_, trivial⟩ ?_
    · repeat (first | (refine Row.new_at ?_; simp; done) | refine Row.alloc ?_ _)
    · repeat (first | (refine Row.new_at ?_; simp; done) | refine Row.alloc ?_ _)
    · repeat (first | (refine Row.new_at ?_; simp; done) | refine Row.alloc ?_ _)
    intro w0 hM
    obtain ⟨hl, r0, r1, r2, -⟩ := hM
    go_upto_region 1 with (fail)
    let L : List Sp := [sV 3 [] [] (fun u => u = .tuple #[.agg (W4 0), .bool false]), sA 7 31 [8] #[.int .u64 0, .int .u64 0, .int .u64 0, .int .u64 0], sT 8 7 31 [5] (fun g => aggOf g 5)]
    refine wp_region_six0 (shs L) (look6 L) (None_) (by kernel_rfl) (by kernel_rfl) (mk_St L [] [] (by kernel_rfl) (by kernel_rfl) ⟨ok_V ⟨_, rfl⟩, ok_A, ok_T aggOf_congr, trivial⟩ (by simp)) ?_
    intro QQ hQ
    -- 0: load<31> *t3
    refine stepK rfl (by kernel_rfl) (fun K hK => ?_); go_simp
    apply Exists.intro; apply And.intro; (focus exact kLoad rfl rfl aggT31 r0 rfl id); refine hK _ _ ?_; clear hK K
    -- 1: load<31> *t4
    refine stepK rfl (by kernel_rfl) (fun K hK => ?_); go_simp
    apply Exists.intro; apply And.intro; (focus exact kLoad rfl rfl aggT31 r1 rfl id); refine hK _ _ ?_; clear hK K
    -- 2: load<31> *t5
    refine stepK rfl (by kernel_rfl) (fun K hK => ?_); go_simp
    apply Exists.intro; apply And.intro; (focus exact kLoad rfl rfl aggT31 r2 rfl id); refine hK _ _ ?_; clear hK K
    -- 3: call F85(t18, t19, t20)
    refine stepS _ rfl (by kernel_rfl) (fun K hK => ?_); go_simp
    refine ⟨?_, ?_⟩
    · intro wk hk hg hu; go_simp; refine upon_enter ((k0.out _).mono ?_); rintro e w' ⟨rfl, hb⟩; exact ⟨_, rfl, left_V (p := fun u => u = .tuple #[.agg (W4 0), .bool false]) rfl (hb) rfl⟩
    rintro ⟨v3, lo3, hi3⟩ - - (rfl : v3 = _)
    refine hK _ _ ?_; clear hK K
    -- 4: t21
    refine stepK rfl (by kernel_rfl) (fun K hK => ?_); go_simp
    apply Exists.intro; apply And.intro; (focus (intro wk hk; go_simp; exact ⟨rfl, rfl⟩)); refine hK _ _ ?_; clear hK K
    -- 5: extract t17 #0
    refine stepK rfl (by kernel_rfl) (fun K hK => ?_); go_simp
    apply Exists.intro; apply And.intro; (focus (intro wk hk; go_simp; exact ⟨rfl, rfl⟩)); refine hK _ _ ?_; clear hK K
    -- 6: extract t17 #1
    refine stepK rfl (by kernel_rfl) (fun K hK => ?_); go_simp
    apply Exists.intro; apply And.intro; (focus (intro wk hk; go_simp; exact ⟨rfl, rfl⟩)); refine hK _ _ ?_; clear hK K
    -- 7: alloc<31>
    refine stepS _ rfl (by kernel_rfl) (fun K hK => ?_); go_simp
    refine ⟨?_, ?_⟩
    · intro wk hk hg hu; go_simp; exact left_A rfl rfl
    rintro ⟨v7, lo1_7, hi7⟩ hlo7 hhi7 ⟨e7, f7⟩
    replace e7 : v7 = .pointer (some ⟨lo1_7, 0, none⟩) := e7; replace f7 : hi7 = lo1_7 + 1 := f7; replace hlo7 : _ ≤ lo1_7 := hlo7; subst e7; subst f7
    refine hK _ _ ?_; clear hK K
    -- 8: store<31> *t7 = t22
    refine stepS _ rfl (by kernel_rfl) (fun K hK => ?_); go_simp
    refine ⟨?_, ?_⟩
    · exact sStoreT rfl rfl rfl rfl rfl rfl rfl (by kernel_rfl) rfl (by kernel_rfl) (by decide) aggOf_congr
    rintro ⟨v8, lo8, hi8⟩ - - (rfl : v8 = undef)
    refine hK _ _ ?_; clear hK K
    -- 9: assign t23
    refine stepK rfl (by kernel_rfl) (fun K hK => ?_); go_simp
    apply Exists.intro; apply And.intro; (focus (intro wk hk; go_simp; exact ⟨rfl, rfl⟩)); refine hK _ _ ?_; clear hK K
    refine stepN ?_
    refine hQ _ _ ?_
    intro w1 hT hG hF
    have hbw1 := hT.below
    have r3 : Row w1 lo1_7 31 ((W4 0)) := (hF 8 _ rfl rfl (by decide)).2
    replace r0 := r0.below hbw1 r0.lt
    replace r1 := r1.below hbw1 r1.lt
    replace r2 := r2.below hbw1 r2.lt
    replace hl := hl.trans (hbw1.mono hl.size)
    clear hT hG hF hbw1 hQ QQ L hlo7 hhi7
    go_upto_region 3 with (fail)
    let L : List Sp := [sV 4 [] [] (fun u => u = .bool true)]
    refine wp_region_six0 (shs L) (look6 L) (None_) (by kernel_rfl) (by kernel_rfl) (mk_St L [] [] (by kernel_rfl) (by kernel_rfl) ⟨ok_V ⟨_, rfl⟩, trivial⟩ (by simp)) ?_
    intro QQ hQ
    -- 0: load<31> *t7
    refine stepK rfl (by kernel_rfl) (fun K hK => ?_); go_simp
    apply Exists.intro; apply And.intro; (focus exact kLoad rfl rfl aggT31 r3 rfl id); refine hK _ _ ?_; clear hK K
    -- 1: build<31> 
    refine stepK rfl (by kernel_rfl) (fun K hK => ?_); go_simp
    apply Exists.intro; apply And.intro; (focus (intro wk hk; go_simp; exact ⟨rfl, rfl⟩)); refine hK _ _ ?_; clear hK K
    -- 2: eql<31> t26, t27
    refine stepK rfl (by kernel_rfl) (fun K hK => ?_); go_simp
    apply Exists.intro; apply And.intro; (focus (intro wk hk; go_simp; exact ⟨rfl, rfl⟩)); refine hK _ _ ?_; clear hK K
    -- 3: t28
    refine stepK rfl (by kernel_rfl) (fun K hK => ?_); go_simp
    apply Exists.intro; apply And.intro; (focus (intro wk hk; go_simp; exact ⟨rfl, rfl⟩)); refine hK _ _ ?_; clear hK K
    -- 4: call F91()
    refine stepS _ rfl (by kernel_rfl) (fun K hK => ?_); go_simp
    refine ⟨?_, ?_⟩
    · intro wk hk hg hu; go_simp; refine upon_enter ((k1.out _).mono ?_); rintro e w' ⟨rfl, hb⟩; exact ⟨_, rfl, left_V (p := fun u => u = .bool true) rfl (hb) rfl⟩
    rintro ⟨v4, lo4, hi4⟩ - - (rfl : v4 = _)
    refine hK _ _ ?_; clear hK K
    -- 5: pick t29 ? t30 : false
    refine stepK rfl (by kernel_rfl) (fun K hK => ?_); go_simp
    apply Exists.intro; apply And.intro; (focus (intro wk hk; go_simp; exact ⟨rfl, rfl⟩)); refine hK _ _ ?_; clear hK K
    -- 6: assign t31
    refine stepK rfl (by kernel_rfl) (fun K hK => ?_); go_simp
    apply Exists.intro; apply And.intro; (focus (intro wk hk; go_simp; exact ⟨rfl, rfl⟩)); refine hK _ _ ?_; clear hK K
    refine stepN ?_
    refine hQ _ _ ?_
    intro w2 hT hG hF
    have hbw2 := hT.below
    replace r0 := r0.below hbw2 r0.lt
    replace r1 := r1.below hbw2 r1.lt
    replace r2 := r2.below hbw2 r2.lt
    replace r3 := r3.below hbw2 r3.lt
    replace hl := hl.trans (hbw2.mono hl.size)
    clear hT hG hF hbw2 hQ QQ L 
    go_wp2_with fail
    go_ret
    exact ⟨rfl, hl⟩
  · have hq : d ≠ 0 ∧ a * b / d < M := of_decide_eq_true hok
    have hx1 : quoN (a * b) d = a * b / d := if_pos hq
    have hrem : remN (a * b) d = a * b % d := if_pos hq
    have hmm := MM_mul ha hb
    have hU1 : upN (a * b) d = if remN (a * b) d = 0 then quoN (a * b) d else addN (quoN (a * b) d) 1 := rfl
    have hU2 : upB (a * b) d = if remN (a * b) d = 0 then quoB (a * b) d else addB (quoN (a * b) d) 1 := rfl
    rw [hrem] at hU1 hU2
    obtain ⟨x, hx⟩ : ∃ x, x = quoN (a * b) d := ⟨_, rfl⟩
    rw [← hx] at hx1 hU1 hU2
    have xl : x < M := by rw [hx1]; exact hq.2
    obtain ⟨r, hr⟩ : ∃ r, a * b % d = r := ⟨_, rfl⟩
    have hrd : r < d := hr ▸ Nat.mod_lt _ (Nat.pos_of_ne_zero hq.1)
    have hn : x * d + r = a * b := by rw [hx1, ← hr, Nat.mul_comm]; exact Nat.div_add_mod _ _
    rw [hr] at hU1 hU2
    obtain ⟨ph, hph⟩ : ∃ z, z = a * b / M := ⟨_, rfl⟩
    obtain ⟨pl, hpl⟩ : ∃ z, z = a * b % M := ⟨_, rfl⟩
    obtain ⟨lh, hlh⟩ : ∃ z, z = x * d / M := ⟨_, rfl⟩
    obtain ⟨ll, hll⟩ : ∃ z, z = x * d % M := ⟨_, rfl⟩
    have p1 : ph < M := by rw [hph, Nat.div_lt_iff_lt_mul M_pos]; exact hmm
    have p2 : pl < M := hpl ▸ Nat.mod_lt _ M_pos
    have p3 : lh < M := by rw [hlh, Nat.div_lt_iff_lt_mul M_pos]; exact MM_mul xl hd
    have p4 : ll < M := hll ▸ Nat.mod_lt _ M_pos
    have eP : ph * M + pl = a * b := by rw [hph, hpl]; exact half_eq
    have eL : lh * M + ll = x * d := by rw [hlh, hll]; exact half_eq
    have hrM : r < M := Nat.lt_trans hrd hd
    have kl := Lib.hid fun wx => lessU p1 p2 p3 p4 hrM (by rw [eP, eL]; exact hn) wx
    have kb := Lib.hid fun wx g (rg : Row wx g 92 (W8 0 r)) => belowU hrM hd hrd wx rg
    clear hq hx1 hrem hmm hr
    by_cases h0 : r = 0
    · rw [if_pos h0] at hU1 hU2
      have hy1 : upN (a * b) d = x := hU1
      have hy2 : upB (a * b) d = true := hU2.trans hok
      have e92 : (decide (ph = lh) && decide (pl = ll)) = true := by
        have e : a * b = x * d := by omega
        rw [hph, hpl, hlh, hll, e, decide_eq_true rfl, decide_eq_true rfl]; decide
      clear h0 hU1 hU2 hn eP eL hrd hrM
      have k0 := Lib.hid (show ∀ wx, Calls Try.prog 85 #[.agg (W4 a), .agg (W4 b), .agg (W4 d)] wx (Ret wx (.tuple #[.agg (W4 x), .bool true])) from fun wx => by have h := downU ha hb hd wx; rw [← hx, hok] at h; exact h)
      have k1 := Lib.hid (show ∀ wx, Calls Try.prog 89 #[.agg (W4 a), .agg (W4 b)] wx (Ret wx (.agg (W8 ph pl))) from fun wx => by have h := mmulU ha hb wx; rw [← hph, ← hpl] at h; exact h)
      have k2 := Lib.hid (show ∀ wx, Calls Try.prog 89 #[.agg (W4 x), .agg (W4 d)] wx (Ret wx (.agg (W8 lh ll))) from fun wx => by have h := mmulU xl hd wx; rw [← hlh, ← hll] at h; exact h)
      have k3 := Lib.hid (show ∀ wx, Calls Try.prog 87 #[.agg (W4 a), .agg (W4 b), .agg (W4 d)] wx (Ret wx (.tuple #[.agg (W4 x), .bool true])) from fun wx => by have h := upU ha hb hd wx; rw [hy1, hy2] at h; exact h)
      have k4 := Lib.hid (show ∀ wx, Calls Try.prog 91 #[] wx (Ret wx (.bool true)) from fun wx => by have h := lives2U  wx; exact h)
      have q0 : ∀ wx, (Op.equalIn 10000 92 (.agg (W8 ph pl)) (.agg (W8 lh ll))).run Try.prog wx = .ok true wx := fun wx => by rw [eq92 p1 p2 p3 p4, e92]
      have q1 : ∀ wx, (Op.equalIn 10000 31 (.agg (W4 x)) (.agg (W4 x))).run Try.prog wx = .ok true wx := fun wx => by rw [eqU xl xl, decide_eq_true rfl]
      clear hx hok hph hpl hlh hll hy1 hy2 e92
      go_enter Try.func15, Try.ntmps15
      apply wp_seq_eq
      focus
        intro J hJ
        go_wp2_with fail
        exact hJ
      refine wp_abs (Mem w [(w.heap.size, 31, W4 a), (w.heap.size + 1, 31, W4 b), (w.heap.size + 1 + 1, 31, W4 d)]) ⟨by go_grown, ?_, ?_, ?_, trivial⟩ ?_
      · repeat (first | (refine Row.new_at ?_; simp; done) | refine Row.alloc ?_ _)
      · repeat (first | (refine Row.new_at ?_; simp; done) | refine Row.alloc ?_ _)
      · repeat (first | (refine Row.new_at ?_; simp; done) | refine Row.alloc ?_ _)
      intro w0 hM
      obtain ⟨hl, r0, r1, r2, -⟩ := hM
      go_upto_region 1 with (fail)
      let L : List Sp := [sV 3 [] [] (fun u => u = .tuple #[.agg (W4 x), .bool true]), sA 7 31 [8] #[.int .u64 0, .int .u64 0, .int .u64 0, .int .u64 0], sT 8 7 31 [5] (fun g => aggOf g 5)]
      refine wp_region_six0 (shs L) (look6 L) (None_) (by kernel_rfl) (by kernel_rfl) (mk_St L [] [] (by kernel_rfl) (by kernel_rfl) ⟨ok_V ⟨_, rfl⟩, ok_A, ok_T aggOf_congr, trivial⟩ (by simp)) ?_
      intro QQ hQ
      -- 0: load<31> *t3
      refine stepK rfl (by kernel_rfl) (fun K hK => ?_); go_simp
      apply Exists.intro; apply And.intro; (focus exact kLoad rfl rfl aggT31 r0 rfl id); refine hK _ _ ?_; clear hK K
      -- 1: load<31> *t4
      refine stepK rfl (by kernel_rfl) (fun K hK => ?_); go_simp
      apply Exists.intro; apply And.intro; (focus exact kLoad rfl rfl aggT31 r1 rfl id); refine hK _ _ ?_; clear hK K
      -- 2: load<31> *t5
      refine stepK rfl (by kernel_rfl) (fun K hK => ?_); go_simp
      apply Exists.intro; apply And.intro; (focus exact kLoad rfl rfl aggT31 r2 rfl id); refine hK _ _ ?_; clear hK K
      -- 3: call F85(t18, t19, t20)
      refine stepS _ rfl (by kernel_rfl) (fun K hK => ?_); go_simp
      refine ⟨?_, ?_⟩
      · intro wk hk hg hu; go_simp; refine upon_enter ((k0.out _).mono ?_); rintro e w' ⟨rfl, hb⟩; exact ⟨_, rfl, left_V (p := fun u => u = .tuple #[.agg (W4 x), .bool true]) rfl (hb) rfl⟩
      rintro ⟨v3, lo3, hi3⟩ - - (rfl : v3 = _)
      refine hK _ _ ?_; clear hK K
      -- 4: t21
      refine stepK rfl (by kernel_rfl) (fun K hK => ?_); go_simp
      apply Exists.intro; apply And.intro; (focus (intro wk hk; go_simp; exact ⟨rfl, rfl⟩)); refine hK _ _ ?_; clear hK K
      -- 5: extract t17 #0
      refine stepK rfl (by kernel_rfl) (fun K hK => ?_); go_simp
      apply Exists.intro; apply And.intro; (focus (intro wk hk; go_simp; exact ⟨rfl, rfl⟩)); refine hK _ _ ?_; clear hK K
      -- 6: extract t17 #1
      refine stepK rfl (by kernel_rfl) (fun K hK => ?_); go_simp
      apply Exists.intro; apply And.intro; (focus (intro wk hk; go_simp; exact ⟨rfl, rfl⟩)); refine hK _ _ ?_; clear hK K
      -- 7: alloc<31>
      refine stepS _ rfl (by kernel_rfl) (fun K hK => ?_); go_simp
      refine ⟨?_, ?_⟩
      · intro wk hk hg hu; go_simp; exact left_A rfl rfl
      rintro ⟨v7, lo1_7, hi7⟩ hlo7 hhi7 ⟨e7, f7⟩
      replace e7 : v7 = .pointer (some ⟨lo1_7, 0, none⟩) := e7; replace f7 : hi7 = lo1_7 + 1 := f7; replace hlo7 : _ ≤ lo1_7 := hlo7; subst e7; subst f7
      refine hK _ _ ?_; clear hK K
      -- 8: store<31> *t7 = t22
      refine stepS _ rfl (by kernel_rfl) (fun K hK => ?_); go_simp
      refine ⟨?_, ?_⟩
      · exact sStoreT rfl rfl rfl rfl rfl rfl rfl (by kernel_rfl) rfl (by kernel_rfl) (by decide) aggOf_congr
      rintro ⟨v8, lo8, hi8⟩ - - (rfl : v8 = undef)
      refine hK _ _ ?_; clear hK K
      -- 9: assign t23
      refine stepK rfl (by kernel_rfl) (fun K hK => ?_); go_simp
      apply Exists.intro; apply And.intro; (focus (intro wk hk; go_simp; exact ⟨rfl, rfl⟩)); refine hK _ _ ?_; clear hK K
      refine stepN ?_
      refine hQ _ _ ?_
      intro w1 hT hG hF
      have hbw1 := hT.below
      have r3 : Row w1 lo1_7 31 ((W4 x)) := (hF 8 _ rfl rfl (by decide)).2
      replace r0 := r0.below hbw1 r0.lt
      replace r1 := r1.below hbw1 r1.lt
      replace r2 := r2.below hbw1 r2.lt
      replace hl := hl.trans (hbw1.mono hl.size)
      clear hT hG hF hbw1 hQ QQ L hlo7 hhi7
      go_upto_region 4 with (fail)
      let L : List Sp := [sV 2 [] [] (fun u => u = .agg (W8 ph pl)), sA 3 92 [4] #[.int .u64 0, .int .u64 0, .int .u64 0, .int .u64 0, .int .u64 0, .int .u64 0, .int .u64 0, .int .u64 0], sT 4 3 92 [2] (fun g => aggOf g 2)]
      refine wp_region_six0 (shs L) (look6 L) (None_) (by kernel_rfl) (by kernel_rfl) (mk_St L [] [] (by kernel_rfl) (by kernel_rfl) ⟨ok_V ⟨_, rfl⟩, ok_A, ok_T aggOf_congr, trivial⟩ (by simp)) ?_
      intro QQ hQ
      -- 0: load<31> *t3
      refine stepK rfl (by kernel_rfl) (fun K hK => ?_); go_simp
      apply Exists.intro; apply And.intro; (focus exact kLoad rfl rfl aggT31 r0 rfl id); refine hK _ _ ?_; clear hK K
      -- 1: load<31> *t4
      refine stepK rfl (by kernel_rfl) (fun K hK => ?_); go_simp
      apply Exists.intro; apply And.intro; (focus exact kLoad rfl rfl aggT31 r1 rfl id); refine hK _ _ ?_; clear hK K
      -- 2: call F89(t32, t33)
      refine stepS _ rfl (by kernel_rfl) (fun K hK => ?_); go_simp
      refine ⟨?_, ?_⟩
      · intro wk hk hg hu; go_simp; refine upon_enter ((k1.out _).mono ?_); rintro e w' ⟨rfl, hb⟩; exact ⟨_, rfl, left_V (p := fun u => u = .agg (W8 ph pl)) rfl (hb) rfl⟩
      rintro ⟨v2, lo2, hi2⟩ - - (rfl : v2 = _)
      refine hK _ _ ?_; clear hK K
      -- 3: alloc<92>
      refine stepS _ rfl (by kernel_rfl) (fun K hK => ?_); go_simp
      refine ⟨?_, ?_⟩
      · intro wk hk hg hu; go_simp; exact left_A rfl rfl
      rintro ⟨v3, lo4_3, hi3⟩ hlo3 hhi3 ⟨e3, f3⟩
      replace e3 : v3 = .pointer (some ⟨lo4_3, 0, none⟩) := e3; replace f3 : hi3 = lo4_3 + 1 := f3; replace hlo3 : _ ≤ lo4_3 := hlo3; subst e3; subst f3
      refine hK _ _ ?_; clear hK K
      -- 4: store<92> *t9 = t34
      refine stepS _ rfl (by kernel_rfl) (fun K hK => ?_); go_simp
      refine ⟨?_, ?_⟩
      · exact sStoreT rfl rfl rfl rfl rfl rfl rfl (by kernel_rfl) rfl (by kernel_rfl) (by decide) aggOf_congr
      rintro ⟨v4, lo4, hi4⟩ - - (rfl : v4 = undef)
      refine hK _ _ ?_; clear hK K
      refine stepN ?_
      refine hQ _ _ ?_
      intro w2 hT hG hF
      have hbw2 := hT.below
      have r4 : Row w2 lo4_3 92 ((W8 ph pl)) := (hF 4 _ rfl rfl (by decide)).2
      replace r0 := r0.below hbw2 r0.lt
      replace r1 := r1.below hbw2 r1.lt
      replace r2 := r2.below hbw2 r2.lt
      replace r3 := r3.below hbw2 r3.lt
      replace hl := hl.trans (hbw2.mono hl.size)
      clear hT hG hF hbw2 hQ QQ L hlo3 hhi3
      go_upto_region 5 with (fail)
      let L : List Sp := [sV 2 [] [] (fun u => u = .agg (W8 lh ll)), sA 3 92 [4] #[.int .u64 0, .int .u64 0, .int .u64 0, .int .u64 0, .int .u64 0, .int .u64 0, .int .u64 0, .int .u64 0], sT 4 3 92 [2] (fun g => aggOf g 2)]
      refine wp_region_six0 (shs L) (look6 L) (None_) (by kernel_rfl) (by kernel_rfl) (mk_St L [] [] (by kernel_rfl) (by kernel_rfl) ⟨ok_V ⟨_, rfl⟩, ok_A, ok_T aggOf_congr, trivial⟩ (by simp)) ?_
      intro QQ hQ
      -- 0: load<31> *t7
      refine stepK rfl (by kernel_rfl) (fun K hK => ?_); go_simp
      apply Exists.intro; apply And.intro; (focus exact kLoad rfl rfl aggT31 r3 rfl id); refine hK _ _ ?_; clear hK K
      -- 1: load<31> *t5
      refine stepK rfl (by kernel_rfl) (fun K hK => ?_); go_simp
      apply Exists.intro; apply And.intro; (focus exact kLoad rfl rfl aggT31 r2 rfl id); refine hK _ _ ?_; clear hK K
      -- 2: call F89(t35, t36)
      refine stepS _ rfl (by kernel_rfl) (fun K hK => ?_); go_simp
      refine ⟨?_, ?_⟩
      · intro wk hk hg hu; go_simp; refine upon_enter ((k2.out _).mono ?_); rintro e w' ⟨rfl, hb⟩; exact ⟨_, rfl, left_V (p := fun u => u = .agg (W8 lh ll)) rfl (hb) rfl⟩
      rintro ⟨v2, lo2, hi2⟩ - - (rfl : v2 = _)
      refine hK _ _ ?_; clear hK K
      -- 3: alloc<92>
      refine stepS _ rfl (by kernel_rfl) (fun K hK => ?_); go_simp
      refine ⟨?_, ?_⟩
      · intro wk hk hg hu; go_simp; exact left_A rfl rfl
      rintro ⟨v3, lo5_3, hi3⟩ hlo3 hhi3 ⟨e3, f3⟩
      replace e3 : v3 = .pointer (some ⟨lo5_3, 0, none⟩) := e3; replace f3 : hi3 = lo5_3 + 1 := f3; replace hlo3 : _ ≤ lo5_3 := hlo3; subst e3; subst f3
      refine hK _ _ ?_; clear hK K
      -- 4: store<92> *t10 = t37
      refine stepS _ rfl (by kernel_rfl) (fun K hK => ?_); go_simp
      refine ⟨?_, ?_⟩
      · exact sStoreT rfl rfl rfl rfl rfl rfl rfl (by kernel_rfl) rfl (by kernel_rfl) (by decide) aggOf_congr
      rintro ⟨v4, lo4, hi4⟩ - - (rfl : v4 = undef)
      refine hK _ _ ?_; clear hK K
      refine stepN ?_
      refine hQ _ _ ?_
      intro w3 hT hG hF
      have hbw3 := hT.below
      have r5 : Row w3 lo5_3 92 ((W8 lh ll)) := (hF 4 _ rfl rfl (by decide)).2
      replace r0 := r0.below hbw3 r0.lt
      replace r1 := r1.below hbw3 r1.lt
      replace r2 := r2.below hbw3 r2.lt
      replace r3 := r3.below hbw3 r3.lt
      replace r4 := r4.below hbw3 r4.lt
      replace hl := hl.trans (hbw3.mono hl.size)
      clear hT hG hF hbw3 hQ QQ L hlo3 hhi3
      go_upto_region 6 with (fail)
      let L : List Sp := [sF 2 [] [] [] (fun x => ∃ z, x.v = .pointer (some ⟨z, 0, none⟩)) (fun x w => ∃ z, x.v = .pointer (some ⟨z, 0, none⟩) ∧ Row w z 92 (W8 0 r))]
      refine wp_region_six0 (shs L) (look6 L) (None_) (by kernel_rfl) (by kernel_rfl) (mk_St L [] [] (by kernel_rfl) (by kernel_rfl) ⟨ok_F ptr_some (fun _ _ _ h hb => let ⟨z, e, rz⟩ := h; ⟨z, e, rz.below hb rz.lt⟩), trivial⟩ (by simp)) ?_
      intro QQ hQ
      -- 0: load<92> *t9
      refine stepK rfl (by kernel_rfl) (fun K hK => ?_); go_simp
      apply Exists.intro; apply And.intro; (focus exact kLoad rfl rfl aggT92 r4 rfl id); refine hK _ _ ?_; clear hK K
      -- 1: load<92> *t10
      refine stepK rfl (by kernel_rfl) (fun K hK => ?_); go_simp
      apply Exists.intro; apply And.intro; (focus exact kLoad rfl rfl aggT92 r5 rfl id); refine hK _ _ ?_; clear hK K
      -- 2: call F94(t38, t39)
      refine stepS _ rfl (by kernel_rfl) (fun K hK => ?_); go_simp
      refine ⟨?_, ?_⟩
      · intro wk hk hg hu; go_simp; refine upon_enter ((kl.out _).mono ?_); rintro e w' ⟨z, rfl, hv, hb⟩; exact ⟨_, rfl, left_F rfl rfl hb ⟨_, rfl⟩ ⟨_, rfl, hv⟩⟩
      rintro ⟨v2, lo2, hi2⟩ - - ⟨y2, (rfl : v2 = _)⟩
      refine hK _ _ ?_; clear hK K
      -- 3: assign t40
      refine stepK rfl (by kernel_rfl) (fun K hK => ?_); go_simp
      apply Exists.intro; apply And.intro; (focus (intro wk hk; go_simp; exact ⟨rfl, rfl⟩)); refine hK _ _ ?_; clear hK K
      refine stepN ?_
      refine hQ _ _ ?_
      intro w6 hT hG hF
      have hb6 := hT.below
      obtain ⟨g, eg, rg⟩ : ∃ z, (Value.pointer (some ⟨y2, 0, none⟩)) = .pointer (some ⟨z, 0, none⟩) ∧ Row w6 z 92 (W8 0 r) := hF 2 _ rfl rfl (by decide)
      cases eg
      replace r0 := r0.below hb6 r0.lt
      replace r1 := r1.below hb6 r1.lt
      replace r2 := r2.below hb6 r2.lt
      replace r3 := r3.below hb6 r3.lt
      replace r4 := r4.below hb6 r4.lt
      replace r5 := r5.below hb6 r5.lt
      replace hl := hl.trans (hb6.mono hl.size)
      clear hT hG hF hb6 hQ QQ L kl
      go_upto_region 7 with (fail)
      let L : List Sp := [sV 5 [] [] (fun u => u = .bool true)]
      refine wp_region_six0 (shs L) (look6 L) (None_) (by kernel_rfl) (by kernel_rfl) (mk_St L [] [] (by kernel_rfl) (by kernel_rfl) ⟨ok_V ⟨_, rfl⟩, trivial⟩ (by simp)) ?_
      intro QQ hQ
      -- 0: t11
      refine stepK rfl (by kernel_rfl) (fun K hK => ?_); go_simp
      apply Exists.intro; apply And.intro; (focus (intro wk hk; go_simp; exact ⟨rfl, rfl⟩)); refine hK _ _ ?_; clear hK K
      -- 1: eql<98> t41, nilptr
      refine stepK rfl (by kernel_rfl) (fun K hK => ?_); go_simp
      apply Exists.intro; apply And.intro; (focus (intro wk hk; go_simp; exact ⟨rfl, rfl⟩)); refine hK _ _ ?_; clear hK K
      -- 2: t42
      refine stepK rfl (by kernel_rfl) (fun K hK => ?_); go_simp
      apply Exists.intro; apply And.intro; (focus (intro wk hk; go_simp; exact ⟨rfl, rfl⟩)); refine hK _ _ ?_; clear hK K
      -- 3: t11
      refine stepK rfl (by kernel_rfl) (fun K hK => ?_); go_simp
      first | (refine hK _ _ ?_; clear hK K) | (apply Exists.intro; apply And.intro; (focus (intro wk hk; go_simp; exact ⟨rfl, rfl⟩)); refine hK _ _ ?_; clear hK K)
      -- 4: load<31> *t5
      refine stepK rfl (by kernel_rfl) (fun K hK => ?_); go_simp
      first | (refine hK _ _ ?_; clear hK K) | (apply Exists.intro; apply And.intro; (focus exact kLoad rfl rfl aggT31 r2 rfl id); refine hK _ _ ?_; clear hK K)
      -- 5: call F95(t44, t45)
      refine stepS _ rfl (by kernel_rfl) (fun K hK => ?_); go_simp
      refine ⟨?_, ?_⟩
      · intro wk hk hg hu; go_simp; refine upon_enter ((kb.out _ _ (rg.below hk.below rg.lt)).mono ?_); rintro e w' ⟨rfl, hb⟩; exact ⟨_, rfl, left_V (p := fun u => u = .bool true) rfl (hb) rfl⟩
      rintro ⟨v5, lo5, hi5⟩ - - (rfl : v5 = _)
      refine hK _ _ ?_; clear hK K
      -- 6: not<4> t46
      refine stepK rfl (by kernel_rfl) (fun K hK => ?_); go_simp
      first | (refine hK _ _ ?_; clear hK K) | (apply Exists.intro; apply And.intro; (focus (intro wk hk; go_simp; exact ⟨rfl, rfl⟩)); refine hK _ _ ?_; clear hK K)
      -- 7: pick t43 ? true : t47
      refine stepK rfl (by kernel_rfl) (fun K hK => ?_); go_simp
      apply Exists.intro; apply And.intro; (focus (intro wk hk; go_simp; exact ⟨rfl, rfl⟩)); refine hK _ _ ?_; clear hK K
      refine stepN ?_
      refine hQ _ _ ?_
      intro w5 hT hG hF
      have hbw5 := hT.below
      replace r0 := r0.below hbw5 r0.lt
      replace r1 := r1.below hbw5 r1.lt
      replace r2 := r2.below hbw5 r2.lt
      replace r3 := r3.below hbw5 r3.lt
      replace r4 := r4.below hbw5 r4.lt
      replace r5 := r5.below hbw5 r5.lt
      replace rg := rg.below hbw5 rg.lt
      replace hl := hl.trans (hbw5.mono hl.size)
      clear hT hG hF hbw5 hQ QQ L 
      go_upto_region 9 with (fail)
      let L : List Sp := [sV 3 [] [] (fun u => u = .tuple #[.agg (W4 x), .bool true]), sA 7 31 [8] #[.int .u64 0, .int .u64 0, .int .u64 0, .int .u64 0], sT 8 7 31 [5] (fun g => aggOf g 5)]
      refine wp_region_six0 (shs L) (look6 L) (None_) (by kernel_rfl) (by kernel_rfl) (mk_St L [] [] (by kernel_rfl) (by kernel_rfl) ⟨ok_V ⟨_, rfl⟩, ok_A, ok_T aggOf_congr, trivial⟩ (by simp)) ?_
      intro QQ hQ
      -- 0: load<31> *t3
      refine stepK rfl (by kernel_rfl) (fun K hK => ?_); go_simp
      apply Exists.intro; apply And.intro; (focus exact kLoad rfl rfl aggT31 r0 rfl id); refine hK _ _ ?_; clear hK K
      -- 1: load<31> *t4
      refine stepK rfl (by kernel_rfl) (fun K hK => ?_); go_simp
      apply Exists.intro; apply And.intro; (focus exact kLoad rfl rfl aggT31 r1 rfl id); refine hK _ _ ?_; clear hK K
      -- 2: load<31> *t5
      refine stepK rfl (by kernel_rfl) (fun K hK => ?_); go_simp
      apply Exists.intro; apply And.intro; (focus exact kLoad rfl rfl aggT31 r2 rfl id); refine hK _ _ ?_; clear hK K
      -- 3: call F87(t50, t51, t52)
      refine stepS _ rfl (by kernel_rfl) (fun K hK => ?_); go_simp
      refine ⟨?_, ?_⟩
      · intro wk hk hg hu; go_simp; refine upon_enter ((k3.out _).mono ?_); rintro e w' ⟨rfl, hb⟩; exact ⟨_, rfl, left_V (p := fun u => u = .tuple #[.agg (W4 x), .bool true]) rfl (hb) rfl⟩
      rintro ⟨v3, lo3, hi3⟩ - - (rfl : v3 = _)
      refine hK _ _ ?_; clear hK K
      -- 4: t53
      refine stepK rfl (by kernel_rfl) (fun K hK => ?_); go_simp
      apply Exists.intro; apply And.intro; (focus (intro wk hk; go_simp; exact ⟨rfl, rfl⟩)); refine hK _ _ ?_; clear hK K
      -- 5: extract t49 #0
      refine stepK rfl (by kernel_rfl) (fun K hK => ?_); go_simp
      apply Exists.intro; apply And.intro; (focus (intro wk hk; go_simp; exact ⟨rfl, rfl⟩)); refine hK _ _ ?_; clear hK K
      -- 6: extract t49 #1
      refine stepK rfl (by kernel_rfl) (fun K hK => ?_); go_simp
      apply Exists.intro; apply And.intro; (focus (intro wk hk; go_simp; exact ⟨rfl, rfl⟩)); refine hK _ _ ?_; clear hK K
      -- 7: alloc<31>
      refine stepS _ rfl (by kernel_rfl) (fun K hK => ?_); go_simp
      refine ⟨?_, ?_⟩
      · intro wk hk hg hu; go_simp; exact left_A rfl rfl
      rintro ⟨v7, lo9_7, hi7⟩ hlo7 hhi7 ⟨e7, f7⟩
      replace e7 : v7 = .pointer (some ⟨lo9_7, 0, none⟩) := e7; replace f7 : hi7 = lo9_7 + 1 := f7; replace hlo7 : _ ≤ lo9_7 := hlo7; subst e7; subst f7
      refine hK _ _ ?_; clear hK K
      -- 8: store<31> *t12 = t54
      refine stepS _ rfl (by kernel_rfl) (fun K hK => ?_); go_simp
      refine ⟨?_, ?_⟩
      · exact sStoreT rfl rfl rfl rfl rfl rfl rfl (by kernel_rfl) rfl (by kernel_rfl) (by decide) aggOf_congr
      rintro ⟨v8, lo8, hi8⟩ - - (rfl : v8 = undef)
      refine hK _ _ ?_; clear hK K
      -- 9: assign t55
      refine stepK rfl (by kernel_rfl) (fun K hK => ?_); go_simp
      apply Exists.intro; apply And.intro; (focus (intro wk hk; go_simp; exact ⟨rfl, rfl⟩)); refine hK _ _ ?_; clear hK K
      refine stepN ?_
      refine hQ _ _ ?_
      intro w6 hT hG hF
      have hbw6 := hT.below
      have r7 : Row w6 lo9_7 31 ((W4 x)) := (hF 8 _ rfl rfl (by decide)).2
      replace r0 := r0.below hbw6 r0.lt
      replace r1 := r1.below hbw6 r1.lt
      replace r2 := r2.below hbw6 r2.lt
      replace r3 := r3.below hbw6 r3.lt
      replace r4 := r4.below hbw6 r4.lt
      replace r5 := r5.below hbw6 r5.lt
      replace rg := rg.below hbw6 rg.lt
      replace hl := hl.trans (hbw6.mono hl.size)
      clear hT hG hF hbw6 hQ QQ L hlo7 hhi7
      go_upto_region 10 with (fail)
      let L : List Sp := []
      refine wp_region_six0 (shs L) (look6 L) (None_) (by kernel_rfl) (by kernel_rfl) (mk_St L [] [] (by kernel_rfl) (by kernel_rfl) trivial (by simp)) ?_
      intro QQ hQ
      -- 0: fieldAddr<92> t9.0
      refine stepK rfl (by kernel_rfl) (fun K hK => ?_); go_simp
      apply Exists.intro; apply And.intro; (focus (intro wk hk; go_simp; exact ⟨rfl, rfl⟩)); refine hK _ _ ?_; clear hK K
      -- 1: load<31> *t56
      refine stepK rfl (by kernel_rfl) (fun K hK => ?_); go_simp
      apply Exists.intro; apply And.intro; (focus exact kLoadMid rfl rfl aggT31 r4 (W8_hi ph pl) rfl id); refine hK _ _ ?_; clear hK K
      -- 2: fieldAddr<92> t9.1
      refine stepK rfl (by kernel_rfl) (fun K hK => ?_); go_simp
      apply Exists.intro; apply And.intro; (focus (intro wk hk; go_simp; exact ⟨rfl, rfl⟩)); refine hK _ _ ?_; clear hK K
      -- 3: load<31> *t58
      refine stepK rfl (by kernel_rfl) (fun K hK => ?_); go_simp
      apply Exists.intro; apply And.intro; (focus exact kLoadMid rfl rfl aggT31 r4 (W8_lo ph pl) rfl id); refine hK _ _ ?_; clear hK K
      -- 4: build<92> 0:t57, 1:t59
      refine stepK rfl (by kernel_rfl) (fun K hK => ?_); go_simp
      apply Exists.intro; apply And.intro; (focus exact kBuild rfl rfl rfl (fun wx => build92 ph pl wx)); refine hK _ _ ?_; clear hK K
      -- 5: load<92> *t10
      refine stepK rfl (by kernel_rfl) (fun K hK => ?_); go_simp
      apply Exists.intro; apply And.intro; (focus exact kLoad rfl rfl aggT92 r5 rfl id); refine hK _ _ ?_; clear hK K
      -- 6: eql<92> t60, t61
      refine stepK rfl (by kernel_rfl) (fun K hK => ?_); go_simp
      apply Exists.intro; apply And.intro; (focus (intro wk hk; go_simp; exact ⟨rfl, rfl⟩)); refine hK _ _ ?_; clear hK K
      -- 7: assign t62
      refine stepK rfl (by kernel_rfl) (fun K hK => ?_); go_simp
      apply Exists.intro; apply And.intro; (focus (intro wk hk; go_simp; exact ⟨rfl, rfl⟩)); refine hK _ _ ?_; clear hK K
      refine stepN ?_
      refine hQ _ _ ?_
      intro w7 hT hG hF
      have hbw7 := hT.below
      replace r0 := r0.below hbw7 r0.lt
      replace r1 := r1.below hbw7 r1.lt
      replace r2 := r2.below hbw7 r2.lt
      replace r3 := r3.below hbw7 r3.lt
      replace r4 := r4.below hbw7 r4.lt
      replace r5 := r5.below hbw7 r5.lt
      replace rg := rg.below hbw7 rg.lt
      replace r7 := r7.below hbw7 r7.lt
      replace hl := hl.trans (hbw7.mono hl.size)
      clear hT hG hF hbw7 hQ QQ L 
      go_upto_region 12 with (fail)
      let L : List Sp := [sV 7 [] [] (fun u => u = .bool true)]
      refine wp_region_six0 (shs L) (look6 L) (None_) (by kernel_rfl) (by kernel_rfl) (mk_St L [] [] (by kernel_rfl) (by kernel_rfl) ⟨ok_V ⟨_, rfl⟩, trivial⟩ (by simp)) ?_
      intro QQ hQ
      -- 0: t13
      refine stepK rfl (by kernel_rfl) (fun K hK => ?_); go_simp
      apply Exists.intro; apply And.intro; (focus (intro wk hk; go_simp; exact ⟨rfl, rfl⟩)); refine hK _ _ ?_; clear hK K
      -- 1: t64
      refine stepK rfl (by kernel_rfl) (fun K hK => ?_); go_simp
      apply Exists.intro; apply And.intro; (focus (intro wk hk; go_simp; exact ⟨rfl, rfl⟩)); refine hK _ _ ?_; clear hK K
      -- 2: load<31> *t12
      refine stepK rfl (by kernel_rfl) (fun K hK => ?_); go_simp
      first | (refine hK _ _ ?_; clear hK K) | (apply Exists.intro; apply And.intro; (focus exact kLoad rfl rfl aggT31 r7 rfl id); refine hK _ _ ?_; clear hK K)
      -- 3: load<31> *t7
      refine stepK rfl (by kernel_rfl) (fun K hK => ?_); go_simp
      first | (refine hK _ _ ?_; clear hK K) | (apply Exists.intro; apply And.intro; (focus exact kLoad rfl rfl aggT31 r3 rfl id); refine hK _ _ ?_; clear hK K)
      -- 4: eql<31> t66, t67
      refine stepK rfl (by kernel_rfl) (fun K hK => ?_); go_simp
      first | (refine hK _ _ ?_; clear hK K) | (apply Exists.intro; apply And.intro; (focus (intro wk hk; go_simp; exact ⟨rfl, rfl⟩)); refine hK _ _ ?_; clear hK K)
      -- 5: pick t65 ? t68 : false
      refine stepK rfl (by kernel_rfl) (fun K hK => ?_); go_simp
      apply Exists.intro; apply And.intro; (focus (intro wk hk; go_simp; exact ⟨rfl, rfl⟩)); refine hK _ _ ?_; clear hK K
      -- 6: t69
      refine stepK rfl (by kernel_rfl) (fun K hK => ?_); go_simp
      apply Exists.intro; apply And.intro; (focus (intro wk hk; go_simp; exact ⟨rfl, rfl⟩)); refine hK _ _ ?_; clear hK K
      -- 7: call F91()
      refine stepS _ rfl (by kernel_rfl) (fun K hK => ?_); go_simp
      refine ⟨?_, ?_⟩
      · intro wk hk hg hu; go_simp; refine upon_enter ((k4.out _).mono ?_); rintro e w' ⟨rfl, hb⟩; exact ⟨_, rfl, left_V (p := fun u => u = .bool true) rfl (hb) rfl⟩
      rintro ⟨v7, lo7, hi7⟩ - - (rfl : v7 = _)
      refine hK _ _ ?_; clear hK K
      -- 8: pick t70 ? t71 : false
      refine stepK rfl (by kernel_rfl) (fun K hK => ?_); go_simp
      apply Exists.intro; apply And.intro; (focus (intro wk hk; go_simp; exact ⟨rfl, rfl⟩)); refine hK _ _ ?_; clear hK K
      -- 9: assign t72
      refine stepK rfl (by kernel_rfl) (fun K hK => ?_); go_simp
      apply Exists.intro; apply And.intro; (focus (intro wk hk; go_simp; exact ⟨rfl, rfl⟩)); refine hK _ _ ?_; clear hK K
      refine stepN ?_
      refine hQ _ _ ?_
      intro w8 hT hG hF
      have hbw8 := hT.below
      replace r0 := r0.below hbw8 r0.lt
      replace r1 := r1.below hbw8 r1.lt
      replace r2 := r2.below hbw8 r2.lt
      replace r3 := r3.below hbw8 r3.lt
      replace r4 := r4.below hbw8 r4.lt
      replace r5 := r5.below hbw8 r5.lt
      replace rg := rg.below hbw8 rg.lt
      replace r7 := r7.below hbw8 r7.lt
      replace hl := hl.trans (hbw8.mono hl.size)
      clear hT hG hF hbw8 hQ QQ L 
      go_wp2_with fail
      go_ret
      exact ⟨rfl, hl⟩
    · rw [if_neg h0] at hU1 hU2
      obtain ⟨y, hy⟩ : ∃ y, y = upN (a * b) d := ⟨_, rfl⟩
      obtain ⟨yo, hyo⟩ : ∃ y, y = upB (a * b) d := ⟨_, rfl⟩
      have hn1 : addN x 1 = y := by rw [hy, hU1]
      have hn2 : addB x 1 = yo := by rw [hyo, hU2]
      have yl : y < M := by rw [← hn1]; unfold addN; split; assumption; exact M_pos
      have e92 : (decide (ph = lh) && decide (pl = ll)) = false := by
        have e : ¬ (ph = lh ∧ pl = ll) := fun h => by rw [h.1, h.2] at eP; omega
        by_cases e1 : ph = lh
        · rw [decide_eq_false (fun e2 => e ⟨e1, e2⟩), Bool.and_false]
        · rw [decide_eq_false e1, Bool.false_and]
      clear h0 hU1 hU2 hn eP eL hrd hrM
      have k0 := Lib.hid (show ∀ wx, Calls Try.prog 85 #[.agg (W4 a), .agg (W4 b), .agg (W4 d)] wx (Ret wx (.tuple #[.agg (W4 x), .bool true])) from fun wx => by have h := downU ha hb hd wx; rw [← hx, hok] at h; exact h)
      have k1 := Lib.hid (show ∀ wx, Calls Try.prog 89 #[.agg (W4 a), .agg (W4 b)] wx (Ret wx (.agg (W8 ph pl))) from fun wx => by have h := mmulU ha hb wx; rw [← hph, ← hpl] at h; exact h)
      have k2 := Lib.hid (show ∀ wx, Calls Try.prog 89 #[.agg (W4 x), .agg (W4 d)] wx (Ret wx (.agg (W8 lh ll))) from fun wx => by have h := mmulU xl hd wx; rw [← hlh, ← hll] at h; exact h)
      have k3 := Lib.hid (show ∀ wx, Calls Try.prog 87 #[.agg (W4 a), .agg (W4 b), .agg (W4 d)] wx (Ret wx (.tuple #[.agg (W4 y), .bool (yo)])) from fun wx => by have h := upU ha hb hd wx; rw [← hy, ← hyo] at h; exact h)
      have k4 := Lib.hid (show ∀ wx, Calls Try.prog 51 #[.agg (W4 x), .agg #[.int .u64 1, .int .u64 0, .int .u64 0, .int .u64 0]] wx (Ret wx (.tuple #[.agg (W4 y), .bool (yo)])) from fun wx => by have h := refaddU xl (show 1 < M by unfold M; omega) wx; rw [hn1, hn2] at h; exact h)
      have k5 := Lib.hid (show ∀ wx, Calls Try.prog 91 #[] wx (Ret wx (.bool true)) from fun wx => by have h := lives2U  wx; exact h)
      have q0 : ∀ wx, (Op.equalIn 10000 92 (.agg (W8 ph pl)) (.agg (W8 lh ll))).run Try.prog wx = .ok false wx := fun wx => by rw [eq92 p1 p2 p3 p4, e92]
      have q1 : ∀ wx, (Op.equalIn 10000 31 (.agg (W4 y)) (.agg (W4 y))).run Try.prog wx = .ok true wx := fun wx => by rw [eqU yl yl, decide_eq_true rfl]
      clear hx hok hph hpl hlh hll hy hyo hn1 hn2 e92
      go_enter Try.func15, Try.ntmps15
      apply wp_seq_eq
      focus
        intro J hJ
        go_wp2_with fail
        exact hJ
      refine wp_abs (Mem w [(w.heap.size, 31, W4 a), (w.heap.size + 1, 31, W4 b), (w.heap.size + 1 + 1, 31, W4 d)]) ⟨by go_grown, ?_, ?_, ?_, trivial⟩ ?_
      · repeat (first | (refine Row.new_at ?_; simp; done) | refine Row.alloc ?_ _)
      · repeat (first | (refine Row.new_at ?_; simp; done) | refine Row.alloc ?_ _)
      · repeat (first | (refine Row.new_at ?_; simp; done) | refine Row.alloc ?_ _)
      intro w0 hM
      obtain ⟨hl, r0, r1, r2, -⟩ := hM
      go_upto_region 1 with (fail)
      let L : List Sp := [sV 3 [] [] (fun u => u = .tuple #[.agg (W4 x), .bool true]), sA 7 31 [8] #[.int .u64 0, .int .u64 0, .int .u64 0, .int .u64 0], sT 8 7 31 [5] (fun g => aggOf g 5)]
      refine wp_region_six0 (shs L) (look6 L) (None_) (by kernel_rfl) (by kernel_rfl) (mk_St L [] [] (by kernel_rfl) (by kernel_rfl) ⟨ok_V ⟨_, rfl⟩, ok_A, ok_T aggOf_congr, trivial⟩ (by simp)) ?_
      intro QQ hQ
      -- 0: load<31> *t3
      refine stepK rfl (by kernel_rfl) (fun K hK => ?_); go_simp
      apply Exists.intro; apply And.intro; (focus exact kLoad rfl rfl aggT31 r0 rfl id); refine hK _ _ ?_; clear hK K
      -- 1: load<31> *t4
      refine stepK rfl (by kernel_rfl) (fun K hK => ?_); go_simp
      apply Exists.intro; apply And.intro; (focus exact kLoad rfl rfl aggT31 r1 rfl id); refine hK _ _ ?_; clear hK K
      -- 2: load<31> *t5
      refine stepK rfl (by kernel_rfl) (fun K hK => ?_); go_simp
      apply Exists.intro; apply And.intro; (focus exact kLoad rfl rfl aggT31 r2 rfl id); refine hK _ _ ?_; clear hK K
      -- 3: call F85(t18, t19, t20)
      refine stepS _ rfl (by kernel_rfl) (fun K hK => ?_); go_simp
      refine ⟨?_, ?_⟩
      · intro wk hk hg hu; go_simp; refine upon_enter ((k0.out _).mono ?_); rintro e w' ⟨rfl, hb⟩; exact ⟨_, rfl, left_V (p := fun u => u = .tuple #[.agg (W4 x), .bool true]) rfl (hb) rfl⟩
      rintro ⟨v3, lo3, hi3⟩ - - (rfl : v3 = _)
      refine hK _ _ ?_; clear hK K
      -- 4: t21
      refine stepK rfl (by kernel_rfl) (fun K hK => ?_); go_simp
      apply Exists.intro; apply And.intro; (focus (intro wk hk; go_simp; exact ⟨rfl, rfl⟩)); refine hK _ _ ?_; clear hK K
      -- 5: extract t17 #0
      refine stepK rfl (by kernel_rfl) (fun K hK => ?_); go_simp
      apply Exists.intro; apply And.intro; (focus (intro wk hk; go_simp; exact ⟨rfl, rfl⟩)); refine hK _ _ ?_; clear hK K
      -- 6: extract t17 #1
      refine stepK rfl (by kernel_rfl) (fun K hK => ?_); go_simp
      apply Exists.intro; apply And.intro; (focus (intro wk hk; go_simp; exact ⟨rfl, rfl⟩)); refine hK _ _ ?_; clear hK K
      -- 7: alloc<31>
      refine stepS _ rfl (by kernel_rfl) (fun K hK => ?_); go_simp
      refine ⟨?_, ?_⟩
      · intro wk hk hg hu; go_simp; exact left_A rfl rfl
      rintro ⟨v7, lo1_7, hi7⟩ hlo7 hhi7 ⟨e7, f7⟩
      replace e7 : v7 = .pointer (some ⟨lo1_7, 0, none⟩) := e7; replace f7 : hi7 = lo1_7 + 1 := f7; replace hlo7 : _ ≤ lo1_7 := hlo7; subst e7; subst f7
      refine hK _ _ ?_; clear hK K
      -- 8: store<31> *t7 = t22
      refine stepS _ rfl (by kernel_rfl) (fun K hK => ?_); go_simp
      refine ⟨?_, ?_⟩
      · exact sStoreT rfl rfl rfl rfl rfl rfl rfl (by kernel_rfl) rfl (by kernel_rfl) (by decide) aggOf_congr
      rintro ⟨v8, lo8, hi8⟩ - - (rfl : v8 = undef)
      refine hK _ _ ?_; clear hK K
      -- 9: assign t23
      refine stepK rfl (by kernel_rfl) (fun K hK => ?_); go_simp
      apply Exists.intro; apply And.intro; (focus (intro wk hk; go_simp; exact ⟨rfl, rfl⟩)); refine hK _ _ ?_; clear hK K
      refine stepN ?_
      refine hQ _ _ ?_
      intro w1 hT hG hF
      have hbw1 := hT.below
      have r3 : Row w1 lo1_7 31 ((W4 x)) := (hF 8 _ rfl rfl (by decide)).2
      replace r0 := r0.below hbw1 r0.lt
      replace r1 := r1.below hbw1 r1.lt
      replace r2 := r2.below hbw1 r2.lt
      replace hl := hl.trans (hbw1.mono hl.size)
      clear hT hG hF hbw1 hQ QQ L hlo7 hhi7
      go_upto_region 4 with (fail)
      let L : List Sp := [sV 2 [] [] (fun u => u = .agg (W8 ph pl)), sA 3 92 [4] #[.int .u64 0, .int .u64 0, .int .u64 0, .int .u64 0, .int .u64 0, .int .u64 0, .int .u64 0, .int .u64 0], sT 4 3 92 [2] (fun g => aggOf g 2)]
      refine wp_region_six0 (shs L) (look6 L) (None_) (by kernel_rfl) (by kernel_rfl) (mk_St L [] [] (by kernel_rfl) (by kernel_rfl) ⟨ok_V ⟨_, rfl⟩, ok_A, ok_T aggOf_congr, trivial⟩ (by simp)) ?_
      intro QQ hQ
      -- 0: load<31> *t3
      refine stepK rfl (by kernel_rfl) (fun K hK => ?_); go_simp
      apply Exists.intro; apply And.intro; (focus exact kLoad rfl rfl aggT31 r0 rfl id); refine hK _ _ ?_; clear hK K
      -- 1: load<31> *t4
      refine stepK rfl (by kernel_rfl) (fun K hK => ?_); go_simp
      apply Exists.intro; apply And.intro; (focus exact kLoad rfl rfl aggT31 r1 rfl id); refine hK _ _ ?_; clear hK K
      -- 2: call F89(t32, t33)
      refine stepS _ rfl (by kernel_rfl) (fun K hK => ?_); go_simp
      refine ⟨?_, ?_⟩
      · intro wk hk hg hu; go_simp; refine upon_enter ((k1.out _).mono ?_); rintro e w' ⟨rfl, hb⟩; exact ⟨_, rfl, left_V (p := fun u => u = .agg (W8 ph pl)) rfl (hb) rfl⟩
      rintro ⟨v2, lo2, hi2⟩ - - (rfl : v2 = _)
      refine hK _ _ ?_; clear hK K
      -- 3: alloc<92>
      refine stepS _ rfl (by kernel_rfl) (fun K hK => ?_); go_simp
      refine ⟨?_, ?_⟩
      · intro wk hk hg hu; go_simp; exact left_A rfl rfl
      rintro ⟨v3, lo4_3, hi3⟩ hlo3 hhi3 ⟨e3, f3⟩
      replace e3 : v3 = .pointer (some ⟨lo4_3, 0, none⟩) := e3; replace f3 : hi3 = lo4_3 + 1 := f3; replace hlo3 : _ ≤ lo4_3 := hlo3; subst e3; subst f3
      refine hK _ _ ?_; clear hK K
      -- 4: store<92> *t9 = t34
      refine stepS _ rfl (by kernel_rfl) (fun K hK => ?_); go_simp
      refine ⟨?_, ?_⟩
      · exact sStoreT rfl rfl rfl rfl rfl rfl rfl (by kernel_rfl) rfl (by kernel_rfl) (by decide) aggOf_congr
      rintro ⟨v4, lo4, hi4⟩ - - (rfl : v4 = undef)
      refine hK _ _ ?_; clear hK K
      refine stepN ?_
      refine hQ _ _ ?_
      intro w2 hT hG hF
      have hbw2 := hT.below
      have r4 : Row w2 lo4_3 92 ((W8 ph pl)) := (hF 4 _ rfl rfl (by decide)).2
      replace r0 := r0.below hbw2 r0.lt
      replace r1 := r1.below hbw2 r1.lt
      replace r2 := r2.below hbw2 r2.lt
      replace r3 := r3.below hbw2 r3.lt
      replace hl := hl.trans (hbw2.mono hl.size)
      clear hT hG hF hbw2 hQ QQ L hlo3 hhi3
      go_upto_region 5 with (fail)
      let L : List Sp := [sV 2 [] [] (fun u => u = .agg (W8 lh ll)), sA 3 92 [4] #[.int .u64 0, .int .u64 0, .int .u64 0, .int .u64 0, .int .u64 0, .int .u64 0, .int .u64 0, .int .u64 0], sT 4 3 92 [2] (fun g => aggOf g 2)]
      refine wp_region_six0 (shs L) (look6 L) (None_) (by kernel_rfl) (by kernel_rfl) (mk_St L [] [] (by kernel_rfl) (by kernel_rfl) ⟨ok_V ⟨_, rfl⟩, ok_A, ok_T aggOf_congr, trivial⟩ (by simp)) ?_
      intro QQ hQ
      -- 0: load<31> *t7
      refine stepK rfl (by kernel_rfl) (fun K hK => ?_); go_simp
      apply Exists.intro; apply And.intro; (focus exact kLoad rfl rfl aggT31 r3 rfl id); refine hK _ _ ?_; clear hK K
      -- 1: load<31> *t5
      refine stepK rfl (by kernel_rfl) (fun K hK => ?_); go_simp
      apply Exists.intro; apply And.intro; (focus exact kLoad rfl rfl aggT31 r2 rfl id); refine hK _ _ ?_; clear hK K
      -- 2: call F89(t35, t36)
      refine stepS _ rfl (by kernel_rfl) (fun K hK => ?_); go_simp
      refine ⟨?_, ?_⟩
      · intro wk hk hg hu; go_simp; refine upon_enter ((k2.out _).mono ?_); rintro e w' ⟨rfl, hb⟩; exact ⟨_, rfl, left_V (p := fun u => u = .agg (W8 lh ll)) rfl (hb) rfl⟩
      rintro ⟨v2, lo2, hi2⟩ - - (rfl : v2 = _)
      refine hK _ _ ?_; clear hK K
      -- 3: alloc<92>
      refine stepS _ rfl (by kernel_rfl) (fun K hK => ?_); go_simp
      refine ⟨?_, ?_⟩
      · intro wk hk hg hu; go_simp; exact left_A rfl rfl
      rintro ⟨v3, lo5_3, hi3⟩ hlo3 hhi3 ⟨e3, f3⟩
      replace e3 : v3 = .pointer (some ⟨lo5_3, 0, none⟩) := e3; replace f3 : hi3 = lo5_3 + 1 := f3; replace hlo3 : _ ≤ lo5_3 := hlo3; subst e3; subst f3
      refine hK _ _ ?_; clear hK K
      -- 4: store<92> *t10 = t37
      refine stepS _ rfl (by kernel_rfl) (fun K hK => ?_); go_simp
      refine ⟨?_, ?_⟩
      · exact sStoreT rfl rfl rfl rfl rfl rfl rfl (by kernel_rfl) rfl (by kernel_rfl) (by decide) aggOf_congr
      rintro ⟨v4, lo4, hi4⟩ - - (rfl : v4 = undef)
      refine hK _ _ ?_; clear hK K
      refine stepN ?_
      refine hQ _ _ ?_
      intro w3 hT hG hF
      have hbw3 := hT.below
      have r5 : Row w3 lo5_3 92 ((W8 lh ll)) := (hF 4 _ rfl rfl (by decide)).2
      replace r0 := r0.below hbw3 r0.lt
      replace r1 := r1.below hbw3 r1.lt
      replace r2 := r2.below hbw3 r2.lt
      replace r3 := r3.below hbw3 r3.lt
      replace r4 := r4.below hbw3 r4.lt
      replace hl := hl.trans (hbw3.mono hl.size)
      clear hT hG hF hbw3 hQ QQ L hlo3 hhi3
      go_upto_region 6 with (fail)
      let L : List Sp := [sF 2 [] [] [] (fun x => ∃ z, x.v = .pointer (some ⟨z, 0, none⟩)) (fun x w => ∃ z, x.v = .pointer (some ⟨z, 0, none⟩) ∧ Row w z 92 (W8 0 r))]
      refine wp_region_six0 (shs L) (look6 L) (None_) (by kernel_rfl) (by kernel_rfl) (mk_St L [] [] (by kernel_rfl) (by kernel_rfl) ⟨ok_F ptr_some (fun _ _ _ h hb => let ⟨z, e, rz⟩ := h; ⟨z, e, rz.below hb rz.lt⟩), trivial⟩ (by simp)) ?_
      intro QQ hQ
      -- 0: load<92> *t9
      refine stepK rfl (by kernel_rfl) (fun K hK => ?_); go_simp
      apply Exists.intro; apply And.intro; (focus exact kLoad rfl rfl aggT92 r4 rfl id); refine hK _ _ ?_; clear hK K
      -- 1: load<92> *t10
      refine stepK rfl (by kernel_rfl) (fun K hK => ?_); go_simp
      apply Exists.intro; apply And.intro; (focus exact kLoad rfl rfl aggT92 r5 rfl id); refine hK _ _ ?_; clear hK K
      -- 2: call F94(t38, t39)
      refine stepS _ rfl (by kernel_rfl) (fun K hK => ?_); go_simp
      refine ⟨?_, ?_⟩
      · intro wk hk hg hu; go_simp; refine upon_enter ((kl.out _).mono ?_); rintro e w' ⟨z, rfl, hv, hb⟩; exact ⟨_, rfl, left_F rfl rfl hb ⟨_, rfl⟩ ⟨_, rfl, hv⟩⟩
      rintro ⟨v2, lo2, hi2⟩ - - ⟨y2, (rfl : v2 = _)⟩
      refine hK _ _ ?_; clear hK K
      -- 3: assign t40
      refine stepK rfl (by kernel_rfl) (fun K hK => ?_); go_simp
      apply Exists.intro; apply And.intro; (focus (intro wk hk; go_simp; exact ⟨rfl, rfl⟩)); refine hK _ _ ?_; clear hK K
      refine stepN ?_
      refine hQ _ _ ?_
      intro w6 hT hG hF
      have hb6 := hT.below
      obtain ⟨g, eg, rg⟩ : ∃ z, (Value.pointer (some ⟨y2, 0, none⟩)) = .pointer (some ⟨z, 0, none⟩) ∧ Row w6 z 92 (W8 0 r) := hF 2 _ rfl rfl (by decide)
      cases eg
      replace r0 := r0.below hb6 r0.lt
      replace r1 := r1.below hb6 r1.lt
      replace r2 := r2.below hb6 r2.lt
      replace r3 := r3.below hb6 r3.lt
      replace r4 := r4.below hb6 r4.lt
      replace r5 := r5.below hb6 r5.lt
      replace hl := hl.trans (hb6.mono hl.size)
      clear hT hG hF hb6 hQ QQ L kl
      go_upto_region 7 with (fail)
      let L : List Sp := [sV 5 [] [] (fun u => u = .bool true)]
      refine wp_region_six0 (shs L) (look6 L) (None_) (by kernel_rfl) (by kernel_rfl) (mk_St L [] [] (by kernel_rfl) (by kernel_rfl) ⟨ok_V ⟨_, rfl⟩, trivial⟩ (by simp)) ?_
      intro QQ hQ
      -- 0: t11
      refine stepK rfl (by kernel_rfl) (fun K hK => ?_); go_simp
      apply Exists.intro; apply And.intro; (focus (intro wk hk; go_simp; exact ⟨rfl, rfl⟩)); refine hK _ _ ?_; clear hK K
      -- 1: eql<98> t41, nilptr
      refine stepK rfl (by kernel_rfl) (fun K hK => ?_); go_simp
      apply Exists.intro; apply And.intro; (focus (intro wk hk; go_simp; exact ⟨rfl, rfl⟩)); refine hK _ _ ?_; clear hK K
      -- 2: t42
      refine stepK rfl (by kernel_rfl) (fun K hK => ?_); go_simp
      apply Exists.intro; apply And.intro; (focus (intro wk hk; go_simp; exact ⟨rfl, rfl⟩)); refine hK _ _ ?_; clear hK K
      -- 3: t11
      refine stepK rfl (by kernel_rfl) (fun K hK => ?_); go_simp
      first | (refine hK _ _ ?_; clear hK K) | (apply Exists.intro; apply And.intro; (focus (intro wk hk; go_simp; exact ⟨rfl, rfl⟩)); refine hK _ _ ?_; clear hK K)
      -- 4: load<31> *t5
      refine stepK rfl (by kernel_rfl) (fun K hK => ?_); go_simp
      first | (refine hK _ _ ?_; clear hK K) | (apply Exists.intro; apply And.intro; (focus exact kLoad rfl rfl aggT31 r2 rfl id); refine hK _ _ ?_; clear hK K)
      -- 5: call F95(t44, t45)
      refine stepS _ rfl (by kernel_rfl) (fun K hK => ?_); go_simp
      refine ⟨?_, ?_⟩
      · intro wk hk hg hu; go_simp; refine upon_enter ((kb.out _ _ (rg.below hk.below rg.lt)).mono ?_); rintro e w' ⟨rfl, hb⟩; exact ⟨_, rfl, left_V (p := fun u => u = .bool true) rfl (hb) rfl⟩
      rintro ⟨v5, lo5, hi5⟩ - - (rfl : v5 = _)
      refine hK _ _ ?_; clear hK K
      -- 6: not<4> t46
      refine stepK rfl (by kernel_rfl) (fun K hK => ?_); go_simp
      first | (refine hK _ _ ?_; clear hK K) | (apply Exists.intro; apply And.intro; (focus (intro wk hk; go_simp; exact ⟨rfl, rfl⟩)); refine hK _ _ ?_; clear hK K)
      -- 7: pick t43 ? true : t47
      refine stepK rfl (by kernel_rfl) (fun K hK => ?_); go_simp
      apply Exists.intro; apply And.intro; (focus (intro wk hk; go_simp; exact ⟨rfl, rfl⟩)); refine hK _ _ ?_; clear hK K
      refine stepN ?_
      refine hQ _ _ ?_
      intro w5 hT hG hF
      have hbw5 := hT.below
      replace r0 := r0.below hbw5 r0.lt
      replace r1 := r1.below hbw5 r1.lt
      replace r2 := r2.below hbw5 r2.lt
      replace r3 := r3.below hbw5 r3.lt
      replace r4 := r4.below hbw5 r4.lt
      replace r5 := r5.below hbw5 r5.lt
      replace rg := rg.below hbw5 rg.lt
      replace hl := hl.trans (hbw5.mono hl.size)
      clear hT hG hF hbw5 hQ QQ L 
      go_upto_region 9 with (fail)
      let L : List Sp := [sV 3 [] [] (fun u => u = .tuple #[.agg (W4 y), .bool (yo)]), sA 7 31 [8] #[.int .u64 0, .int .u64 0, .int .u64 0, .int .u64 0], sT 8 7 31 [5] (fun g => aggOf g 5)]
      refine wp_region_six0 (shs L) (look6 L) (None_) (by kernel_rfl) (by kernel_rfl) (mk_St L [] [] (by kernel_rfl) (by kernel_rfl) ⟨ok_V ⟨_, rfl⟩, ok_A, ok_T aggOf_congr, trivial⟩ (by simp)) ?_
      intro QQ hQ
      -- 0: load<31> *t3
      refine stepK rfl (by kernel_rfl) (fun K hK => ?_); go_simp
      apply Exists.intro; apply And.intro; (focus exact kLoad rfl rfl aggT31 r0 rfl id); refine hK _ _ ?_; clear hK K
      -- 1: load<31> *t4
      refine stepK rfl (by kernel_rfl) (fun K hK => ?_); go_simp
      apply Exists.intro; apply And.intro; (focus exact kLoad rfl rfl aggT31 r1 rfl id); refine hK _ _ ?_; clear hK K
      -- 2: load<31> *t5
      refine stepK rfl (by kernel_rfl) (fun K hK => ?_); go_simp
      apply Exists.intro; apply And.intro; (focus exact kLoad rfl rfl aggT31 r2 rfl id); refine hK _ _ ?_; clear hK K
      -- 3: call F87(t50, t51, t52)
      refine stepS _ rfl (by kernel_rfl) (fun K hK => ?_); go_simp
      refine ⟨?_, ?_⟩
      · intro wk hk hg hu; go_simp; refine upon_enter ((k3.out _).mono ?_); rintro e w' ⟨rfl, hb⟩; exact ⟨_, rfl, left_V (p := fun u => u = .tuple #[.agg (W4 y), .bool (yo)]) rfl (hb) rfl⟩
      rintro ⟨v3, lo3, hi3⟩ - - (rfl : v3 = _)
      refine hK _ _ ?_; clear hK K
      -- 4: t53
      refine stepK rfl (by kernel_rfl) (fun K hK => ?_); go_simp
      apply Exists.intro; apply And.intro; (focus (intro wk hk; go_simp; exact ⟨rfl, rfl⟩)); refine hK _ _ ?_; clear hK K
      -- 5: extract t49 #0
      refine stepK rfl (by kernel_rfl) (fun K hK => ?_); go_simp
      apply Exists.intro; apply And.intro; (focus (intro wk hk; go_simp; exact ⟨rfl, rfl⟩)); refine hK _ _ ?_; clear hK K
      -- 6: extract t49 #1
      refine stepK rfl (by kernel_rfl) (fun K hK => ?_); go_simp
      apply Exists.intro; apply And.intro; (focus (intro wk hk; go_simp; exact ⟨rfl, rfl⟩)); refine hK _ _ ?_; clear hK K
      -- 7: alloc<31>
      refine stepS _ rfl (by kernel_rfl) (fun K hK => ?_); go_simp
      refine ⟨?_, ?_⟩
      · intro wk hk hg hu; go_simp; exact left_A rfl rfl
      rintro ⟨v7, lo9_7, hi7⟩ hlo7 hhi7 ⟨e7, f7⟩
      replace e7 : v7 = .pointer (some ⟨lo9_7, 0, none⟩) := e7; replace f7 : hi7 = lo9_7 + 1 := f7; replace hlo7 : _ ≤ lo9_7 := hlo7; subst e7; subst f7
      refine hK _ _ ?_; clear hK K
      -- 8: store<31> *t12 = t54
      refine stepS _ rfl (by kernel_rfl) (fun K hK => ?_); go_simp
      refine ⟨?_, ?_⟩
      · exact sStoreT rfl rfl rfl rfl rfl rfl rfl (by kernel_rfl) rfl (by kernel_rfl) (by decide) aggOf_congr
      rintro ⟨v8, lo8, hi8⟩ - - (rfl : v8 = undef)
      refine hK _ _ ?_; clear hK K
      -- 9: assign t55
      refine stepK rfl (by kernel_rfl) (fun K hK => ?_); go_simp
      apply Exists.intro; apply And.intro; (focus (intro wk hk; go_simp; exact ⟨rfl, rfl⟩)); refine hK _ _ ?_; clear hK K
      refine stepN ?_
      refine hQ _ _ ?_
      intro w6 hT hG hF
      have hbw6 := hT.below
      have r7 : Row w6 lo9_7 31 ((W4 y)) := (hF 8 _ rfl rfl (by decide)).2
      replace r0 := r0.below hbw6 r0.lt
      replace r1 := r1.below hbw6 r1.lt
      replace r2 := r2.below hbw6 r2.lt
      replace r3 := r3.below hbw6 r3.lt
      replace r4 := r4.below hbw6 r4.lt
      replace r5 := r5.below hbw6 r5.lt
      replace rg := rg.below hbw6 rg.lt
      replace hl := hl.trans (hbw6.mono hl.size)
      clear hT hG hF hbw6 hQ QQ L hlo7 hhi7
      go_upto_region 10 with (fail)
      let L : List Sp := []
      refine wp_region_six0 (shs L) (look6 L) (None_) (by kernel_rfl) (by kernel_rfl) (mk_St L [] [] (by kernel_rfl) (by kernel_rfl) trivial (by simp)) ?_
      intro QQ hQ
      -- 0: fieldAddr<92> t9.0
      refine stepK rfl (by kernel_rfl) (fun K hK => ?_); go_simp
      apply Exists.intro; apply And.intro; (focus (intro wk hk; go_simp; exact ⟨rfl, rfl⟩)); refine hK _ _ ?_; clear hK K
      -- 1: load<31> *t56
      refine stepK rfl (by kernel_rfl) (fun K hK => ?_); go_simp
      apply Exists.intro; apply And.intro; (focus exact kLoadMid rfl rfl aggT31 r4 (W8_hi ph pl) rfl id); refine hK _ _ ?_; clear hK K
      -- 2: fieldAddr<92> t9.1
      refine stepK rfl (by kernel_rfl) (fun K hK => ?_); go_simp
      apply Exists.intro; apply And.intro; (focus (intro wk hk; go_simp; exact ⟨rfl, rfl⟩)); refine hK _ _ ?_; clear hK K
      -- 3: load<31> *t58
      refine stepK rfl (by kernel_rfl) (fun K hK => ?_); go_simp
      apply Exists.intro; apply And.intro; (focus exact kLoadMid rfl rfl aggT31 r4 (W8_lo ph pl) rfl id); refine hK _ _ ?_; clear hK K
      -- 4: build<92> 0:t57, 1:t59
      refine stepK rfl (by kernel_rfl) (fun K hK => ?_); go_simp
      apply Exists.intro; apply And.intro; (focus exact kBuild rfl rfl rfl (fun wx => build92 ph pl wx)); refine hK _ _ ?_; clear hK K
      -- 5: load<92> *t10
      refine stepK rfl (by kernel_rfl) (fun K hK => ?_); go_simp
      apply Exists.intro; apply And.intro; (focus exact kLoad rfl rfl aggT92 r5 rfl id); refine hK _ _ ?_; clear hK K
      -- 6: eql<92> t60, t61
      refine stepK rfl (by kernel_rfl) (fun K hK => ?_); go_simp
      apply Exists.intro; apply And.intro; (focus (intro wk hk; go_simp; exact ⟨rfl, rfl⟩)); refine hK _ _ ?_; clear hK K
      -- 7: assign t62
      refine stepK rfl (by kernel_rfl) (fun K hK => ?_); go_simp
      apply Exists.intro; apply And.intro; (focus (intro wk hk; go_simp; exact ⟨rfl, rfl⟩)); refine hK _ _ ?_; clear hK K
      refine stepN ?_
      refine hQ _ _ ?_
      intro w7 hT hG hF
      have hbw7 := hT.below
      replace r0 := r0.below hbw7 r0.lt
      replace r1 := r1.below hbw7 r1.lt
      replace r2 := r2.below hbw7 r2.lt
      replace r3 := r3.below hbw7 r3.lt
      replace r4 := r4.below hbw7 r4.lt
      replace r5 := r5.below hbw7 r5.lt
      replace rg := rg.below hbw7 rg.lt
      replace r7 := r7.below hbw7 r7.lt
      replace hl := hl.trans (hbw7.mono hl.size)
      clear hT hG hF hbw7 hQ QQ L 
      go_upto_region 13 with (fail)
      let L : List Sp := [sV 2 [] [] (fun u => u = .tuple #[.agg (W4 y), .bool (yo)]), sA 6 31 [7] #[.int .u64 0, .int .u64 0, .int .u64 0, .int .u64 0], sT 7 6 31 [4] (fun g => aggOf g 4)]
      refine wp_region_six0 (shs L) (look6 L) (None_) (by kernel_rfl) (by kernel_rfl) (mk_St L [] [] (by kernel_rfl) (by kernel_rfl) ⟨ok_V ⟨_, rfl⟩, ok_A, ok_T aggOf_congr, trivial⟩ (by simp)) ?_
      intro QQ hQ
      -- 0: load<31> *t7
      refine stepK rfl (by kernel_rfl) (fun K hK => ?_); go_simp
      apply Exists.intro; apply And.intro; (focus exact kLoad rfl rfl aggT31 r3 rfl id); refine hK _ _ ?_; clear hK K
      -- 1: build<31> 0:1u
      refine stepK rfl (by kernel_rfl) (fun K hK => ?_); go_simp
      apply Exists.intro; apply And.intro; (focus (intro wk hk; go_simp; exact ⟨rfl, rfl⟩)); refine hK _ _ ?_; clear hK K
      -- 2: call F51(t74, t75)
      refine stepS _ rfl (by kernel_rfl) (fun K hK => ?_); go_simp
      refine ⟨?_, ?_⟩
      · intro wk hk hg hu; go_simp; refine upon_enter ((k4.out _).mono ?_); rintro e w' ⟨rfl, hb⟩; exact ⟨_, rfl, left_V (p := fun u => u = .tuple #[.agg (W4 y), .bool (yo)]) rfl (hb) rfl⟩
      rintro ⟨v2, lo2, hi2⟩ - - (rfl : v2 = _)
      refine hK _ _ ?_; clear hK K
      -- 3: t76
      refine stepK rfl (by kernel_rfl) (fun K hK => ?_); go_simp
      apply Exists.intro; apply And.intro; (focus (intro wk hk; go_simp; exact ⟨rfl, rfl⟩)); refine hK _ _ ?_; clear hK K
      -- 4: extract t73 #0
      refine stepK rfl (by kernel_rfl) (fun K hK => ?_); go_simp
      apply Exists.intro; apply And.intro; (focus (intro wk hk; go_simp; exact ⟨rfl, rfl⟩)); refine hK _ _ ?_; clear hK K
      -- 5: extract t73 #1
      refine stepK rfl (by kernel_rfl) (fun K hK => ?_); go_simp
      apply Exists.intro; apply And.intro; (focus (intro wk hk; go_simp; exact ⟨rfl, rfl⟩)); refine hK _ _ ?_; clear hK K
      -- 6: alloc<31>
      refine stepS _ rfl (by kernel_rfl) (fun K hK => ?_); go_simp
      refine ⟨?_, ?_⟩
      · intro wk hk hg hu; go_simp; exact left_A rfl rfl
      rintro ⟨v6, lo13_6, hi6⟩ hlo6 hhi6 ⟨e6, f6⟩
      replace e6 : v6 = .pointer (some ⟨lo13_6, 0, none⟩) := e6; replace f6 : hi6 = lo13_6 + 1 := f6; replace hlo6 : _ ≤ lo13_6 := hlo6; subst e6; subst f6
      refine hK _ _ ?_; clear hK K
      -- 7: store<31> *t15 = t77
      refine stepS _ rfl (by kernel_rfl) (fun K hK => ?_); go_simp
      refine ⟨?_, ?_⟩
      · exact sStoreT rfl rfl rfl rfl rfl rfl rfl (by kernel_rfl) rfl (by kernel_rfl) (by decide) aggOf_congr
      rintro ⟨v7, lo7, hi7⟩ - - (rfl : v7 = undef)
      refine hK _ _ ?_; clear hK K
      -- 8: assign t78
      refine stepK rfl (by kernel_rfl) (fun K hK => ?_); go_simp
      apply Exists.intro; apply And.intro; (focus (intro wk hk; go_simp; exact ⟨rfl, rfl⟩)); refine hK _ _ ?_; clear hK K
      refine stepN ?_
      refine hQ _ _ ?_
      intro w8 hT hG hF
      have hbw8 := hT.below
      have r8 : Row w8 lo13_6 31 ((W4 y)) := (hF 7 _ rfl rfl (by decide)).2
      replace r0 := r0.below hbw8 r0.lt
      replace r1 := r1.below hbw8 r1.lt
      replace r2 := r2.below hbw8 r2.lt
      replace r3 := r3.below hbw8 r3.lt
      replace r4 := r4.below hbw8 r4.lt
      replace r5 := r5.below hbw8 r5.lt
      replace rg := rg.below hbw8 rg.lt
      replace r7 := r7.below hbw8 r7.lt
      replace hl := hl.trans (hbw8.mono hl.size)
      clear hT hG hF hbw8 hQ QQ L hlo6 hhi6
      go_upto_region 14 with (fail)
      let L : List Sp := [sV 9 [] [] (fun u => u = .bool true)]
      refine wp_region_six0 (shs L) (look6 L) (None_) (by kernel_rfl) (by kernel_rfl) (mk_St L [] [] (by kernel_rfl) (by kernel_rfl) ⟨ok_V ⟨_, rfl⟩, trivial⟩ (by simp)) ?_
      intro QQ hQ
      -- 0: t13
      refine stepK rfl (by kernel_rfl) (fun K hK => ?_); go_simp
      apply Exists.intro; apply And.intro; (focus (intro wk hk; go_simp; exact ⟨rfl, rfl⟩)); refine hK _ _ ?_; clear hK K
      -- 1: t16
      refine stepK rfl (by kernel_rfl) (fun K hK => ?_); go_simp
      apply Exists.intro; apply And.intro; (focus (intro wk hk; go_simp; exact ⟨rfl, rfl⟩)); refine hK _ _ ?_; clear hK K
      -- 2: eql<4> t79, t80
      refine stepK rfl (by kernel_rfl) (fun K hK => ?_); go_simp
      apply Exists.intro; apply And.intro; (focus (intro wk hk; go_simp; exact ⟨rfl, rfl⟩)); refine hK _ _ ?_; clear hK K
      -- 3: t81
      refine stepK rfl (by kernel_rfl) (fun K hK => ?_); go_simp
      apply Exists.intro; apply And.intro; (focus (intro wk hk; go_simp; exact ⟨rfl, rfl⟩)); refine hK _ _ ?_; clear hK K
      -- 4: load<31> *t12
      refine stepK rfl (by kernel_rfl) (fun K hK => ?_); go_simp
      first | (refine hK _ _ ?_; clear hK K) | (apply Exists.intro; apply And.intro; (focus exact kLoad rfl rfl aggT31 r7 rfl id); refine hK _ _ ?_; clear hK K)
      -- 5: load<31> *t15
      refine stepK rfl (by kernel_rfl) (fun K hK => ?_); go_simp
      first | (refine hK _ _ ?_; clear hK K) | (apply Exists.intro; apply And.intro; (focus exact kLoad rfl rfl aggT31 r8 rfl id); refine hK _ _ ?_; clear hK K)
      -- 6: eql<31> t83, t84
      refine stepK rfl (by kernel_rfl) (fun K hK => ?_); go_simp
      first | (refine hK _ _ ?_; clear hK K) | (apply Exists.intro; apply And.intro; (focus (intro wk hk; go_simp; exact ⟨rfl, rfl⟩)); refine hK _ _ ?_; clear hK K)
      -- 7: pick t82 ? t85 : false
      refine stepK rfl (by kernel_rfl) (fun K hK => ?_); go_simp
      apply Exists.intro; apply And.intro; (focus (intro wk hk; go_simp; exact ⟨rfl, rfl⟩)); refine hK _ _ ?_; clear hK K
      -- 8: t86
      refine stepK rfl (by kernel_rfl) (fun K hK => ?_); go_simp
      apply Exists.intro; apply And.intro; (focus (intro wk hk; go_simp; exact ⟨rfl, rfl⟩)); refine hK _ _ ?_; clear hK K
      -- 9: call F91()
      refine stepS _ rfl (by kernel_rfl) (fun K hK => ?_); go_simp
      refine ⟨?_, ?_⟩
      · intro wk hk hg hu; go_simp; refine upon_enter ((k5.out _).mono ?_); rintro e w' ⟨rfl, hb⟩; exact ⟨_, rfl, left_V (p := fun u => u = .bool true) rfl (hb) rfl⟩
      rintro ⟨v9, lo9, hi9⟩ - - (rfl : v9 = _)
      refine hK _ _ ?_; clear hK K
      -- 10: pick t87 ? t88 : false
      refine stepK rfl (by kernel_rfl) (fun K hK => ?_); go_simp
      apply Exists.intro; apply And.intro; (focus (intro wk hk; go_simp; exact ⟨rfl, rfl⟩)); refine hK _ _ ?_; clear hK K
      -- 11: assign t89
      refine stepK rfl (by kernel_rfl) (fun K hK => ?_); go_simp
      apply Exists.intro; apply And.intro; (focus (intro wk hk; go_simp; exact ⟨rfl, rfl⟩)); refine hK _ _ ?_; clear hK K
      refine stepN ?_
      refine hQ _ _ ?_
      intro w9 hT hG hF
      have hbw9 := hT.below
      replace r0 := r0.below hbw9 r0.lt
      replace r1 := r1.below hbw9 r1.lt
      replace r2 := r2.below hbw9 r2.lt
      replace r3 := r3.below hbw9 r3.lt
      replace r4 := r4.below hbw9 r4.lt
      replace r5 := r5.below hbw9 r5.lt
      replace rg := rg.below hbw9 rg.lt
      replace r7 := r7.below hbw9 r7.lt
      replace r8 := r8.below hbw9 r8.lt
      replace hl := hl.trans (hbw9.mono hl.size)
      clear hT hG hF hbw9 hQ QQ L 
      go_wp2_with fail
      go_ret
      exact ⟨rfl, hl⟩
end Go.Proofs.Ytpdenhmkpiafiaa
