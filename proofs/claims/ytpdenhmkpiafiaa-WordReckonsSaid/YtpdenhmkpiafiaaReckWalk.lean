/-
  tallagelaw01.WordReckons, THE WALK.
-/
import Derived.Test.YtpdenhmkpiafiaaRefMulDiv
namespace Go.Proofs.Ytpdenhmkpiafiaa
open Go Go.RowKit K6

theorem mulN_lt (a b : Nat) : mulN a b < M := by unfold mulN; split; assumption; exact M_pos
theorem addN_lt' (a b : Nat) : addN a b < M := by unfold addN; split; assumption; exact M_pos
set_option maxRecDepth 100000 in
set_option maxHeartbeats 16000000 in
theorem wordreckons_walk (a b : Nat) (ha : a < M) (hb : b < M) (w : World) : Calls Try.prog 6 #[.agg (W4 a), .agg (W4 b)] w (Ret w (.bool true)) := by
  obtain ⟨s, hs⟩ : ∃ s, s = addN a b := ⟨_, rfl⟩
  obtain ⟨so, hso⟩ : ∃ s, s = addB a b := ⟨_, rfl⟩
  obtain ⟨d, hd⟩ : ∃ s, s = a - b := ⟨_, rfl⟩
  obtain ⟨dd, hdd⟩ : ∃ s, s = subB a b := ⟨_, rfl⟩
  obtain ⟨p, hp⟩ : ∃ s, s = mulN a b := ⟨_, rfl⟩
  obtain ⟨po, hpo⟩ : ∃ s, s = mulB a b := ⟨_, rfl⟩
  obtain ⟨q, hq⟩ : ∃ s, s = a / b := ⟨_, rfl⟩
  obtain ⟨r, hr⟩ : ∃ s, s = divR a b := ⟨_, rfl⟩
  obtain ⟨zo, hzo⟩ : ∃ s, s = decide (b ≠ 0) := ⟨_, rfl⟩
  obtain ⟨c, hc⟩ : ∃ s, s = cmpN a b := ⟨_, rfl⟩
  obtain ⟨e, he⟩ : ∃ s, s = cmpN b a := ⟨_, rfl⟩
  have sl : s < M := hs ▸ addN_lt' _ _
  have dl : d < M := by omega
  have pl : p < M := hp ▸ mulN_lt _ _
  have ql : q < M := hq ▸ Nat.lt_of_le_of_lt (Nat.div_le_self a b) ha
  have rl : r < M := by
    rw [hr]; unfold divR; split
    · exact M_pos
    · exact Nat.lt_of_le_of_lt (Nat.mod_le a b) ha
  by_cases hlt : b < a
  · have he0 : e < 0 := by rw [he]; unfold cmpN; rw [if_pos hlt]; omega
    have hm : (if a ≤ b then a else b) = b := if_neg (by omega)
    clear hlt
    have k0 := Lib.hid (show ∀ wx, Calls Try.prog 46 #[.agg (W4 a), .agg (W4 b)] wx (Ret wx (.tuple #[.agg (W4 s), .bool (so)])) from fun wx => by have h := addU ha hb wx; rw [← hs, ← hso] at h; exact h)
    have k1 := Lib.hid (show ∀ wx, Calls Try.prog 51 #[.agg (W4 a), .agg (W4 b)] wx (Ret wx (.tuple #[.agg (W4 s), .bool (so)])) from fun wx => by have h := refaddU ha hb wx; rw [← hs, ← hso] at h; exact h)
    have k2 := Lib.hid (show ∀ wx, Calls Try.prog 52 #[.agg (W4 a), .agg (W4 b)] wx (Ret wx (.tuple #[.agg (W4 d), .bool (dd)])) from fun wx => by have h := subU ha hb wx; rw [← hd, ← hdd] at h; exact h)
    have k3 := Lib.hid (show ∀ wx, Calls Try.prog 53 #[.agg (W4 a), .agg (W4 b)] wx (Ret wx (.tuple #[.agg (W4 d), .bool (dd)])) from fun wx => by have h := refsubU ha hb wx; rw [← hd, ← hdd] at h; exact h)
    have k4 := Lib.hid (show ∀ wx, Calls Try.prog 47 #[.agg (W4 a), .agg (W4 b)] wx (Ret wx (.tuple #[.agg (W4 p), .bool (po)])) from fun wx => by have h := mulU ha hb wx; rw [← hp, ← hpo] at h; exact h)
    have k5 := Lib.hid (show ∀ wx, Calls Try.prog 54 #[.agg (W4 a), .agg (W4 b)] wx (Ret wx (.tuple #[.agg (W4 p), .bool (po)])) from fun wx => by have h := refmulU ha hb wx; rw [← hp, ← hpo] at h; exact h)
    have k6 := Lib.hid (show ∀ wx, Calls Try.prog 55 #[.agg (W4 a), .agg (W4 b)] wx (Ret wx (.tuple #[.agg (W4 q), .agg (W4 r), .bool (zo)])) from fun wx => by have h := divU ha hb wx; rw [← hq, ← hr, ← hzo] at h; exact h)
    have k7 := Lib.hid (show ∀ wx, Calls Try.prog 56 #[.agg (W4 a), .agg (W4 b)] wx (Ret wx (.tuple #[.agg (W4 q), .agg (W4 r), .bool (zo)])) from fun wx => by have h := refdivU ha hb wx; rw [← hq, ← hr, ← hzo] at h; exact h)
    have k8 := Lib.hid (show ∀ wx, Calls Try.prog 57 #[.agg (W4 b), .agg (W4 a)] wx (Ret wx (.int .i64 e)) from fun wx => by have h := refcmpU hb ha wx; rw [← he] at h; exact h)
    have k9 := Lib.hid (show ∀ wx, Calls Try.prog 48 #[.agg (W4 a), .agg (W4 b)] wx (Ret wx (.int .i64 c)) from fun wx => by have h := cmpU ha hb wx; rw [← hc] at h; exact h)
    have k10 := Lib.hid (show ∀ wx, Calls Try.prog 57 #[.agg (W4 a), .agg (W4 b)] wx (Ret wx (.int .i64 c)) from fun wx => by have h := refcmpU ha hb wx; rw [← hc] at h; exact h)
    have k11 := Lib.hid (show ∀ wx, Calls Try.prog 58 #[.agg (W4 a), .agg (W4 b)] wx (Ret wx (.agg (W4 b))) from fun wx => by have h := minU ha hb wx; rw [hm] at h; exact h)
    have k12 := Lib.hid (show ∀ wx, Calls Try.prog 50 #[] wx (Ret wx (.bool true)) from fun wx => by have h := lives1U  wx; exact h)
    have q0 : ∀ wx, (Op.equalIn 10000 31 (.agg (W4 s)) (.agg (W4 s))).run Try.prog wx = .ok true wx := fun wx => by rw [eqU sl sl, decide_eq_true rfl]
    have q1 : ∀ wx, (Op.equalIn 10000 31 (.agg (W4 d)) (.agg (W4 d))).run Try.prog wx = .ok true wx := fun wx => by rw [eqU dl dl, decide_eq_true rfl]
    have q2 : ∀ wx, (Op.equalIn 10000 31 (.agg (W4 p)) (.agg (W4 p))).run Try.prog wx = .ok true wx := fun wx => by rw [eqU pl pl, decide_eq_true rfl]
    have q3 : ∀ wx, (Op.equalIn 10000 31 (.agg (W4 q)) (.agg (W4 q))).run Try.prog wx = .ok true wx := fun wx => by rw [eqU ql ql, decide_eq_true rfl]
    have q4 : ∀ wx, (Op.equalIn 10000 31 (.agg (W4 r)) (.agg (W4 r))).run Try.prog wx = .ok true wx := fun wx => by rw [eqU rl rl, decide_eq_true rfl]
    have q5 : ∀ wx, (Op.equalIn 10000 31 (.agg (W4 b)) (.agg (W4 b))).run Try.prog wx = .ok true wx := fun wx => by rw [eqU hb hb, decide_eq_true rfl]
    clear hs hso hd hdd hp hpo hq hr hzo he hc hm
    go_enter Try.func6, Try.ntmps6
    apply wp_seq_eq
    focus
      intro J hJ
      go_wp2_with fail
      exact hJ
    refine wp_abs (Mem w [(w.heap.size, 31, W4 a), (w.heap.size + 1, 31, W4 b)]) ⟨by go_grown, ?_, ?_, trivial⟩ ?_
    · repeat (first | (refine Row.new_at ?_; simp; done) | refine Row.alloc ?_ _)
    · repeat (first | (refine Row.new_at ?_; simp; done) | refine Row.alloc ?_ _)
    intro w0 hM
    obtain ⟨hl, r0, r1, -⟩ := hM
    go_upto_region 1 with (fail)
    let L : List Sp := [sV 2 [] [] (fun u => u = .tuple #[.agg (W4 s), .bool (so)]), sA 6 31 [7] #[.int .u64 0, .int .u64 0, .int .u64 0, .int .u64 0], sT 7 6 31 [4] (fun g => aggOf g 4)]
    refine wp_region_six0 (shs L) (look6 L) (None_) (by kernel_rfl) (by kernel_rfl) (mk_St L [] [] (by kernel_rfl) (by kernel_rfl) ⟨ok_V ⟨_, rfl⟩, ok_A, ok_T aggOf_congr, trivial⟩ (by simp)) ?_
    intro QQ hQ
    -- 0: load<31> *t2
    refine stepK rfl (by kernel_rfl) (fun K hK => ?_); go_simp
    apply Exists.intro; apply And.intro; (focus exact kLoad rfl rfl aggT31 r0 rfl id); refine hK _ _ ?_; clear hK K
    -- 1: load<31> *t3
    refine stepK rfl (by kernel_rfl) (fun K hK => ?_); go_simp
    apply Exists.intro; apply And.intro; (focus exact kLoad rfl rfl aggT31 r1 rfl id); refine hK _ _ ?_; clear hK K
    -- 2: call F46(t25, t26)
    refine stepS _ rfl (by kernel_rfl) (fun K hK => ?_); go_simp
    refine ⟨?_, ?_⟩
    · intro wk hk hg hu; go_simp; refine upon_enter ((k0.out _).mono ?_); rintro e w' ⟨rfl, hb⟩; exact ⟨_, rfl, left_V (p := fun u => u = .tuple #[.agg (W4 s), .bool (so)]) rfl (hb) rfl⟩
    rintro ⟨v2, lo2, hi2⟩ - - (rfl : v2 = _)
    refine hK _ _ ?_; clear hK K
    -- 3: t27
    refine stepK rfl (by kernel_rfl) (fun K hK => ?_); go_simp
    apply Exists.intro; apply And.intro; (focus (intro wk hk; go_simp; exact ⟨rfl, rfl⟩)); refine hK _ _ ?_; clear hK K
    -- 4: extract t24 #0
    refine stepK rfl (by kernel_rfl) (fun K hK => ?_); go_simp
    apply Exists.intro; apply And.intro; (focus (intro wk hk; go_simp; exact ⟨rfl, rfl⟩)); refine hK _ _ ?_; clear hK K
    -- 5: extract t24 #1
    refine stepK rfl (by kernel_rfl) (fun K hK => ?_); go_simp
    apply Exists.intro; apply And.intro; (focus (intro wk hk; go_simp; exact ⟨rfl, rfl⟩)); refine hK _ _ ?_; clear hK K
    -- 6: alloc<31>
    refine stepS _ rfl (by kernel_rfl) (fun K hK => ?_); go_simp
    refine ⟨?_, ?_⟩
    · intro wk hk hg hu; go_simp; exact left_A rfl rfl
    rintro ⟨v6, lo1_6, hi6⟩ hlo6 hhi6 ⟨e6, f6⟩
    replace e6 : v6 = .pointer (some ⟨lo1_6, 0, none⟩) := e6; replace f6 : hi6 = lo1_6 + 1 := f6; replace hlo6 : _ ≤ lo1_6 := hlo6; subst e6; subst f6
    refine hK _ _ ?_; clear hK K
    -- 7: store<31> *t5 = t28
    refine stepS _ rfl (by kernel_rfl) (fun K hK => ?_); go_simp
    refine ⟨?_, ?_⟩
    · exact sStoreT rfl rfl rfl rfl rfl rfl rfl (by kernel_rfl) rfl (by kernel_rfl) (by decide) aggOf_congr
    rintro ⟨v7, lo7, hi7⟩ - - (rfl : v7 = undef)
    refine hK _ _ ?_; clear hK K
    -- 8: assign t29
    refine stepK rfl (by kernel_rfl) (fun K hK => ?_); go_simp
    apply Exists.intro; apply And.intro; (focus (intro wk hk; go_simp; exact ⟨rfl, rfl⟩)); refine hK _ _ ?_; clear hK K
    refine stepN ?_
    refine hQ _ _ ?_
    intro w1 hT hG hF
    have nr2r0 : w.heap.size < lo1_6 := Nat.lt_of_lt_of_le r0.lt hlo6
    have nr2r1 : w.heap.size + 1 < lo1_6 := Nat.lt_of_lt_of_le r1.lt hlo6
    have hbw1 := hT.below
    have r2 : Row w1 lo1_6 31 ((W4 s)) := (hF 7 _ rfl rfl (by decide)).2
    replace r0 := r0.below hbw1 r0.lt
    replace r1 := r1.below hbw1 r1.lt
    replace hl := hl.trans (hbw1.mono hl.size)
    clear hT hG hF hbw1 hQ QQ L hlo6 hhi6
    go_upto_region 2 with (fail)
    let L : List Sp := [sV 2 [] [] (fun u => u = .tuple #[.agg (W4 s), .bool (so)]), sA 6 31 [7] #[.int .u64 0, .int .u64 0, .int .u64 0, .int .u64 0], sT 7 6 31 [4] (fun g => aggOf g 4)]
    refine wp_region_six0 (shs L) (look6 L) (None_) (by kernel_rfl) (by kernel_rfl) (mk_St L [] [] (by kernel_rfl) (by kernel_rfl) ⟨ok_V ⟨_, rfl⟩, ok_A, ok_T aggOf_congr, trivial⟩ (by simp)) ?_
    intro QQ hQ
    -- 0: load<31> *t2
    refine stepK rfl (by kernel_rfl) (fun K hK => ?_); go_simp
    apply Exists.intro; apply And.intro; (focus exact kLoad rfl rfl aggT31 r0 rfl id); refine hK _ _ ?_; clear hK K
    -- 1: load<31> *t3
    refine stepK rfl (by kernel_rfl) (fun K hK => ?_); go_simp
    apply Exists.intro; apply And.intro; (focus exact kLoad rfl rfl aggT31 r1 rfl id); refine hK _ _ ?_; clear hK K
    -- 2: call F51(t31, t32)
    refine stepS _ rfl (by kernel_rfl) (fun K hK => ?_); go_simp
    refine ⟨?_, ?_⟩
    · intro wk hk hg hu; go_simp; refine upon_enter ((k1.out _).mono ?_); rintro e w' ⟨rfl, hb⟩; exact ⟨_, rfl, left_V (p := fun u => u = .tuple #[.agg (W4 s), .bool (so)]) rfl (hb) rfl⟩
    rintro ⟨v2, lo2, hi2⟩ - - (rfl : v2 = _)
    refine hK _ _ ?_; clear hK K
    -- 3: t33
    refine stepK rfl (by kernel_rfl) (fun K hK => ?_); go_simp
    apply Exists.intro; apply And.intro; (focus (intro wk hk; go_simp; exact ⟨rfl, rfl⟩)); refine hK _ _ ?_; clear hK K
    -- 4: extract t30 #0
    refine stepK rfl (by kernel_rfl) (fun K hK => ?_); go_simp
    apply Exists.intro; apply And.intro; (focus (intro wk hk; go_simp; exact ⟨rfl, rfl⟩)); refine hK _ _ ?_; clear hK K
    -- 5: extract t30 #1
    refine stepK rfl (by kernel_rfl) (fun K hK => ?_); go_simp
    apply Exists.intro; apply And.intro; (focus (intro wk hk; go_simp; exact ⟨rfl, rfl⟩)); refine hK _ _ ?_; clear hK K
    -- 6: alloc<31>
    refine stepS _ rfl (by kernel_rfl) (fun K hK => ?_); go_simp
    refine ⟨?_, ?_⟩
    · intro wk hk hg hu; go_simp; exact left_A rfl rfl
    rintro ⟨v6, lo2_6, hi6⟩ hlo6 hhi6 ⟨e6, f6⟩
    replace e6 : v6 = .pointer (some ⟨lo2_6, 0, none⟩) := e6; replace f6 : hi6 = lo2_6 + 1 := f6; replace hlo6 : _ ≤ lo2_6 := hlo6; subst e6; subst f6
    refine hK _ _ ?_; clear hK K
    -- 7: store<31> *t7 = t34
    refine stepS _ rfl (by kernel_rfl) (fun K hK => ?_); go_simp
    refine ⟨?_, ?_⟩
    · exact sStoreT rfl rfl rfl rfl rfl rfl rfl (by kernel_rfl) rfl (by kernel_rfl) (by decide) aggOf_congr
    rintro ⟨v7, lo7, hi7⟩ - - (rfl : v7 = undef)
    refine hK _ _ ?_; clear hK K
    -- 8: assign t35
    refine stepK rfl (by kernel_rfl) (fun K hK => ?_); go_simp
    apply Exists.intro; apply And.intro; (focus (intro wk hk; go_simp; exact ⟨rfl, rfl⟩)); refine hK _ _ ?_; clear hK K
    refine stepN ?_
    refine hQ _ _ ?_
    intro w2 hT hG hF
    have nr3r0 : w.heap.size < lo2_6 := Nat.lt_of_lt_of_le r0.lt hlo6
    have nr3r1 : w.heap.size + 1 < lo2_6 := Nat.lt_of_lt_of_le r1.lt hlo6
    have nr3r2 : lo1_6 < lo2_6 := Nat.lt_of_lt_of_le r2.lt hlo6
    have hbw2 := hT.below
    have r3 : Row w2 lo2_6 31 ((W4 s)) := (hF 7 _ rfl rfl (by decide)).2
    replace r0 := r0.below hbw2 r0.lt
    replace r1 := r1.below hbw2 r1.lt
    replace r2 := r2.below hbw2 r2.lt
    replace hl := hl.trans (hbw2.mono hl.size)
    clear hT hG hF hbw2 hQ QQ L hlo6 hhi6
    go_upto_region 3 with (fail)
    let L : List Sp := [sV 2 [] [] (fun u => u = .tuple #[.agg (W4 d), .bool (dd)]), sA 6 31 [7] #[.int .u64 0, .int .u64 0, .int .u64 0, .int .u64 0], sT 7 6 31 [4] (fun g => aggOf g 4)]
    refine wp_region_six0 (shs L) (look6 L) (None_) (by kernel_rfl) (by kernel_rfl) (mk_St L [] [] (by kernel_rfl) (by kernel_rfl) ⟨ok_V ⟨_, rfl⟩, ok_A, ok_T aggOf_congr, trivial⟩ (by simp)) ?_
    intro QQ hQ
    -- 0: load<31> *t2
    refine stepK rfl (by kernel_rfl) (fun K hK => ?_); go_simp
    apply Exists.intro; apply And.intro; (focus exact kLoad rfl rfl aggT31 r0 rfl id); refine hK _ _ ?_; clear hK K
    -- 1: load<31> *t3
    refine stepK rfl (by kernel_rfl) (fun K hK => ?_); go_simp
    apply Exists.intro; apply And.intro; (focus exact kLoad rfl rfl aggT31 r1 rfl id); refine hK _ _ ?_; clear hK K
    -- 2: call F52(t37, t38)
    refine stepS _ rfl (by kernel_rfl) (fun K hK => ?_); go_simp
    refine ⟨?_, ?_⟩
    · intro wk hk hg hu; go_simp; refine upon_enter ((k2.out _).mono ?_); rintro e w' ⟨rfl, hb⟩; exact ⟨_, rfl, left_V (p := fun u => u = .tuple #[.agg (W4 d), .bool (dd)]) rfl (hb) rfl⟩
    rintro ⟨v2, lo2, hi2⟩ - - (rfl : v2 = _)
    refine hK _ _ ?_; clear hK K
    -- 3: t39
    refine stepK rfl (by kernel_rfl) (fun K hK => ?_); go_simp
    apply Exists.intro; apply And.intro; (focus (intro wk hk; go_simp; exact ⟨rfl, rfl⟩)); refine hK _ _ ?_; clear hK K
    -- 4: extract t36 #0
    refine stepK rfl (by kernel_rfl) (fun K hK => ?_); go_simp
    apply Exists.intro; apply And.intro; (focus (intro wk hk; go_simp; exact ⟨rfl, rfl⟩)); refine hK _ _ ?_; clear hK K
    -- 5: extract t36 #1
    refine stepK rfl (by kernel_rfl) (fun K hK => ?_); go_simp
    apply Exists.intro; apply And.intro; (focus (intro wk hk; go_simp; exact ⟨rfl, rfl⟩)); refine hK _ _ ?_; clear hK K
    -- 6: alloc<31>
    refine stepS _ rfl (by kernel_rfl) (fun K hK => ?_); go_simp
    refine ⟨?_, ?_⟩
    · intro wk hk hg hu; go_simp; exact left_A rfl rfl
    rintro ⟨v6, lo3_6, hi6⟩ hlo6 hhi6 ⟨e6, f6⟩
    replace e6 : v6 = .pointer (some ⟨lo3_6, 0, none⟩) := e6; replace f6 : hi6 = lo3_6 + 1 := f6; replace hlo6 : _ ≤ lo3_6 := hlo6; subst e6; subst f6
    refine hK _ _ ?_; clear hK K
    -- 7: store<31> *t9 = t40
    refine stepS _ rfl (by kernel_rfl) (fun K hK => ?_); go_simp
    refine ⟨?_, ?_⟩
    · exact sStoreT rfl rfl rfl rfl rfl rfl rfl (by kernel_rfl) rfl (by kernel_rfl) (by decide) aggOf_congr
    rintro ⟨v7, lo7, hi7⟩ - - (rfl : v7 = undef)
    refine hK _ _ ?_; clear hK K
    -- 8: assign t41
    refine stepK rfl (by kernel_rfl) (fun K hK => ?_); go_simp
    apply Exists.intro; apply And.intro; (focus (intro wk hk; go_simp; exact ⟨rfl, rfl⟩)); refine hK _ _ ?_; clear hK K
    refine stepN ?_
    refine hQ _ _ ?_
    intro w3 hT hG hF
    have nr4r0 : w.heap.size < lo3_6 := Nat.lt_of_lt_of_le r0.lt hlo6
    have nr4r1 : w.heap.size + 1 < lo3_6 := Nat.lt_of_lt_of_le r1.lt hlo6
    have nr4r2 : lo1_6 < lo3_6 := Nat.lt_of_lt_of_le r2.lt hlo6
    have nr4r3 : lo2_6 < lo3_6 := Nat.lt_of_lt_of_le r3.lt hlo6
    have hbw3 := hT.below
    have r4 : Row w3 lo3_6 31 ((W4 d)) := (hF 7 _ rfl rfl (by decide)).2
    replace r0 := r0.below hbw3 r0.lt
    replace r1 := r1.below hbw3 r1.lt
    replace r2 := r2.below hbw3 r2.lt
    replace r3 := r3.below hbw3 r3.lt
    replace hl := hl.trans (hbw3.mono hl.size)
    clear hT hG hF hbw3 hQ QQ L hlo6 hhi6
    go_upto_region 4 with (fail)
    let L : List Sp := [sV 2 [] [] (fun u => u = .tuple #[.agg (W4 d), .bool (dd)]), sA 6 31 [7] #[.int .u64 0, .int .u64 0, .int .u64 0, .int .u64 0], sT 7 6 31 [4] (fun g => aggOf g 4)]
    refine wp_region_six0 (shs L) (look6 L) (None_) (by kernel_rfl) (by kernel_rfl) (mk_St L [] [] (by kernel_rfl) (by kernel_rfl) ⟨ok_V ⟨_, rfl⟩, ok_A, ok_T aggOf_congr, trivial⟩ (by simp)) ?_
    intro QQ hQ
    -- 0: load<31> *t2
    refine stepK rfl (by kernel_rfl) (fun K hK => ?_); go_simp
    apply Exists.intro; apply And.intro; (focus exact kLoad rfl rfl aggT31 r0 rfl id); refine hK _ _ ?_; clear hK K
    -- 1: load<31> *t3
    refine stepK rfl (by kernel_rfl) (fun K hK => ?_); go_simp
    apply Exists.intro; apply And.intro; (focus exact kLoad rfl rfl aggT31 r1 rfl id); refine hK _ _ ?_; clear hK K
    -- 2: call F53(t43, t44)
    refine stepS _ rfl (by kernel_rfl) (fun K hK => ?_); go_simp
    refine ⟨?_, ?_⟩
    · intro wk hk hg hu; go_simp; refine upon_enter ((k3.out _).mono ?_); rintro e w' ⟨rfl, hb⟩; exact ⟨_, rfl, left_V (p := fun u => u = .tuple #[.agg (W4 d), .bool (dd)]) rfl (hb) rfl⟩
    rintro ⟨v2, lo2, hi2⟩ - - (rfl : v2 = _)
    refine hK _ _ ?_; clear hK K
    -- 3: t45
    refine stepK rfl (by kernel_rfl) (fun K hK => ?_); go_simp
    apply Exists.intro; apply And.intro; (focus (intro wk hk; go_simp; exact ⟨rfl, rfl⟩)); refine hK _ _ ?_; clear hK K
    -- 4: extract t42 #0
    refine stepK rfl (by kernel_rfl) (fun K hK => ?_); go_simp
    apply Exists.intro; apply And.intro; (focus (intro wk hk; go_simp; exact ⟨rfl, rfl⟩)); refine hK _ _ ?_; clear hK K
    -- 5: extract t42 #1
    refine stepK rfl (by kernel_rfl) (fun K hK => ?_); go_simp
    apply Exists.intro; apply And.intro; (focus (intro wk hk; go_simp; exact ⟨rfl, rfl⟩)); refine hK _ _ ?_; clear hK K
    -- 6: alloc<31>
    refine stepS _ rfl (by kernel_rfl) (fun K hK => ?_); go_simp
    refine ⟨?_, ?_⟩
    · intro wk hk hg hu; go_simp; exact left_A rfl rfl
    rintro ⟨v6, lo4_6, hi6⟩ hlo6 hhi6 ⟨e6, f6⟩
    replace e6 : v6 = .pointer (some ⟨lo4_6, 0, none⟩) := e6; replace f6 : hi6 = lo4_6 + 1 := f6; replace hlo6 : _ ≤ lo4_6 := hlo6; subst e6; subst f6
    refine hK _ _ ?_; clear hK K
    -- 7: store<31> *t11 = t46
    refine stepS _ rfl (by kernel_rfl) (fun K hK => ?_); go_simp
    refine ⟨?_, ?_⟩
    · exact sStoreT rfl rfl rfl rfl rfl rfl rfl (by kernel_rfl) rfl (by kernel_rfl) (by decide) aggOf_congr
    rintro ⟨v7, lo7, hi7⟩ - - (rfl : v7 = undef)
    refine hK _ _ ?_; clear hK K
    -- 8: assign t47
    refine stepK rfl (by kernel_rfl) (fun K hK => ?_); go_simp
    apply Exists.intro; apply And.intro; (focus (intro wk hk; go_simp; exact ⟨rfl, rfl⟩)); refine hK _ _ ?_; clear hK K
    refine stepN ?_
    refine hQ _ _ ?_
    intro w4 hT hG hF
    have nr5r0 : w.heap.size < lo4_6 := Nat.lt_of_lt_of_le r0.lt hlo6
    have nr5r1 : w.heap.size + 1 < lo4_6 := Nat.lt_of_lt_of_le r1.lt hlo6
    have nr5r2 : lo1_6 < lo4_6 := Nat.lt_of_lt_of_le r2.lt hlo6
    have nr5r3 : lo2_6 < lo4_6 := Nat.lt_of_lt_of_le r3.lt hlo6
    have nr5r4 : lo3_6 < lo4_6 := Nat.lt_of_lt_of_le r4.lt hlo6
    have hbw4 := hT.below
    have r5 : Row w4 lo4_6 31 ((W4 d)) := (hF 7 _ rfl rfl (by decide)).2
    replace r0 := r0.below hbw4 r0.lt
    replace r1 := r1.below hbw4 r1.lt
    replace r2 := r2.below hbw4 r2.lt
    replace r3 := r3.below hbw4 r3.lt
    replace r4 := r4.below hbw4 r4.lt
    replace hl := hl.trans (hbw4.mono hl.size)
    clear hT hG hF hbw4 hQ QQ L hlo6 hhi6
    go_upto_region 5 with (fail)
    let L : List Sp := [sV 2 [] [] (fun u => u = .tuple #[.agg (W4 p), .bool (po)]), sA 6 31 [7] #[.int .u64 0, .int .u64 0, .int .u64 0, .int .u64 0], sT 7 6 31 [4] (fun g => aggOf g 4)]
    refine wp_region_six0 (shs L) (look6 L) (None_) (by kernel_rfl) (by kernel_rfl) (mk_St L [] [] (by kernel_rfl) (by kernel_rfl) ⟨ok_V ⟨_, rfl⟩, ok_A, ok_T aggOf_congr, trivial⟩ (by simp)) ?_
    intro QQ hQ
    -- 0: load<31> *t2
    refine stepK rfl (by kernel_rfl) (fun K hK => ?_); go_simp
    apply Exists.intro; apply And.intro; (focus exact kLoad rfl rfl aggT31 r0 rfl id); refine hK _ _ ?_; clear hK K
    -- 1: load<31> *t3
    refine stepK rfl (by kernel_rfl) (fun K hK => ?_); go_simp
    apply Exists.intro; apply And.intro; (focus exact kLoad rfl rfl aggT31 r1 rfl id); refine hK _ _ ?_; clear hK K
    -- 2: call F47(t49, t50)
    refine stepS _ rfl (by kernel_rfl) (fun K hK => ?_); go_simp
    refine ⟨?_, ?_⟩
    · intro wk hk hg hu; go_simp; refine upon_enter ((k4.out _).mono ?_); rintro e w' ⟨rfl, hb⟩; exact ⟨_, rfl, left_V (p := fun u => u = .tuple #[.agg (W4 p), .bool (po)]) rfl (hb) rfl⟩
    rintro ⟨v2, lo2, hi2⟩ - - (rfl : v2 = _)
    refine hK _ _ ?_; clear hK K
    -- 3: t51
    refine stepK rfl (by kernel_rfl) (fun K hK => ?_); go_simp
    apply Exists.intro; apply And.intro; (focus (intro wk hk; go_simp; exact ⟨rfl, rfl⟩)); refine hK _ _ ?_; clear hK K
    -- 4: extract t48 #0
    refine stepK rfl (by kernel_rfl) (fun K hK => ?_); go_simp
    apply Exists.intro; apply And.intro; (focus (intro wk hk; go_simp; exact ⟨rfl, rfl⟩)); refine hK _ _ ?_; clear hK K
    -- 5: extract t48 #1
    refine stepK rfl (by kernel_rfl) (fun K hK => ?_); go_simp
    apply Exists.intro; apply And.intro; (focus (intro wk hk; go_simp; exact ⟨rfl, rfl⟩)); refine hK _ _ ?_; clear hK K
    -- 6: alloc<31>
    refine stepS _ rfl (by kernel_rfl) (fun K hK => ?_); go_simp
    refine ⟨?_, ?_⟩
    · intro wk hk hg hu; go_simp; exact left_A rfl rfl
    rintro ⟨v6, lo5_6, hi6⟩ hlo6 hhi6 ⟨e6, f6⟩
    replace e6 : v6 = .pointer (some ⟨lo5_6, 0, none⟩) := e6; replace f6 : hi6 = lo5_6 + 1 := f6; replace hlo6 : _ ≤ lo5_6 := hlo6; subst e6; subst f6
    refine hK _ _ ?_; clear hK K
    -- 7: store<31> *t13 = t52
    refine stepS _ rfl (by kernel_rfl) (fun K hK => ?_); go_simp
    refine ⟨?_, ?_⟩
    · exact sStoreT rfl rfl rfl rfl rfl rfl rfl (by kernel_rfl) rfl (by kernel_rfl) (by decide) aggOf_congr
    rintro ⟨v7, lo7, hi7⟩ - - (rfl : v7 = undef)
    refine hK _ _ ?_; clear hK K
    -- 8: assign t53
    refine stepK rfl (by kernel_rfl) (fun K hK => ?_); go_simp
    apply Exists.intro; apply And.intro; (focus (intro wk hk; go_simp; exact ⟨rfl, rfl⟩)); refine hK _ _ ?_; clear hK K
    refine stepN ?_
    refine hQ _ _ ?_
    intro w5 hT hG hF
    have nr6r0 : w.heap.size < lo5_6 := Nat.lt_of_lt_of_le r0.lt hlo6
    have nr6r1 : w.heap.size + 1 < lo5_6 := Nat.lt_of_lt_of_le r1.lt hlo6
    have nr6r2 : lo1_6 < lo5_6 := Nat.lt_of_lt_of_le r2.lt hlo6
    have nr6r3 : lo2_6 < lo5_6 := Nat.lt_of_lt_of_le r3.lt hlo6
    have nr6r4 : lo3_6 < lo5_6 := Nat.lt_of_lt_of_le r4.lt hlo6
    have nr6r5 : lo4_6 < lo5_6 := Nat.lt_of_lt_of_le r5.lt hlo6
    have hbw5 := hT.below
    have r6 : Row w5 lo5_6 31 ((W4 p)) := (hF 7 _ rfl rfl (by decide)).2
    replace r0 := r0.below hbw5 r0.lt
    replace r1 := r1.below hbw5 r1.lt
    replace r2 := r2.below hbw5 r2.lt
    replace r3 := r3.below hbw5 r3.lt
    replace r4 := r4.below hbw5 r4.lt
    replace r5 := r5.below hbw5 r5.lt
    replace hl := hl.trans (hbw5.mono hl.size)
    clear hT hG hF hbw5 hQ QQ L hlo6 hhi6
    go_upto_region 6 with (fail)
    let L : List Sp := [sV 2 [] [] (fun u => u = .tuple #[.agg (W4 p), .bool (po)]), sA 6 31 [7] #[.int .u64 0, .int .u64 0, .int .u64 0, .int .u64 0], sT 7 6 31 [4] (fun g => aggOf g 4)]
    refine wp_region_six0 (shs L) (look6 L) (None_) (by kernel_rfl) (by kernel_rfl) (mk_St L [] [] (by kernel_rfl) (by kernel_rfl) ⟨ok_V ⟨_, rfl⟩, ok_A, ok_T aggOf_congr, trivial⟩ (by simp)) ?_
    intro QQ hQ
    -- 0: load<31> *t2
    refine stepK rfl (by kernel_rfl) (fun K hK => ?_); go_simp
    apply Exists.intro; apply And.intro; (focus exact kLoad rfl rfl aggT31 r0 rfl id); refine hK _ _ ?_; clear hK K
    -- 1: load<31> *t3
    refine stepK rfl (by kernel_rfl) (fun K hK => ?_); go_simp
    apply Exists.intro; apply And.intro; (focus exact kLoad rfl rfl aggT31 r1 rfl id); refine hK _ _ ?_; clear hK K
    -- 2: call F54(t55, t56)
    refine stepS _ rfl (by kernel_rfl) (fun K hK => ?_); go_simp
    refine ⟨?_, ?_⟩
    · intro wk hk hg hu; go_simp; refine upon_enter ((k5.out _).mono ?_); rintro e w' ⟨rfl, hb⟩; exact ⟨_, rfl, left_V (p := fun u => u = .tuple #[.agg (W4 p), .bool (po)]) rfl (hb) rfl⟩
    rintro ⟨v2, lo2, hi2⟩ - - (rfl : v2 = _)
    refine hK _ _ ?_; clear hK K
    -- 3: t57
    refine stepK rfl (by kernel_rfl) (fun K hK => ?_); go_simp
    apply Exists.intro; apply And.intro; (focus (intro wk hk; go_simp; exact ⟨rfl, rfl⟩)); refine hK _ _ ?_; clear hK K
    -- 4: extract t54 #0
    refine stepK rfl (by kernel_rfl) (fun K hK => ?_); go_simp
    apply Exists.intro; apply And.intro; (focus (intro wk hk; go_simp; exact ⟨rfl, rfl⟩)); refine hK _ _ ?_; clear hK K
    -- 5: extract t54 #1
    refine stepK rfl (by kernel_rfl) (fun K hK => ?_); go_simp
    apply Exists.intro; apply And.intro; (focus (intro wk hk; go_simp; exact ⟨rfl, rfl⟩)); refine hK _ _ ?_; clear hK K
    -- 6: alloc<31>
    refine stepS _ rfl (by kernel_rfl) (fun K hK => ?_); go_simp
    refine ⟨?_, ?_⟩
    · intro wk hk hg hu; go_simp; exact left_A rfl rfl
    rintro ⟨v6, lo6_6, hi6⟩ hlo6 hhi6 ⟨e6, f6⟩
    replace e6 : v6 = .pointer (some ⟨lo6_6, 0, none⟩) := e6; replace f6 : hi6 = lo6_6 + 1 := f6; replace hlo6 : _ ≤ lo6_6 := hlo6; subst e6; subst f6
    refine hK _ _ ?_; clear hK K
    -- 7: store<31> *t15 = t58
    refine stepS _ rfl (by kernel_rfl) (fun K hK => ?_); go_simp
    refine ⟨?_, ?_⟩
    · exact sStoreT rfl rfl rfl rfl rfl rfl rfl (by kernel_rfl) rfl (by kernel_rfl) (by decide) aggOf_congr
    rintro ⟨v7, lo7, hi7⟩ - - (rfl : v7 = undef)
    refine hK _ _ ?_; clear hK K
    -- 8: assign t59
    refine stepK rfl (by kernel_rfl) (fun K hK => ?_); go_simp
    apply Exists.intro; apply And.intro; (focus (intro wk hk; go_simp; exact ⟨rfl, rfl⟩)); refine hK _ _ ?_; clear hK K
    refine stepN ?_
    refine hQ _ _ ?_
    intro w6 hT hG hF
    have nr7r0 : w.heap.size < lo6_6 := Nat.lt_of_lt_of_le r0.lt hlo6
    have nr7r1 : w.heap.size + 1 < lo6_6 := Nat.lt_of_lt_of_le r1.lt hlo6
    have nr7r2 : lo1_6 < lo6_6 := Nat.lt_of_lt_of_le r2.lt hlo6
    have nr7r3 : lo2_6 < lo6_6 := Nat.lt_of_lt_of_le r3.lt hlo6
    have nr7r4 : lo3_6 < lo6_6 := Nat.lt_of_lt_of_le r4.lt hlo6
    have nr7r5 : lo4_6 < lo6_6 := Nat.lt_of_lt_of_le r5.lt hlo6
    have nr7r6 : lo5_6 < lo6_6 := Nat.lt_of_lt_of_le r6.lt hlo6
    have hbw6 := hT.below
    have r7 : Row w6 lo6_6 31 ((W4 p)) := (hF 7 _ rfl rfl (by decide)).2
    replace r0 := r0.below hbw6 r0.lt
    replace r1 := r1.below hbw6 r1.lt
    replace r2 := r2.below hbw6 r2.lt
    replace r3 := r3.below hbw6 r3.lt
    replace r4 := r4.below hbw6 r4.lt
    replace r5 := r5.below hbw6 r5.lt
    replace r6 := r6.below hbw6 r6.lt
    replace hl := hl.trans (hbw6.mono hl.size)
    clear hT hG hF hbw6 hQ QQ L hlo6 hhi6
    go_upto_region 7 with (fail)
    let L : List Sp := []
    refine wp_region_six0 (shs L) (look6 L) (None_) (by kernel_rfl) (by kernel_rfl) (mk_St L [] [] (by kernel_rfl) (by kernel_rfl) trivial (by simp)) ?_
    intro QQ hQ
    -- 0: load<31> *t5
    refine stepK rfl (by kernel_rfl) (fun K hK => ?_); go_simp
    apply Exists.intro; apply And.intro; (focus exact kLoad rfl rfl aggT31 r2 rfl id); refine hK _ _ ?_; clear hK K
    -- 1: load<31> *t7
    refine stepK rfl (by kernel_rfl) (fun K hK => ?_); go_simp
    apply Exists.intro; apply And.intro; (focus exact kLoad rfl rfl aggT31 r3 rfl id); refine hK _ _ ?_; clear hK K
    -- 2: neq<31> t60, t61
    refine stepK rfl (by kernel_rfl) (fun K hK => ?_); go_simp
    apply Exists.intro; apply And.intro; (focus (intro wk hk; go_simp; exact ⟨rfl, rfl⟩)); refine hK _ _ ?_; clear hK K
    -- 3: t62
    refine stepK rfl (by kernel_rfl) (fun K hK => ?_); go_simp
    apply Exists.intro; apply And.intro; (focus (intro wk hk; go_simp; exact ⟨rfl, rfl⟩)); refine hK _ _ ?_; clear hK K
    -- 4: t6
    refine stepK rfl (by kernel_rfl) (fun K hK => ?_); go_simp
    first | (refine hK _ _ ?_; clear hK K) | (apply Exists.intro; apply And.intro; (focus (intro wk hk; go_simp; exact ⟨rfl, rfl⟩)); refine hK _ _ ?_; clear hK K)
    -- 5: t8
    refine stepK rfl (by kernel_rfl) (fun K hK => ?_); go_simp
    first | (refine hK _ _ ?_; clear hK K) | (apply Exists.intro; apply And.intro; (focus (intro wk hk; go_simp; exact ⟨rfl, rfl⟩)); refine hK _ _ ?_; clear hK K)
    -- 6: neq<4> t64, t65
    refine stepK rfl (by kernel_rfl) (fun K hK => ?_); go_simp
    first | (refine hK _ _ ?_; clear hK K) | (apply Exists.intro; apply And.intro; (focus (intro wk hk; go_simp; exact ⟨rfl, rfl⟩)); refine hK _ _ ?_; clear hK K)
    -- 7: pick t63 ? true : t66
    refine stepK rfl (by kernel_rfl) (fun K hK => ?_); go_simp
    apply Exists.intro; apply And.intro; (focus (intro wk hk; go_simp; exact ⟨rfl, rfl⟩)); refine hK _ _ ?_; clear hK K
    -- 8: t67
    refine stepK rfl (by kernel_rfl) (fun K hK => ?_); go_simp
    apply Exists.intro; apply And.intro; (focus (intro wk hk; go_simp; exact ⟨rfl, rfl⟩)); refine hK _ _ ?_; clear hK K
    -- 9: load<31> *t9
    refine stepK rfl (by kernel_rfl) (fun K hK => ?_); go_simp
    first | (refine hK _ _ ?_; clear hK K) | (apply Exists.intro; apply And.intro; (focus exact kLoad rfl rfl aggT31 r4 rfl id); refine hK _ _ ?_; clear hK K)
    -- 10: load<31> *t11
    refine stepK rfl (by kernel_rfl) (fun K hK => ?_); go_simp
    first | (refine hK _ _ ?_; clear hK K) | (apply Exists.intro; apply And.intro; (focus exact kLoad rfl rfl aggT31 r5 rfl id); refine hK _ _ ?_; clear hK K)
    -- 11: neq<31> t69, t70
    refine stepK rfl (by kernel_rfl) (fun K hK => ?_); go_simp
    first | (refine hK _ _ ?_; clear hK K) | (apply Exists.intro; apply And.intro; (focus (intro wk hk; go_simp; exact ⟨rfl, rfl⟩)); refine hK _ _ ?_; clear hK K)
    -- 12: pick t68 ? true : t71
    refine stepK rfl (by kernel_rfl) (fun K hK => ?_); go_simp
    apply Exists.intro; apply And.intro; (focus (intro wk hk; go_simp; exact ⟨rfl, rfl⟩)); refine hK _ _ ?_; clear hK K
    -- 13: t72
    refine stepK rfl (by kernel_rfl) (fun K hK => ?_); go_simp
    apply Exists.intro; apply And.intro; (focus (intro wk hk; go_simp; exact ⟨rfl, rfl⟩)); refine hK _ _ ?_; clear hK K
    -- 14: t10
    refine stepK rfl (by kernel_rfl) (fun K hK => ?_); go_simp
    first | (refine hK _ _ ?_; clear hK K) | (apply Exists.intro; apply And.intro; (focus (intro wk hk; go_simp; exact ⟨rfl, rfl⟩)); refine hK _ _ ?_; clear hK K)
    -- 15: t12
    refine stepK rfl (by kernel_rfl) (fun K hK => ?_); go_simp
    first | (refine hK _ _ ?_; clear hK K) | (apply Exists.intro; apply And.intro; (focus (intro wk hk; go_simp; exact ⟨rfl, rfl⟩)); refine hK _ _ ?_; clear hK K)
    -- 16: neq<4> t74, t75
    refine stepK rfl (by kernel_rfl) (fun K hK => ?_); go_simp
    first | (refine hK _ _ ?_; clear hK K) | (apply Exists.intro; apply And.intro; (focus (intro wk hk; go_simp; exact ⟨rfl, rfl⟩)); refine hK _ _ ?_; clear hK K)
    -- 17: pick t73 ? true : t76
    refine stepK rfl (by kernel_rfl) (fun K hK => ?_); go_simp
    apply Exists.intro; apply And.intro; (focus (intro wk hk; go_simp; exact ⟨rfl, rfl⟩)); refine hK _ _ ?_; clear hK K
    -- 18: t77
    refine stepK rfl (by kernel_rfl) (fun K hK => ?_); go_simp
    apply Exists.intro; apply And.intro; (focus (intro wk hk; go_simp; exact ⟨rfl, rfl⟩)); refine hK _ _ ?_; clear hK K
    -- 19: load<31> *t13
    refine stepK rfl (by kernel_rfl) (fun K hK => ?_); go_simp
    first | (refine hK _ _ ?_; clear hK K) | (apply Exists.intro; apply And.intro; (focus exact kLoad rfl rfl aggT31 r6 rfl id); refine hK _ _ ?_; clear hK K)
    -- 20: load<31> *t15
    refine stepK rfl (by kernel_rfl) (fun K hK => ?_); go_simp
    first | (refine hK _ _ ?_; clear hK K) | (apply Exists.intro; apply And.intro; (focus exact kLoad rfl rfl aggT31 r7 rfl id); refine hK _ _ ?_; clear hK K)
    -- 21: neq<31> t79, t80
    refine stepK rfl (by kernel_rfl) (fun K hK => ?_); go_simp
    first | (refine hK _ _ ?_; clear hK K) | (apply Exists.intro; apply And.intro; (focus (intro wk hk; go_simp; exact ⟨rfl, rfl⟩)); refine hK _ _ ?_; clear hK K)
    -- 22: pick t78 ? true : t81
    refine stepK rfl (by kernel_rfl) (fun K hK => ?_); go_simp
    apply Exists.intro; apply And.intro; (focus (intro wk hk; go_simp; exact ⟨rfl, rfl⟩)); refine hK _ _ ?_; clear hK K
    -- 23: t82
    refine stepK rfl (by kernel_rfl) (fun K hK => ?_); go_simp
    apply Exists.intro; apply And.intro; (focus (intro wk hk; go_simp; exact ⟨rfl, rfl⟩)); refine hK _ _ ?_; clear hK K
    -- 24: t14
    refine stepK rfl (by kernel_rfl) (fun K hK => ?_); go_simp
    first | (refine hK _ _ ?_; clear hK K) | (apply Exists.intro; apply And.intro; (focus (intro wk hk; go_simp; exact ⟨rfl, rfl⟩)); refine hK _ _ ?_; clear hK K)
    -- 25: t16
    refine stepK rfl (by kernel_rfl) (fun K hK => ?_); go_simp
    first | (refine hK _ _ ?_; clear hK K) | (apply Exists.intro; apply And.intro; (focus (intro wk hk; go_simp; exact ⟨rfl, rfl⟩)); refine hK _ _ ?_; clear hK K)
    -- 26: neq<4> t84, t85
    refine stepK rfl (by kernel_rfl) (fun K hK => ?_); go_simp
    first | (refine hK _ _ ?_; clear hK K) | (apply Exists.intro; apply And.intro; (focus (intro wk hk; go_simp; exact ⟨rfl, rfl⟩)); refine hK _ _ ?_; clear hK K)
    -- 27: pick t83 ? true : t86
    refine stepK rfl (by kernel_rfl) (fun K hK => ?_); go_simp
    apply Exists.intro; apply And.intro; (focus (intro wk hk; go_simp; exact ⟨rfl, rfl⟩)); refine hK _ _ ?_; clear hK K
    refine stepN ?_
    refine hQ _ _ ?_
    intro w7 hT hG hF
    have hbw7 := hT.below
    replace r0 := r0.below hbw7 r0.lt
    replace r1 := r1.below hbw7 r1.lt
    replace r2 := r2.below hbw7 r2.lt
    replace r3 := r3.below hbw7 r3.lt
    replace r4 := r4.below hbw7 r4.lt
    replace r5 := r5.below hbw7 r5.lt
    replace r6 := r6.below hbw7 r6.lt
    replace r7 := r7.below hbw7 r7.lt
    replace hl := hl.trans (hbw7.mono hl.size)
    clear hT hG hF hbw7 hQ QQ L 
    go_upto_region 9 with (fail)
    let L : List Sp := [sV 2 [] [] (fun u => u = .tuple #[.agg (W4 q), .agg (W4 r), .bool (zo)]), sA 7 31 [9] #[.int .u64 0, .int .u64 0, .int .u64 0, .int .u64 0], sA 8 31 [10] #[.int .u64 0, .int .u64 0, .int .u64 0, .int .u64 0], sT 9 7 31 [4] (fun g => aggOf g 4), sT 10 8 31 [5] (fun g => aggOf g 5)]
    refine wp_region_six0 (shs L) (look6 L) (None_) (by kernel_rfl) (by kernel_rfl) (mk_St L [] [] (by kernel_rfl) (by kernel_rfl) ⟨ok_V ⟨_, rfl⟩, ok_A, ok_A, ok_T aggOf_congr, ok_T aggOf_congr, trivial⟩ (by simp)) ?_
    intro QQ hQ
    -- 0: load<31> *t2
    refine stepK rfl (by kernel_rfl) (fun K hK => ?_); go_simp
    apply Exists.intro; apply And.intro; (focus exact kLoad rfl rfl aggT31 r0 rfl id); refine hK _ _ ?_; clear hK K
    -- 1: load<31> *t3
    refine stepK rfl (by kernel_rfl) (fun K hK => ?_); go_simp
    apply Exists.intro; apply And.intro; (focus exact kLoad rfl rfl aggT31 r1 rfl id); refine hK _ _ ?_; clear hK K
    -- 2: call F55(t89, t90)
    refine stepS _ rfl (by kernel_rfl) (fun K hK => ?_); go_simp
    refine ⟨?_, ?_⟩
    · intro wk hk hg hu; go_simp; refine upon_enter ((k6.out _).mono ?_); rintro e w' ⟨rfl, hb⟩; exact ⟨_, rfl, left_V (p := fun u => u = .tuple #[.agg (W4 q), .agg (W4 r), .bool (zo)]) rfl (hb) rfl⟩
    rintro ⟨v2, lo2, hi2⟩ - - (rfl : v2 = _)
    refine hK _ _ ?_; clear hK K
    -- 3: t91
    refine stepK rfl (by kernel_rfl) (fun K hK => ?_); go_simp
    apply Exists.intro; apply And.intro; (focus (intro wk hk; go_simp; exact ⟨rfl, rfl⟩)); refine hK _ _ ?_; clear hK K
    -- 4: extract t88 #0
    refine stepK rfl (by kernel_rfl) (fun K hK => ?_); go_simp
    apply Exists.intro; apply And.intro; (focus (intro wk hk; go_simp; exact ⟨rfl, rfl⟩)); refine hK _ _ ?_; clear hK K
    -- 5: extract t88 #1
    refine stepK rfl (by kernel_rfl) (fun K hK => ?_); go_simp
    apply Exists.intro; apply And.intro; (focus (intro wk hk; go_simp; exact ⟨rfl, rfl⟩)); refine hK _ _ ?_; clear hK K
    -- 6: extract t88 #2
    refine stepK rfl (by kernel_rfl) (fun K hK => ?_); go_simp
    apply Exists.intro; apply And.intro; (focus (intro wk hk; go_simp; exact ⟨rfl, rfl⟩)); refine hK _ _ ?_; clear hK K
    -- 7: alloc<31>
    refine stepS _ rfl (by kernel_rfl) (fun K hK => ?_); go_simp
    refine ⟨?_, ?_⟩
    · intro wk hk hg hu; go_simp; exact left_A rfl rfl
    rintro ⟨v7, lo9_7, hi7⟩ hlo7 hhi7 ⟨e7, f7⟩
    replace e7 : v7 = .pointer (some ⟨lo9_7, 0, none⟩) := e7; replace f7 : hi7 = lo9_7 + 1 := f7; replace hlo7 : _ ≤ lo9_7 := hlo7; subst e7; subst f7
    refine hK _ _ ?_; clear hK K
    -- 8: alloc<31>
    refine stepS _ rfl (by kernel_rfl) (fun K hK => ?_); go_simp
    refine ⟨?_, ?_⟩
    · intro wk hk hg hu; go_simp; exact left_A rfl rfl
    rintro ⟨v8, lo9_8, hi8⟩ hlo8 hhi8 ⟨e8, f8⟩
    replace e8 : v8 = .pointer (some ⟨lo9_8, 0, none⟩) := e8; replace f8 : hi8 = lo9_8 + 1 := f8; replace hlo8 : _ ≤ lo9_8 := hlo8; subst e8; subst f8
    refine hK _ _ ?_; clear hK K
    -- 9: store<31> *t17 = t92
    refine stepS _ rfl (by kernel_rfl) (fun K hK => ?_); go_simp
    refine ⟨?_, ?_⟩
    · exact sStoreT rfl rfl rfl rfl rfl rfl rfl (by kernel_rfl) rfl (by kernel_rfl) (by decide) aggOf_congr
    rintro ⟨v9, lo9, hi9⟩ - - (rfl : v9 = undef)
    refine hK _ _ ?_; clear hK K
    -- 10: store<31> *t18 = t93
    refine stepS _ rfl (by kernel_rfl) (fun K hK => ?_); go_simp
    refine ⟨?_, ?_⟩
    · exact sStoreT rfl rfl rfl rfl rfl rfl rfl (by kernel_rfl) rfl (by kernel_rfl) (by decide) aggOf_congr
    rintro ⟨v10, lo10, hi10⟩ - - (rfl : v10 = undef)
    refine hK _ _ ?_; clear hK K
    -- 11: assign t94
    refine stepK rfl (by kernel_rfl) (fun K hK => ?_); go_simp
    apply Exists.intro; apply And.intro; (focus (intro wk hk; go_simp; exact ⟨rfl, rfl⟩)); refine hK _ _ ?_; clear hK K
    refine stepN ?_
    refine hQ _ _ ?_
    intro w8 hT hG hF
    have nr8r0 : w.heap.size < lo9_7 := Nat.lt_of_lt_of_le r0.lt hlo7
    have nr8r1 : w.heap.size + 1 < lo9_7 := Nat.lt_of_lt_of_le r1.lt hlo7
    have nr8r2 : lo1_6 < lo9_7 := Nat.lt_of_lt_of_le r2.lt hlo7
    have nr8r3 : lo2_6 < lo9_7 := Nat.lt_of_lt_of_le r3.lt hlo7
    have nr8r4 : lo3_6 < lo9_7 := Nat.lt_of_lt_of_le r4.lt hlo7
    have nr8r5 : lo4_6 < lo9_7 := Nat.lt_of_lt_of_le r5.lt hlo7
    have nr8r6 : lo5_6 < lo9_7 := Nat.lt_of_lt_of_le r6.lt hlo7
    have nr8r7 : lo6_6 < lo9_7 := Nat.lt_of_lt_of_le r7.lt hlo7
    have nr9r0 : w.heap.size < lo9_8 := Nat.lt_of_lt_of_le r0.lt hlo8
    have nr9r1 : w.heap.size + 1 < lo9_8 := Nat.lt_of_lt_of_le r1.lt hlo8
    have nr9r2 : lo1_6 < lo9_8 := Nat.lt_of_lt_of_le r2.lt hlo8
    have nr9r3 : lo2_6 < lo9_8 := Nat.lt_of_lt_of_le r3.lt hlo8
    have nr9r4 : lo3_6 < lo9_8 := Nat.lt_of_lt_of_le r4.lt hlo8
    have nr9r5 : lo4_6 < lo9_8 := Nat.lt_of_lt_of_le r5.lt hlo8
    have nr9r6 : lo5_6 < lo9_8 := Nat.lt_of_lt_of_le r6.lt hlo8
    have nr9r7 : lo6_6 < lo9_8 := Nat.lt_of_lt_of_le r7.lt hlo8
    have hbw8 := hT.below
    have r8 : Row w8 lo9_7 31 ((W4 q)) := (hF 9 _ rfl rfl (by decide)).2
    have r9 : Row w8 lo9_8 31 ((W4 r)) := (hF 10 _ rfl rfl (by decide)).2
    replace r0 := r0.below hbw8 r0.lt
    replace r1 := r1.below hbw8 r1.lt
    replace r2 := r2.below hbw8 r2.lt
    replace r3 := r3.below hbw8 r3.lt
    replace r4 := r4.below hbw8 r4.lt
    replace r5 := r5.below hbw8 r5.lt
    replace r6 := r6.below hbw8 r6.lt
    replace r7 := r7.below hbw8 r7.lt
    replace hl := hl.trans (hbw8.mono hl.size)
    clear hT hG hF hbw8 hQ QQ L hlo7 hhi7 hlo8 hhi8
    go_upto_region 10 with (fail)
    let L : List Sp := [sV 2 [] [] (fun u => u = .tuple #[.agg (W4 q), .agg (W4 r), .bool (zo)]), sA 7 31 [9] #[.int .u64 0, .int .u64 0, .int .u64 0, .int .u64 0], sA 8 31 [10] #[.int .u64 0, .int .u64 0, .int .u64 0, .int .u64 0], sT 9 7 31 [4] (fun g => aggOf g 4), sT 10 8 31 [5] (fun g => aggOf g 5)]
    refine wp_region_six0 (shs L) (look6 L) (None_) (by kernel_rfl) (by kernel_rfl) (mk_St L [] [] (by kernel_rfl) (by kernel_rfl) ⟨ok_V ⟨_, rfl⟩, ok_A, ok_A, ok_T aggOf_congr, ok_T aggOf_congr, trivial⟩ (by simp)) ?_
    intro QQ hQ
    -- 0: load<31> *t2
    refine stepK rfl (by kernel_rfl) (fun K hK => ?_); go_simp
    apply Exists.intro; apply And.intro; (focus exact kLoad rfl rfl aggT31 r0 rfl id); refine hK _ _ ?_; clear hK K
    -- 1: load<31> *t3
    refine stepK rfl (by kernel_rfl) (fun K hK => ?_); go_simp
    apply Exists.intro; apply And.intro; (focus exact kLoad rfl rfl aggT31 r1 rfl id); refine hK _ _ ?_; clear hK K
    -- 2: call F56(t96, t97)
    refine stepS _ rfl (by kernel_rfl) (fun K hK => ?_); go_simp
    refine ⟨?_, ?_⟩
    · intro wk hk hg hu; go_simp; refine upon_enter ((k7.out _).mono ?_); rintro e w' ⟨rfl, hb⟩; exact ⟨_, rfl, left_V (p := fun u => u = .tuple #[.agg (W4 q), .agg (W4 r), .bool (zo)]) rfl (hb) rfl⟩
    rintro ⟨v2, lo2, hi2⟩ - - (rfl : v2 = _)
    refine hK _ _ ?_; clear hK K
    -- 3: t98
    refine stepK rfl (by kernel_rfl) (fun K hK => ?_); go_simp
    apply Exists.intro; apply And.intro; (focus (intro wk hk; go_simp; exact ⟨rfl, rfl⟩)); refine hK _ _ ?_; clear hK K
    -- 4: extract t95 #0
    refine stepK rfl (by kernel_rfl) (fun K hK => ?_); go_simp
    apply Exists.intro; apply And.intro; (focus (intro wk hk; go_simp; exact ⟨rfl, rfl⟩)); refine hK _ _ ?_; clear hK K
    -- 5: extract t95 #1
    refine stepK rfl (by kernel_rfl) (fun K hK => ?_); go_simp
    apply Exists.intro; apply And.intro; (focus (intro wk hk; go_simp; exact ⟨rfl, rfl⟩)); refine hK _ _ ?_; clear hK K
    -- 6: extract t95 #2
    refine stepK rfl (by kernel_rfl) (fun K hK => ?_); go_simp
    apply Exists.intro; apply And.intro; (focus (intro wk hk; go_simp; exact ⟨rfl, rfl⟩)); refine hK _ _ ?_; clear hK K
    -- 7: alloc<31>
    refine stepS _ rfl (by kernel_rfl) (fun K hK => ?_); go_simp
    refine ⟨?_, ?_⟩
    · intro wk hk hg hu; go_simp; exact left_A rfl rfl
    rintro ⟨v7, lo10_7, hi7⟩ hlo7 hhi7 ⟨e7, f7⟩
    replace e7 : v7 = .pointer (some ⟨lo10_7, 0, none⟩) := e7; replace f7 : hi7 = lo10_7 + 1 := f7; replace hlo7 : _ ≤ lo10_7 := hlo7; subst e7; subst f7
    refine hK _ _ ?_; clear hK K
    -- 8: alloc<31>
    refine stepS _ rfl (by kernel_rfl) (fun K hK => ?_); go_simp
    refine ⟨?_, ?_⟩
    · intro wk hk hg hu; go_simp; exact left_A rfl rfl
    rintro ⟨v8, lo10_8, hi8⟩ hlo8 hhi8 ⟨e8, f8⟩
    replace e8 : v8 = .pointer (some ⟨lo10_8, 0, none⟩) := e8; replace f8 : hi8 = lo10_8 + 1 := f8; replace hlo8 : _ ≤ lo10_8 := hlo8; subst e8; subst f8
    refine hK _ _ ?_; clear hK K
    -- 9: store<31> *t20 = t99
    refine stepS _ rfl (by kernel_rfl) (fun K hK => ?_); go_simp
    refine ⟨?_, ?_⟩
    · exact sStoreT rfl rfl rfl rfl rfl rfl rfl (by kernel_rfl) rfl (by kernel_rfl) (by decide) aggOf_congr
    rintro ⟨v9, lo9, hi9⟩ - - (rfl : v9 = undef)
    refine hK _ _ ?_; clear hK K
    -- 10: store<31> *t21 = t100
    refine stepS _ rfl (by kernel_rfl) (fun K hK => ?_); go_simp
    refine ⟨?_, ?_⟩
    · exact sStoreT rfl rfl rfl rfl rfl rfl rfl (by kernel_rfl) rfl (by kernel_rfl) (by decide) aggOf_congr
    rintro ⟨v10, lo10, hi10⟩ - - (rfl : v10 = undef)
    refine hK _ _ ?_; clear hK K
    -- 11: assign t101
    refine stepK rfl (by kernel_rfl) (fun K hK => ?_); go_simp
    apply Exists.intro; apply And.intro; (focus (intro wk hk; go_simp; exact ⟨rfl, rfl⟩)); refine hK _ _ ?_; clear hK K
    refine stepN ?_
    refine hQ _ _ ?_
    intro w9 hT hG hF
    have nr10r0 : w.heap.size < lo10_7 := Nat.lt_of_lt_of_le r0.lt hlo7
    have nr10r1 : w.heap.size + 1 < lo10_7 := Nat.lt_of_lt_of_le r1.lt hlo7
    have nr10r2 : lo1_6 < lo10_7 := Nat.lt_of_lt_of_le r2.lt hlo7
    have nr10r3 : lo2_6 < lo10_7 := Nat.lt_of_lt_of_le r3.lt hlo7
    have nr10r4 : lo3_6 < lo10_7 := Nat.lt_of_lt_of_le r4.lt hlo7
    have nr10r5 : lo4_6 < lo10_7 := Nat.lt_of_lt_of_le r5.lt hlo7
    have nr10r6 : lo5_6 < lo10_7 := Nat.lt_of_lt_of_le r6.lt hlo7
    have nr10r7 : lo6_6 < lo10_7 := Nat.lt_of_lt_of_le r7.lt hlo7
    have nr10r8 : lo9_7 < lo10_7 := Nat.lt_of_lt_of_le r8.lt hlo7
    have nr10r9 : lo9_8 < lo10_7 := Nat.lt_of_lt_of_le r9.lt hlo7
    have nr11r0 : w.heap.size < lo10_8 := Nat.lt_of_lt_of_le r0.lt hlo8
    have nr11r1 : w.heap.size + 1 < lo10_8 := Nat.lt_of_lt_of_le r1.lt hlo8
    have nr11r2 : lo1_6 < lo10_8 := Nat.lt_of_lt_of_le r2.lt hlo8
    have nr11r3 : lo2_6 < lo10_8 := Nat.lt_of_lt_of_le r3.lt hlo8
    have nr11r4 : lo3_6 < lo10_8 := Nat.lt_of_lt_of_le r4.lt hlo8
    have nr11r5 : lo4_6 < lo10_8 := Nat.lt_of_lt_of_le r5.lt hlo8
    have nr11r6 : lo5_6 < lo10_8 := Nat.lt_of_lt_of_le r6.lt hlo8
    have nr11r7 : lo6_6 < lo10_8 := Nat.lt_of_lt_of_le r7.lt hlo8
    have nr11r8 : lo9_7 < lo10_8 := Nat.lt_of_lt_of_le r8.lt hlo8
    have nr11r9 : lo9_8 < lo10_8 := Nat.lt_of_lt_of_le r9.lt hlo8
    have hbw9 := hT.below
    have r10 : Row w9 lo10_7 31 ((W4 q)) := (hF 9 _ rfl rfl (by decide)).2
    have r11 : Row w9 lo10_8 31 ((W4 r)) := (hF 10 _ rfl rfl (by decide)).2
    replace r0 := r0.below hbw9 r0.lt
    replace r1 := r1.below hbw9 r1.lt
    replace r2 := r2.below hbw9 r2.lt
    replace r3 := r3.below hbw9 r3.lt
    replace r4 := r4.below hbw9 r4.lt
    replace r5 := r5.below hbw9 r5.lt
    replace r6 := r6.below hbw9 r6.lt
    replace r7 := r7.below hbw9 r7.lt
    replace r8 := r8.below hbw9 r8.lt
    replace r9 := r9.below hbw9 r9.lt
    replace hl := hl.trans (hbw9.mono hl.size)
    clear hT hG hF hbw9 hQ QQ L hlo7 hhi7 hlo8 hhi8
    go_upto_region 11 with (fail)
    let L : List Sp := [sA 1 31 [2] #[.int .u64 0, .int .u64 0, .int .u64 0, .int .u64 0], sT 2 1 31 [0] (fun g => aggOf g 0)]
    refine wp_region_six0 (shs L) (look6 L) (None_) (by kernel_rfl) (by kernel_rfl) (mk_St L [] [] (by kernel_rfl) (by kernel_rfl) ⟨ok_A, ok_T aggOf_congr, trivial⟩ (by simp)) ?_
    intro QQ hQ
    -- 0: load<31> *t2
    refine stepK rfl (by kernel_rfl) (fun K hK => ?_); go_simp
    apply Exists.intro; apply And.intro; (focus exact kLoad rfl rfl aggT31 r0 rfl id); refine hK _ _ ?_; clear hK K
    -- 1: alloc<31>
    refine stepS _ rfl (by kernel_rfl) (fun K hK => ?_); go_simp
    refine ⟨?_, ?_⟩
    · intro wk hk hg hu; go_simp; exact left_A rfl rfl
    rintro ⟨v1, lo11_1, hi1⟩ hlo1 hhi1 ⟨e1, f1⟩
    replace e1 : v1 = .pointer (some ⟨lo11_1, 0, none⟩) := e1; replace f1 : hi1 = lo11_1 + 1 := f1; replace hlo1 : _ ≤ lo11_1 := hlo1; subst e1; subst f1
    refine hK _ _ ?_; clear hK K
    -- 2: store<31> *t23 = t102
    refine stepS _ rfl (by kernel_rfl) (fun K hK => ?_); go_simp
    refine ⟨?_, ?_⟩
    · exact sStoreT rfl rfl rfl rfl rfl rfl rfl (by kernel_rfl) rfl (by kernel_rfl) (by decide) aggOf_congr
    rintro ⟨v2, lo2, hi2⟩ - - (rfl : v2 = undef)
    refine hK _ _ ?_; clear hK K
    refine stepN ?_
    refine hQ _ _ ?_
    intro w10 hT hG hF
    have nr12r0 : w.heap.size < lo11_1 := Nat.lt_of_lt_of_le r0.lt hlo1
    have nr12r1 : w.heap.size + 1 < lo11_1 := Nat.lt_of_lt_of_le r1.lt hlo1
    have nr12r2 : lo1_6 < lo11_1 := Nat.lt_of_lt_of_le r2.lt hlo1
    have nr12r3 : lo2_6 < lo11_1 := Nat.lt_of_lt_of_le r3.lt hlo1
    have nr12r4 : lo3_6 < lo11_1 := Nat.lt_of_lt_of_le r4.lt hlo1
    have nr12r5 : lo4_6 < lo11_1 := Nat.lt_of_lt_of_le r5.lt hlo1
    have nr12r6 : lo5_6 < lo11_1 := Nat.lt_of_lt_of_le r6.lt hlo1
    have nr12r7 : lo6_6 < lo11_1 := Nat.lt_of_lt_of_le r7.lt hlo1
    have nr12r8 : lo9_7 < lo11_1 := Nat.lt_of_lt_of_le r8.lt hlo1
    have nr12r9 : lo9_8 < lo11_1 := Nat.lt_of_lt_of_le r9.lt hlo1
    have nr12r10 : lo10_7 < lo11_1 := Nat.lt_of_lt_of_le r10.lt hlo1
    have nr12r11 : lo10_8 < lo11_1 := Nat.lt_of_lt_of_le r11.lt hlo1
    have hbw10 := hT.below
    have r12 : Row w10 lo11_1 31 ((W4 a)) := (hF 2 _ rfl rfl (by decide)).2
    replace r0 := r0.below hbw10 r0.lt
    replace r1 := r1.below hbw10 r1.lt
    replace r2 := r2.below hbw10 r2.lt
    replace r3 := r3.below hbw10 r3.lt
    replace r4 := r4.below hbw10 r4.lt
    replace r5 := r5.below hbw10 r5.lt
    replace r6 := r6.below hbw10 r6.lt
    replace r7 := r7.below hbw10 r7.lt
    replace r8 := r8.below hbw10 r8.lt
    replace r9 := r9.below hbw10 r9.lt
    replace r10 := r10.below hbw10 r10.lt
    replace r11 := r11.below hbw10 r11.lt
    replace hl := hl.trans (hbw10.mono hl.size)
    clear hT hG hF hbw10 hQ QQ L hlo1 hhi1
    go_upto_region 12 with (fail)
    let L : List Sp := [sV 2 [] [] (fun u => u = .int .i64 e)]
    refine wp_region_six0 (shs L) (look6 L) (None_) (by kernel_rfl) (by kernel_rfl) (mk_St L [] [] (by kernel_rfl) (by kernel_rfl) ⟨ok_V ⟨_, rfl⟩, trivial⟩ (by simp)) ?_
    intro QQ hQ
    -- 0: load<31> *t3
    refine stepK rfl (by kernel_rfl) (fun K hK => ?_); go_simp
    apply Exists.intro; apply And.intro; (focus exact kLoad rfl rfl aggT31 r1 rfl id); refine hK _ _ ?_; clear hK K
    -- 1: load<31> *t2
    refine stepK rfl (by kernel_rfl) (fun K hK => ?_); go_simp
    apply Exists.intro; apply And.intro; (focus exact kLoad rfl rfl aggT31 r0 rfl id); refine hK _ _ ?_; clear hK K
    -- 2: call F57(t103, t104)
    refine stepS _ rfl (by kernel_rfl) (fun K hK => ?_); go_simp
    refine ⟨?_, ?_⟩
    · intro wk hk hg hu; go_simp; refine upon_enter ((k8.out _).mono ?_); rintro e w' ⟨rfl, hb⟩; exact ⟨_, rfl, left_V (p := fun u => u = .int .i64 e) rfl (hb) rfl⟩
    rintro ⟨v2, lo2, hi2⟩ - - (rfl : v2 = _)
    refine hK _ _ ?_; clear hK K
    -- 3: lss<3> t105, 0
    refine stepK rfl (by kernel_rfl) (fun K hK => ?_); go_simp
    apply Exists.intro; apply And.intro; (focus (intro wk hk; go_simp; exact ⟨rfl, rfl⟩)); refine hK _ _ ?_; clear hK K
    refine stepN ?_
    refine hQ _ _ ?_
    intro w11 hT hG hF
    have hbw11 := hT.below
    replace r0 := r0.below hbw11 r0.lt
    replace r1 := r1.below hbw11 r1.lt
    replace r2 := r2.below hbw11 r2.lt
    replace r3 := r3.below hbw11 r3.lt
    replace r4 := r4.below hbw11 r4.lt
    replace r5 := r5.below hbw11 r5.lt
    replace r6 := r6.below hbw11 r6.lt
    replace r7 := r7.below hbw11 r7.lt
    replace r8 := r8.below hbw11 r8.lt
    replace r9 := r9.below hbw11 r9.lt
    replace r10 := r10.below hbw11 r10.lt
    replace r11 := r11.below hbw11 r11.lt
    replace r12 := r12.below hbw11 r12.lt
    replace hl := hl.trans (hbw11.mono hl.size)
    clear hT hG hF hbw11 hQ QQ L 
    go_upto_region 13 with (fail)
    let L : List Sp := [sO 1 (lo11_1) 31 [0] (fun g => aggOf g 0)]
    refine wp_region_six0 (shs L) (look6 L) (fun c => c = lo11_1) (by kernel_rfl) (by kernel_rfl) (mk_St L [1] [1] (by kernel_rfl) (by kernel_rfl) ⟨ok_O aggOf_congr r12.lt (rfl), trivial⟩ (by simp)) ?_
    intro QQ hQ
    -- 0: load<31> *t3
    refine stepK rfl (by kernel_rfl) (fun K hK => ?_); go_simp
    apply Exists.intro; apply And.intro; (focus exact kLoad rfl rfl aggT31 r1 rfl id); refine hK _ _ ?_; clear hK K
    -- 1: store<31> *t23 = t107
    refine stepS _ rfl (by kernel_rfl) (fun K hK => ?_); go_simp
    refine ⟨?_, ?_⟩
    · exact sStoreO rfl rfl rfl rfl rfl rfl r12 id (by kernel_rfl) rfl (by kernel_rfl) (by decide) aggOf_congr
    rintro ⟨v1, lo1, hi1⟩ - - (rfl : v1 = undef)
    refine hK _ _ ?_; clear hK K
    refine stepN ?_
    refine hQ _ _ ?_
    intro w12 hT hG hF
    have hT' := hT
    have xr12 : Row w12 (lo11_1) 31 ((W4 b)) := hF 1 _ rfl rfl (by decide)
    have hl9 : Below w.heap.size w w12 := hl.trans (hT'.below_of hl.size (by intro c hc; omega))
    replace r0 := K6.Row.tr r0 hT' (by show ¬ (w.heap.size = lo11_1); omega)
    replace r1 := K6.Row.tr r1 hT' (by show ¬ (w.heap.size + 1 = lo11_1); omega)
    replace r2 := K6.Row.tr r2 hT' (by show ¬ (lo1_6 = lo11_1); omega)
    replace r3 := K6.Row.tr r3 hT' (by show ¬ (lo2_6 = lo11_1); omega)
    replace r4 := K6.Row.tr r4 hT' (by show ¬ (lo3_6 = lo11_1); omega)
    replace r5 := K6.Row.tr r5 hT' (by show ¬ (lo4_6 = lo11_1); omega)
    replace r6 := K6.Row.tr r6 hT' (by show ¬ (lo5_6 = lo11_1); omega)
    replace r7 := K6.Row.tr r7 hT' (by show ¬ (lo6_6 = lo11_1); omega)
    replace r8 := K6.Row.tr r8 hT' (by show ¬ (lo9_7 = lo11_1); omega)
    replace r9 := K6.Row.tr r9 hT' (by show ¬ (lo9_8 = lo11_1); omega)
    replace r10 := K6.Row.tr r10 hT' (by show ¬ (lo10_7 = lo11_1); omega)
    replace r11 := K6.Row.tr r11 hT' (by show ¬ (lo10_8 = lo11_1); omega)
    clear hT hT' hG hF hQ QQ L hl r12
    have hl := hl9; clear hl9
    have r12 := xr12; clear xr12
    go_upto_region 14 with (fail)
    let L : List Sp := [sV 16 [] [] (fun u => u = .int .i64 c), sV 19 [] [] (fun u => u = .int .i64 c), sV 25 [] [] (fun u => u = .agg (W4 b)), sV 30 [] [] (fun u => u = .bool true)]
    refine wp_region_six (shs L) (look6 L) (None_) (by kernel_rfl) (by kernel_rfl) (mk_St L [] [] (by kernel_rfl) (by kernel_rfl) ⟨ok_V ⟨_, rfl⟩, ok_V ⟨_, rfl⟩, ok_V ⟨_, rfl⟩, ok_V ⟨_, rfl⟩, trivial⟩ (by simp)) ?_
    intro QQ hQ
    -- 0: load<31> *t17
    refine stepK rfl (by kernel_rfl) (fun K hK => ?_); go_simp
    apply Exists.intro; apply And.intro; (focus exact kLoad rfl rfl aggT31 r8 rfl id); refine hK _ _ ?_; clear hK K
    -- 1: load<31> *t20
    refine stepK rfl (by kernel_rfl) (fun K hK => ?_); go_simp
    apply Exists.intro; apply And.intro; (focus exact kLoad rfl rfl aggT31 r10 rfl id); refine hK _ _ ?_; clear hK K
    -- 2: eql<31> t108, t109
    refine stepK rfl (by kernel_rfl) (fun K hK => ?_); go_simp
    apply Exists.intro; apply And.intro; (focus (intro wk hk; go_simp; exact ⟨rfl, rfl⟩)); refine hK _ _ ?_; clear hK K
    -- 3: t110
    refine stepK rfl (by kernel_rfl) (fun K hK => ?_); go_simp
    apply Exists.intro; apply And.intro; (focus (intro wk hk; go_simp; exact ⟨rfl, rfl⟩)); refine hK _ _ ?_; clear hK K
    -- 4: load<31> *t18
    refine stepK rfl (by kernel_rfl) (fun K hK => ?_); go_simp
    first | (refine hK _ _ ?_; clear hK K) | (apply Exists.intro; apply And.intro; (focus exact kLoad rfl rfl aggT31 r9 rfl id); refine hK _ _ ?_; clear hK K)
    -- 5: load<31> *t21
    refine stepK rfl (by kernel_rfl) (fun K hK => ?_); go_simp
    first | (refine hK _ _ ?_; clear hK K) | (apply Exists.intro; apply And.intro; (focus exact kLoad rfl rfl aggT31 r11 rfl id); refine hK _ _ ?_; clear hK K)
    -- 6: eql<31> t112, t113
    refine stepK rfl (by kernel_rfl) (fun K hK => ?_); go_simp
    first | (refine hK _ _ ?_; clear hK K) | (apply Exists.intro; apply And.intro; (focus (intro wk hk; go_simp; exact ⟨rfl, rfl⟩)); refine hK _ _ ?_; clear hK K)
    -- 7: pick t111 ? t114 : false
    refine stepK rfl (by kernel_rfl) (fun K hK => ?_); go_simp
    apply Exists.intro; apply And.intro; (focus (intro wk hk; go_simp; exact ⟨rfl, rfl⟩)); refine hK _ _ ?_; clear hK K
    -- 8: t115
    refine stepK rfl (by kernel_rfl) (fun K hK => ?_); go_simp
    apply Exists.intro; apply And.intro; (focus (intro wk hk; go_simp; exact ⟨rfl, rfl⟩)); refine hK _ _ ?_; clear hK K
    -- 9: t19
    refine stepK rfl (by kernel_rfl) (fun K hK => ?_); go_simp
    first | (refine hK _ _ ?_; clear hK K) | (apply Exists.intro; apply And.intro; (focus (intro wk hk; go_simp; exact ⟨rfl, rfl⟩)); refine hK _ _ ?_; clear hK K)
    -- 10: t22
    refine stepK rfl (by kernel_rfl) (fun K hK => ?_); go_simp
    first | (refine hK _ _ ?_; clear hK K) | (apply Exists.intro; apply And.intro; (focus (intro wk hk; go_simp; exact ⟨rfl, rfl⟩)); refine hK _ _ ?_; clear hK K)
    -- 11: eql<4> t117, t118
    refine stepK rfl (by kernel_rfl) (fun K hK => ?_); go_simp
    first | (refine hK _ _ ?_; clear hK K) | (apply Exists.intro; apply And.intro; (focus (intro wk hk; go_simp; exact ⟨rfl, rfl⟩)); refine hK _ _ ?_; clear hK K)
    -- 12: pick t116 ? t119 : false
    refine stepK rfl (by kernel_rfl) (fun K hK => ?_); go_simp
    apply Exists.intro; apply And.intro; (focus (intro wk hk; go_simp; exact ⟨rfl, rfl⟩)); refine hK _ _ ?_; clear hK K
    -- 13: t120
    refine stepK rfl (by kernel_rfl) (fun K hK => ?_); go_simp
    apply Exists.intro; apply And.intro; (focus (intro wk hk; go_simp; exact ⟨rfl, rfl⟩)); refine hK _ _ ?_; clear hK K
    -- 14: load<31> *t2
    refine stepK rfl (by kernel_rfl) (fun K hK => ?_); go_simp
    first | (refine hK _ _ ?_; clear hK K) | (apply Exists.intro; apply And.intro; (focus exact kLoad rfl rfl aggT31 r0 rfl id); refine hK _ _ ?_; clear hK K)
    -- 15: load<31> *t3
    refine stepK rfl (by kernel_rfl) (fun K hK => ?_); go_simp
    first | (refine hK _ _ ?_; clear hK K) | (apply Exists.intro; apply And.intro; (focus exact kLoad rfl rfl aggT31 r1 rfl id); refine hK _ _ ?_; clear hK K)
    -- 16: call F48(t122, t123)
    refine stepS _ rfl (by kernel_rfl) (fun K hK => ?_); go_simp
    refine ⟨?_, ?_⟩
    · intro wk hk hg hu; go_simp; refine upon_enter ((k9.out _).mono ?_); rintro e w' ⟨rfl, hb⟩; exact ⟨_, rfl, left_V (p := fun u => u = .int .i64 c) rfl (hb) rfl⟩
    rintro ⟨v16, lo16, hi16⟩ - - (rfl : v16 = _)
    refine hK _ _ ?_; clear hK K
    -- 17: load<31> *t2
    refine stepK rfl (by kernel_rfl) (fun K hK => ?_); go_simp
    first | (refine hK _ _ ?_; clear hK K) | (apply Exists.intro; apply And.intro; (focus exact kLoad rfl rfl aggT31 r0 rfl id); refine hK _ _ ?_; clear hK K)
    -- 18: load<31> *t3
    refine stepK rfl (by kernel_rfl) (fun K hK => ?_); go_simp
    first | (refine hK _ _ ?_; clear hK K) | (apply Exists.intro; apply And.intro; (focus exact kLoad rfl rfl aggT31 r1 rfl id); refine hK _ _ ?_; clear hK K)
    -- 19: call F57(t125, t126)
    refine stepS _ rfl (by kernel_rfl) (fun K hK => ?_); go_simp
    refine ⟨?_, ?_⟩
    · intro wk hk hg hu; go_simp; refine upon_enter ((k10.out _).mono ?_); rintro e w' ⟨rfl, hb⟩; exact ⟨_, rfl, left_V (p := fun u => u = .int .i64 c) rfl (hb) rfl⟩
    rintro ⟨v19, lo19, hi19⟩ - - (rfl : v19 = _)
    refine hK _ _ ?_; clear hK K
    -- 20: eql<3> t124, t127
    refine stepK rfl (by kernel_rfl) (fun K hK => ?_); go_simp
    first | (refine hK _ _ ?_; clear hK K) | (apply Exists.intro; apply And.intro; (focus (intro wk hk; go_simp; exact ⟨rfl, rfl⟩)); refine hK _ _ ?_; clear hK K)
    -- 21: pick t121 ? t128 : false
    refine stepK rfl (by kernel_rfl) (fun K hK => ?_); go_simp
    apply Exists.intro; apply And.intro; (focus (intro wk hk; go_simp; exact ⟨rfl, rfl⟩)); refine hK _ _ ?_; clear hK K
    -- 22: t129
    refine stepK rfl (by kernel_rfl) (fun K hK => ?_); go_simp
    apply Exists.intro; apply And.intro; (focus (intro wk hk; go_simp; exact ⟨rfl, rfl⟩)); refine hK _ _ ?_; clear hK K
    -- 23: load<31> *t2
    refine stepK rfl (by kernel_rfl) (fun K hK => ?_); go_simp
    first | (refine hK _ _ ?_; clear hK K) | (apply Exists.intro; apply And.intro; (focus exact kLoad rfl rfl aggT31 r0 rfl id); refine hK _ _ ?_; clear hK K)
    -- 24: load<31> *t3
    refine stepK rfl (by kernel_rfl) (fun K hK => ?_); go_simp
    first | (refine hK _ _ ?_; clear hK K) | (apply Exists.intro; apply And.intro; (focus exact kLoad rfl rfl aggT31 r1 rfl id); refine hK _ _ ?_; clear hK K)
    -- 25: call F58(t131, t132)
    refine stepS _ rfl (by kernel_rfl) (fun K hK => ?_); go_simp
    refine ⟨?_, ?_⟩
    · intro wk hk hg hu; go_simp; refine upon_enter ((k11.out _).mono ?_); rintro e w' ⟨rfl, hb⟩; exact ⟨_, rfl, left_V (p := fun u => u = .agg (W4 b)) rfl (hb) rfl⟩
    rintro ⟨v25, lo25, hi25⟩ - - (rfl : v25 = _)
    refine hK _ _ ?_; clear hK K
    -- 26: load<31> *t23
    refine stepK rfl (by kernel_rfl) (fun K hK => ?_); go_simp
    first | (refine hK _ _ ?_; clear hK K) | (apply Exists.intro; apply And.intro; (focus exact kLoad rfl rfl aggT31 r12 rfl id); refine hK _ _ ?_; clear hK K)
    -- 27: eql<31> t133, t134
    refine stepK rfl (by kernel_rfl) (fun K hK => ?_); go_simp
    first | (refine hK _ _ ?_; clear hK K) | (apply Exists.intro; apply And.intro; (focus (intro wk hk; go_simp; exact ⟨rfl, rfl⟩)); refine hK _ _ ?_; clear hK K)
    -- 28: pick t130 ? t135 : false
    refine stepK rfl (by kernel_rfl) (fun K hK => ?_); go_simp
    apply Exists.intro; apply And.intro; (focus (intro wk hk; go_simp; exact ⟨rfl, rfl⟩)); refine hK _ _ ?_; clear hK K
    -- 29: t136
    refine stepK rfl (by kernel_rfl) (fun K hK => ?_); go_simp
    apply Exists.intro; apply And.intro; (focus (intro wk hk; go_simp; exact ⟨rfl, rfl⟩)); refine hK _ _ ?_; clear hK K
    -- 30: call F50()
    refine stepS _ rfl (by kernel_rfl) (fun K hK => ?_); go_simp
    refine ⟨?_, ?_⟩
    · intro wk hk hg hu; go_simp; refine upon_enter ((k12.out _).mono ?_); rintro e w' ⟨rfl, hb⟩; exact ⟨_, rfl, left_V (p := fun u => u = .bool true) rfl (hb) rfl⟩
    rintro ⟨v30, lo30, hi30⟩ - - (rfl : v30 = _)
    refine hK _ _ ?_; clear hK K
    -- 31: pick t137 ? t138 : false
    refine stepK rfl (by kernel_rfl) (fun K hK => ?_); go_simp
    apply Exists.intro; apply And.intro; (focus (intro wk hk; go_simp; exact ⟨rfl, rfl⟩)); refine hK _ _ ?_; clear hK K
    -- 32: assign t139
    refine stepK rfl (by kernel_rfl) (fun K hK => ?_); go_simp
    apply Exists.intro; apply And.intro; (focus (intro wk hk; go_simp; exact ⟨rfl, rfl⟩)); refine hK _ _ ?_; clear hK K
    refine stepN ?_
    refine hQ _ _ ?_
    intro w13 hT hG hF
    have hbw13 := hT.undrew.below
    replace r0 := r0.below hbw13 r0.lt
    replace r1 := r1.below hbw13 r1.lt
    replace r2 := r2.below hbw13 r2.lt
    replace r3 := r3.below hbw13 r3.lt
    replace r4 := r4.below hbw13 r4.lt
    replace r5 := r5.below hbw13 r5.lt
    replace r6 := r6.below hbw13 r6.lt
    replace r7 := r7.below hbw13 r7.lt
    replace r8 := r8.below hbw13 r8.lt
    replace r9 := r9.below hbw13 r9.lt
    replace r10 := r10.below hbw13 r10.lt
    replace r11 := r11.below hbw13 r11.lt
    replace r12 := r12.below hbw13 r12.lt
    replace hl := hl.trans (hbw13.mono hl.size)
    clear hT hG hF hbw13 hQ QQ L 
    go_wp2_with fail
    go_ret
    exact ⟨rfl, hl⟩
  · have he0 : 0 ≤ e := by rw [he]; unfold cmpN; rw [if_neg hlt]; split <;> omega
    have hm : (if a ≤ b then a else b) = a := if_pos (by omega)
    clear hlt
    have k0 := Lib.hid (show ∀ wx, Calls Try.prog 46 #[.agg (W4 a), .agg (W4 b)] wx (Ret wx (.tuple #[.agg (W4 s), .bool (so)])) from fun wx => by have h := addU ha hb wx; rw [← hs, ← hso] at h; exact h)
    have k1 := Lib.hid (show ∀ wx, Calls Try.prog 51 #[.agg (W4 a), .agg (W4 b)] wx (Ret wx (.tuple #[.agg (W4 s), .bool (so)])) from fun wx => by have h := refaddU ha hb wx; rw [← hs, ← hso] at h; exact h)
    have k2 := Lib.hid (show ∀ wx, Calls Try.prog 52 #[.agg (W4 a), .agg (W4 b)] wx (Ret wx (.tuple #[.agg (W4 d), .bool (dd)])) from fun wx => by have h := subU ha hb wx; rw [← hd, ← hdd] at h; exact h)
    have k3 := Lib.hid (show ∀ wx, Calls Try.prog 53 #[.agg (W4 a), .agg (W4 b)] wx (Ret wx (.tuple #[.agg (W4 d), .bool (dd)])) from fun wx => by have h := refsubU ha hb wx; rw [← hd, ← hdd] at h; exact h)
    have k4 := Lib.hid (show ∀ wx, Calls Try.prog 47 #[.agg (W4 a), .agg (W4 b)] wx (Ret wx (.tuple #[.agg (W4 p), .bool (po)])) from fun wx => by have h := mulU ha hb wx; rw [← hp, ← hpo] at h; exact h)
    have k5 := Lib.hid (show ∀ wx, Calls Try.prog 54 #[.agg (W4 a), .agg (W4 b)] wx (Ret wx (.tuple #[.agg (W4 p), .bool (po)])) from fun wx => by have h := refmulU ha hb wx; rw [← hp, ← hpo] at h; exact h)
    have k6 := Lib.hid (show ∀ wx, Calls Try.prog 55 #[.agg (W4 a), .agg (W4 b)] wx (Ret wx (.tuple #[.agg (W4 q), .agg (W4 r), .bool (zo)])) from fun wx => by have h := divU ha hb wx; rw [← hq, ← hr, ← hzo] at h; exact h)
    have k7 := Lib.hid (show ∀ wx, Calls Try.prog 56 #[.agg (W4 a), .agg (W4 b)] wx (Ret wx (.tuple #[.agg (W4 q), .agg (W4 r), .bool (zo)])) from fun wx => by have h := refdivU ha hb wx; rw [← hq, ← hr, ← hzo] at h; exact h)
    have k8 := Lib.hid (show ∀ wx, Calls Try.prog 57 #[.agg (W4 b), .agg (W4 a)] wx (Ret wx (.int .i64 e)) from fun wx => by have h := refcmpU hb ha wx; rw [← he] at h; exact h)
    have k9 := Lib.hid (show ∀ wx, Calls Try.prog 48 #[.agg (W4 a), .agg (W4 b)] wx (Ret wx (.int .i64 c)) from fun wx => by have h := cmpU ha hb wx; rw [← hc] at h; exact h)
    have k10 := Lib.hid (show ∀ wx, Calls Try.prog 57 #[.agg (W4 a), .agg (W4 b)] wx (Ret wx (.int .i64 c)) from fun wx => by have h := refcmpU ha hb wx; rw [← hc] at h; exact h)
    have k11 := Lib.hid (show ∀ wx, Calls Try.prog 58 #[.agg (W4 a), .agg (W4 b)] wx (Ret wx (.agg (W4 a))) from fun wx => by have h := minU ha hb wx; rw [hm] at h; exact h)
    have k12 := Lib.hid (show ∀ wx, Calls Try.prog 50 #[] wx (Ret wx (.bool true)) from fun wx => by have h := lives1U  wx; exact h)
    have q0 : ∀ wx, (Op.equalIn 10000 31 (.agg (W4 s)) (.agg (W4 s))).run Try.prog wx = .ok true wx := fun wx => by rw [eqU sl sl, decide_eq_true rfl]
    have q1 : ∀ wx, (Op.equalIn 10000 31 (.agg (W4 d)) (.agg (W4 d))).run Try.prog wx = .ok true wx := fun wx => by rw [eqU dl dl, decide_eq_true rfl]
    have q2 : ∀ wx, (Op.equalIn 10000 31 (.agg (W4 p)) (.agg (W4 p))).run Try.prog wx = .ok true wx := fun wx => by rw [eqU pl pl, decide_eq_true rfl]
    have q3 : ∀ wx, (Op.equalIn 10000 31 (.agg (W4 q)) (.agg (W4 q))).run Try.prog wx = .ok true wx := fun wx => by rw [eqU ql ql, decide_eq_true rfl]
    have q4 : ∀ wx, (Op.equalIn 10000 31 (.agg (W4 r)) (.agg (W4 r))).run Try.prog wx = .ok true wx := fun wx => by rw [eqU rl rl, decide_eq_true rfl]
    have q5 : ∀ wx, (Op.equalIn 10000 31 (.agg (W4 a)) (.agg (W4 a))).run Try.prog wx = .ok true wx := fun wx => by rw [eqU ha ha, decide_eq_true rfl]
    clear hs hso hd hdd hp hpo hq hr hzo he hc hm
    go_enter Try.func6, Try.ntmps6
    apply wp_seq_eq
    focus
      intro J hJ
      go_wp2_with fail
      exact hJ
    refine wp_abs (Mem w [(w.heap.size, 31, W4 a), (w.heap.size + 1, 31, W4 b)]) ⟨by go_grown, ?_, ?_, trivial⟩ ?_
    · repeat (first | (refine Row.new_at ?_; simp; done) | refine Row.alloc ?_ _)
    · repeat (first | (refine Row.new_at ?_; simp; done) | refine Row.alloc ?_ _)
    intro w0 hM
    obtain ⟨hl, r0, r1, -⟩ := hM
    go_upto_region 1 with (fail)
    let L : List Sp := [sV 2 [] [] (fun u => u = .tuple #[.agg (W4 s), .bool (so)]), sA 6 31 [7] #[.int .u64 0, .int .u64 0, .int .u64 0, .int .u64 0], sT 7 6 31 [4] (fun g => aggOf g 4)]
    refine wp_region_six0 (shs L) (look6 L) (None_) (by kernel_rfl) (by kernel_rfl) (mk_St L [] [] (by kernel_rfl) (by kernel_rfl) ⟨ok_V ⟨_, rfl⟩, ok_A, ok_T aggOf_congr, trivial⟩ (by simp)) ?_
    intro QQ hQ
    -- 0: load<31> *t2
    refine stepK rfl (by kernel_rfl) (fun K hK => ?_); go_simp
    apply Exists.intro; apply And.intro; (focus exact kLoad rfl rfl aggT31 r0 rfl id); refine hK _ _ ?_; clear hK K
    -- 1: load<31> *t3
    refine stepK rfl (by kernel_rfl) (fun K hK => ?_); go_simp
    apply Exists.intro; apply And.intro; (focus exact kLoad rfl rfl aggT31 r1 rfl id); refine hK _ _ ?_; clear hK K
    -- 2: call F46(t25, t26)
    refine stepS _ rfl (by kernel_rfl) (fun K hK => ?_); go_simp
    refine ⟨?_, ?_⟩
    · intro wk hk hg hu; go_simp; refine upon_enter ((k0.out _).mono ?_); rintro e w' ⟨rfl, hb⟩; exact ⟨_, rfl, left_V (p := fun u => u = .tuple #[.agg (W4 s), .bool (so)]) rfl (hb) rfl⟩
    rintro ⟨v2, lo2, hi2⟩ - - (rfl : v2 = _)
    refine hK _ _ ?_; clear hK K
    -- 3: t27
    refine stepK rfl (by kernel_rfl) (fun K hK => ?_); go_simp
    apply Exists.intro; apply And.intro; (focus (intro wk hk; go_simp; exact ⟨rfl, rfl⟩)); refine hK _ _ ?_; clear hK K
    -- 4: extract t24 #0
    refine stepK rfl (by kernel_rfl) (fun K hK => ?_); go_simp
    apply Exists.intro; apply And.intro; (focus (intro wk hk; go_simp; exact ⟨rfl, rfl⟩)); refine hK _ _ ?_; clear hK K
    -- 5: extract t24 #1
    refine stepK rfl (by kernel_rfl) (fun K hK => ?_); go_simp
    apply Exists.intro; apply And.intro; (focus (intro wk hk; go_simp; exact ⟨rfl, rfl⟩)); refine hK _ _ ?_; clear hK K
    -- 6: alloc<31>
    refine stepS _ rfl (by kernel_rfl) (fun K hK => ?_); go_simp
    refine ⟨?_, ?_⟩
    · intro wk hk hg hu; go_simp; exact left_A rfl rfl
    rintro ⟨v6, lo1_6, hi6⟩ hlo6 hhi6 ⟨e6, f6⟩
    replace e6 : v6 = .pointer (some ⟨lo1_6, 0, none⟩) := e6; replace f6 : hi6 = lo1_6 + 1 := f6; replace hlo6 : _ ≤ lo1_6 := hlo6; subst e6; subst f6
    refine hK _ _ ?_; clear hK K
    -- 7: store<31> *t5 = t28
    refine stepS _ rfl (by kernel_rfl) (fun K hK => ?_); go_simp
    refine ⟨?_, ?_⟩
    · exact sStoreT rfl rfl rfl rfl rfl rfl rfl (by kernel_rfl) rfl (by kernel_rfl) (by decide) aggOf_congr
    rintro ⟨v7, lo7, hi7⟩ - - (rfl : v7 = undef)
    refine hK _ _ ?_; clear hK K
    -- 8: assign t29
    refine stepK rfl (by kernel_rfl) (fun K hK => ?_); go_simp
    apply Exists.intro; apply And.intro; (focus (intro wk hk; go_simp; exact ⟨rfl, rfl⟩)); refine hK _ _ ?_; clear hK K
    refine stepN ?_
    refine hQ _ _ ?_
    intro w1 hT hG hF
    have nr2r0 : w.heap.size < lo1_6 := Nat.lt_of_lt_of_le r0.lt hlo6
    have nr2r1 : w.heap.size + 1 < lo1_6 := Nat.lt_of_lt_of_le r1.lt hlo6
    have hbw1 := hT.below
    have r2 : Row w1 lo1_6 31 ((W4 s)) := (hF 7 _ rfl rfl (by decide)).2
    replace r0 := r0.below hbw1 r0.lt
    replace r1 := r1.below hbw1 r1.lt
    replace hl := hl.trans (hbw1.mono hl.size)
    clear hT hG hF hbw1 hQ QQ L hlo6 hhi6
    go_upto_region 2 with (fail)
    let L : List Sp := [sV 2 [] [] (fun u => u = .tuple #[.agg (W4 s), .bool (so)]), sA 6 31 [7] #[.int .u64 0, .int .u64 0, .int .u64 0, .int .u64 0], sT 7 6 31 [4] (fun g => aggOf g 4)]
    refine wp_region_six0 (shs L) (look6 L) (None_) (by kernel_rfl) (by kernel_rfl) (mk_St L [] [] (by kernel_rfl) (by kernel_rfl) ⟨ok_V ⟨_, rfl⟩, ok_A, ok_T aggOf_congr, trivial⟩ (by simp)) ?_
    intro QQ hQ
    -- 0: load<31> *t2
    refine stepK rfl (by kernel_rfl) (fun K hK => ?_); go_simp
    apply Exists.intro; apply And.intro; (focus exact kLoad rfl rfl aggT31 r0 rfl id); refine hK _ _ ?_; clear hK K
    -- 1: load<31> *t3
    refine stepK rfl (by kernel_rfl) (fun K hK => ?_); go_simp
    apply Exists.intro; apply And.intro; (focus exact kLoad rfl rfl aggT31 r1 rfl id); refine hK _ _ ?_; clear hK K
    -- 2: call F51(t31, t32)
    refine stepS _ rfl (by kernel_rfl) (fun K hK => ?_); go_simp
    refine ⟨?_, ?_⟩
    · intro wk hk hg hu; go_simp; refine upon_enter ((k1.out _).mono ?_); rintro e w' ⟨rfl, hb⟩; exact ⟨_, rfl, left_V (p := fun u => u = .tuple #[.agg (W4 s), .bool (so)]) rfl (hb) rfl⟩
    rintro ⟨v2, lo2, hi2⟩ - - (rfl : v2 = _)
    refine hK _ _ ?_; clear hK K
    -- 3: t33
    refine stepK rfl (by kernel_rfl) (fun K hK => ?_); go_simp
    apply Exists.intro; apply And.intro; (focus (intro wk hk; go_simp; exact ⟨rfl, rfl⟩)); refine hK _ _ ?_; clear hK K
    -- 4: extract t30 #0
    refine stepK rfl (by kernel_rfl) (fun K hK => ?_); go_simp
    apply Exists.intro; apply And.intro; (focus (intro wk hk; go_simp; exact ⟨rfl, rfl⟩)); refine hK _ _ ?_; clear hK K
    -- 5: extract t30 #1
    refine stepK rfl (by kernel_rfl) (fun K hK => ?_); go_simp
    apply Exists.intro; apply And.intro; (focus (intro wk hk; go_simp; exact ⟨rfl, rfl⟩)); refine hK _ _ ?_; clear hK K
    -- 6: alloc<31>
    refine stepS _ rfl (by kernel_rfl) (fun K hK => ?_); go_simp
    refine ⟨?_, ?_⟩
    · intro wk hk hg hu; go_simp; exact left_A rfl rfl
    rintro ⟨v6, lo2_6, hi6⟩ hlo6 hhi6 ⟨e6, f6⟩
    replace e6 : v6 = .pointer (some ⟨lo2_6, 0, none⟩) := e6; replace f6 : hi6 = lo2_6 + 1 := f6; replace hlo6 : _ ≤ lo2_6 := hlo6; subst e6; subst f6
    refine hK _ _ ?_; clear hK K
    -- 7: store<31> *t7 = t34
    refine stepS _ rfl (by kernel_rfl) (fun K hK => ?_); go_simp
    refine ⟨?_, ?_⟩
    · exact sStoreT rfl rfl rfl rfl rfl rfl rfl (by kernel_rfl) rfl (by kernel_rfl) (by decide) aggOf_congr
    rintro ⟨v7, lo7, hi7⟩ - - (rfl : v7 = undef)
    refine hK _ _ ?_; clear hK K
    -- 8: assign t35
    refine stepK rfl (by kernel_rfl) (fun K hK => ?_); go_simp
    apply Exists.intro; apply And.intro; (focus (intro wk hk; go_simp; exact ⟨rfl, rfl⟩)); refine hK _ _ ?_; clear hK K
    refine stepN ?_
    refine hQ _ _ ?_
    intro w2 hT hG hF
    have nr3r0 : w.heap.size < lo2_6 := Nat.lt_of_lt_of_le r0.lt hlo6
    have nr3r1 : w.heap.size + 1 < lo2_6 := Nat.lt_of_lt_of_le r1.lt hlo6
    have nr3r2 : lo1_6 < lo2_6 := Nat.lt_of_lt_of_le r2.lt hlo6
    have hbw2 := hT.below
    have r3 : Row w2 lo2_6 31 ((W4 s)) := (hF 7 _ rfl rfl (by decide)).2
    replace r0 := r0.below hbw2 r0.lt
    replace r1 := r1.below hbw2 r1.lt
    replace r2 := r2.below hbw2 r2.lt
    replace hl := hl.trans (hbw2.mono hl.size)
    clear hT hG hF hbw2 hQ QQ L hlo6 hhi6
    go_upto_region 3 with (fail)
    let L : List Sp := [sV 2 [] [] (fun u => u = .tuple #[.agg (W4 d), .bool (dd)]), sA 6 31 [7] #[.int .u64 0, .int .u64 0, .int .u64 0, .int .u64 0], sT 7 6 31 [4] (fun g => aggOf g 4)]
    refine wp_region_six0 (shs L) (look6 L) (None_) (by kernel_rfl) (by kernel_rfl) (mk_St L [] [] (by kernel_rfl) (by kernel_rfl) ⟨ok_V ⟨_, rfl⟩, ok_A, ok_T aggOf_congr, trivial⟩ (by simp)) ?_
    intro QQ hQ
    -- 0: load<31> *t2
    refine stepK rfl (by kernel_rfl) (fun K hK => ?_); go_simp
    apply Exists.intro; apply And.intro; (focus exact kLoad rfl rfl aggT31 r0 rfl id); refine hK _ _ ?_; clear hK K
    -- 1: load<31> *t3
    refine stepK rfl (by kernel_rfl) (fun K hK => ?_); go_simp
    apply Exists.intro; apply And.intro; (focus exact kLoad rfl rfl aggT31 r1 rfl id); refine hK _ _ ?_; clear hK K
    -- 2: call F52(t37, t38)
    refine stepS _ rfl (by kernel_rfl) (fun K hK => ?_); go_simp
    refine ⟨?_, ?_⟩
    · intro wk hk hg hu; go_simp; refine upon_enter ((k2.out _).mono ?_); rintro e w' ⟨rfl, hb⟩; exact ⟨_, rfl, left_V (p := fun u => u = .tuple #[.agg (W4 d), .bool (dd)]) rfl (hb) rfl⟩
    rintro ⟨v2, lo2, hi2⟩ - - (rfl : v2 = _)
    refine hK _ _ ?_; clear hK K
    -- 3: t39
    refine stepK rfl (by kernel_rfl) (fun K hK => ?_); go_simp
    apply Exists.intro; apply And.intro; (focus (intro wk hk; go_simp; exact ⟨rfl, rfl⟩)); refine hK _ _ ?_; clear hK K
    -- 4: extract t36 #0
    refine stepK rfl (by kernel_rfl) (fun K hK => ?_); go_simp
    apply Exists.intro; apply And.intro; (focus (intro wk hk; go_simp; exact ⟨rfl, rfl⟩)); refine hK _ _ ?_; clear hK K
    -- 5: extract t36 #1
    refine stepK rfl (by kernel_rfl) (fun K hK => ?_); go_simp
    apply Exists.intro; apply And.intro; (focus (intro wk hk; go_simp; exact ⟨rfl, rfl⟩)); refine hK _ _ ?_; clear hK K
    -- 6: alloc<31>
    refine stepS _ rfl (by kernel_rfl) (fun K hK => ?_); go_simp
    refine ⟨?_, ?_⟩
    · intro wk hk hg hu; go_simp; exact left_A rfl rfl
    rintro ⟨v6, lo3_6, hi6⟩ hlo6 hhi6 ⟨e6, f6⟩
    replace e6 : v6 = .pointer (some ⟨lo3_6, 0, none⟩) := e6; replace f6 : hi6 = lo3_6 + 1 := f6; replace hlo6 : _ ≤ lo3_6 := hlo6; subst e6; subst f6
    refine hK _ _ ?_; clear hK K
    -- 7: store<31> *t9 = t40
    refine stepS _ rfl (by kernel_rfl) (fun K hK => ?_); go_simp
    refine ⟨?_, ?_⟩
    · exact sStoreT rfl rfl rfl rfl rfl rfl rfl (by kernel_rfl) rfl (by kernel_rfl) (by decide) aggOf_congr
    rintro ⟨v7, lo7, hi7⟩ - - (rfl : v7 = undef)
    refine hK _ _ ?_; clear hK K
    -- 8: assign t41
    refine stepK rfl (by kernel_rfl) (fun K hK => ?_); go_simp
    apply Exists.intro; apply And.intro; (focus (intro wk hk; go_simp; exact ⟨rfl, rfl⟩)); refine hK _ _ ?_; clear hK K
    refine stepN ?_
    refine hQ _ _ ?_
    intro w3 hT hG hF
    have nr4r0 : w.heap.size < lo3_6 := Nat.lt_of_lt_of_le r0.lt hlo6
    have nr4r1 : w.heap.size + 1 < lo3_6 := Nat.lt_of_lt_of_le r1.lt hlo6
    have nr4r2 : lo1_6 < lo3_6 := Nat.lt_of_lt_of_le r2.lt hlo6
    have nr4r3 : lo2_6 < lo3_6 := Nat.lt_of_lt_of_le r3.lt hlo6
    have hbw3 := hT.below
    have r4 : Row w3 lo3_6 31 ((W4 d)) := (hF 7 _ rfl rfl (by decide)).2
    replace r0 := r0.below hbw3 r0.lt
    replace r1 := r1.below hbw3 r1.lt
    replace r2 := r2.below hbw3 r2.lt
    replace r3 := r3.below hbw3 r3.lt
    replace hl := hl.trans (hbw3.mono hl.size)
    clear hT hG hF hbw3 hQ QQ L hlo6 hhi6
    go_upto_region 4 with (fail)
    let L : List Sp := [sV 2 [] [] (fun u => u = .tuple #[.agg (W4 d), .bool (dd)]), sA 6 31 [7] #[.int .u64 0, .int .u64 0, .int .u64 0, .int .u64 0], sT 7 6 31 [4] (fun g => aggOf g 4)]
    refine wp_region_six0 (shs L) (look6 L) (None_) (by kernel_rfl) (by kernel_rfl) (mk_St L [] [] (by kernel_rfl) (by kernel_rfl) ⟨ok_V ⟨_, rfl⟩, ok_A, ok_T aggOf_congr, trivial⟩ (by simp)) ?_
    intro QQ hQ
    -- 0: load<31> *t2
    refine stepK rfl (by kernel_rfl) (fun K hK => ?_); go_simp
    apply Exists.intro; apply And.intro; (focus exact kLoad rfl rfl aggT31 r0 rfl id); refine hK _ _ ?_; clear hK K
    -- 1: load<31> *t3
    refine stepK rfl (by kernel_rfl) (fun K hK => ?_); go_simp
    apply Exists.intro; apply And.intro; (focus exact kLoad rfl rfl aggT31 r1 rfl id); refine hK _ _ ?_; clear hK K
    -- 2: call F53(t43, t44)
    refine stepS _ rfl (by kernel_rfl) (fun K hK => ?_); go_simp
    refine ⟨?_, ?_⟩
    · intro wk hk hg hu; go_simp; refine upon_enter ((k3.out _).mono ?_); rintro e w' ⟨rfl, hb⟩; exact ⟨_, rfl, left_V (p := fun u => u = .tuple #[.agg (W4 d), .bool (dd)]) rfl (hb) rfl⟩
    rintro ⟨v2, lo2, hi2⟩ - - (rfl : v2 = _)
    refine hK _ _ ?_; clear hK K
    -- 3: t45
    refine stepK rfl (by kernel_rfl) (fun K hK => ?_); go_simp
    apply Exists.intro; apply And.intro; (focus (intro wk hk; go_simp; exact ⟨rfl, rfl⟩)); refine hK _ _ ?_; clear hK K
    -- 4: extract t42 #0
    refine stepK rfl (by kernel_rfl) (fun K hK => ?_); go_simp
    apply Exists.intro; apply And.intro; (focus (intro wk hk; go_simp; exact ⟨rfl, rfl⟩)); refine hK _ _ ?_; clear hK K
    -- 5: extract t42 #1
    refine stepK rfl (by kernel_rfl) (fun K hK => ?_); go_simp
    apply Exists.intro; apply And.intro; (focus (intro wk hk; go_simp; exact ⟨rfl, rfl⟩)); refine hK _ _ ?_; clear hK K
    -- 6: alloc<31>
    refine stepS _ rfl (by kernel_rfl) (fun K hK => ?_); go_simp
    refine ⟨?_, ?_⟩
    · intro wk hk hg hu; go_simp; exact left_A rfl rfl
    rintro ⟨v6, lo4_6, hi6⟩ hlo6 hhi6 ⟨e6, f6⟩
    replace e6 : v6 = .pointer (some ⟨lo4_6, 0, none⟩) := e6; replace f6 : hi6 = lo4_6 + 1 := f6; replace hlo6 : _ ≤ lo4_6 := hlo6; subst e6; subst f6
    refine hK _ _ ?_; clear hK K
    -- 7: store<31> *t11 = t46
    refine stepS _ rfl (by kernel_rfl) (fun K hK => ?_); go_simp
    refine ⟨?_, ?_⟩
    · exact sStoreT rfl rfl rfl rfl rfl rfl rfl (by kernel_rfl) rfl (by kernel_rfl) (by decide) aggOf_congr
    rintro ⟨v7, lo7, hi7⟩ - - (rfl : v7 = undef)
    refine hK _ _ ?_; clear hK K
    -- 8: assign t47
    refine stepK rfl (by kernel_rfl) (fun K hK => ?_); go_simp
    apply Exists.intro; apply And.intro; (focus (intro wk hk; go_simp; exact ⟨rfl, rfl⟩)); refine hK _ _ ?_; clear hK K
    refine stepN ?_
    refine hQ _ _ ?_
    intro w4 hT hG hF
    have nr5r0 : w.heap.size < lo4_6 := Nat.lt_of_lt_of_le r0.lt hlo6
    have nr5r1 : w.heap.size + 1 < lo4_6 := Nat.lt_of_lt_of_le r1.lt hlo6
    have nr5r2 : lo1_6 < lo4_6 := Nat.lt_of_lt_of_le r2.lt hlo6
    have nr5r3 : lo2_6 < lo4_6 := Nat.lt_of_lt_of_le r3.lt hlo6
    have nr5r4 : lo3_6 < lo4_6 := Nat.lt_of_lt_of_le r4.lt hlo6
    have hbw4 := hT.below
    have r5 : Row w4 lo4_6 31 ((W4 d)) := (hF 7 _ rfl rfl (by decide)).2
    replace r0 := r0.below hbw4 r0.lt
    replace r1 := r1.below hbw4 r1.lt
    replace r2 := r2.below hbw4 r2.lt
    replace r3 := r3.below hbw4 r3.lt
    replace r4 := r4.below hbw4 r4.lt
    replace hl := hl.trans (hbw4.mono hl.size)
    clear hT hG hF hbw4 hQ QQ L hlo6 hhi6
    go_upto_region 5 with (fail)
    let L : List Sp := [sV 2 [] [] (fun u => u = .tuple #[.agg (W4 p), .bool (po)]), sA 6 31 [7] #[.int .u64 0, .int .u64 0, .int .u64 0, .int .u64 0], sT 7 6 31 [4] (fun g => aggOf g 4)]
    refine wp_region_six0 (shs L) (look6 L) (None_) (by kernel_rfl) (by kernel_rfl) (mk_St L [] [] (by kernel_rfl) (by kernel_rfl) ⟨ok_V ⟨_, rfl⟩, ok_A, ok_T aggOf_congr, trivial⟩ (by simp)) ?_
    intro QQ hQ
    -- 0: load<31> *t2
    refine stepK rfl (by kernel_rfl) (fun K hK => ?_); go_simp
    apply Exists.intro; apply And.intro; (focus exact kLoad rfl rfl aggT31 r0 rfl id); refine hK _ _ ?_; clear hK K
    -- 1: load<31> *t3
    refine stepK rfl (by kernel_rfl) (fun K hK => ?_); go_simp
    apply Exists.intro; apply And.intro; (focus exact kLoad rfl rfl aggT31 r1 rfl id); refine hK _ _ ?_; clear hK K
    -- 2: call F47(t49, t50)
    refine stepS _ rfl (by kernel_rfl) (fun K hK => ?_); go_simp
    refine ⟨?_, ?_⟩
    · intro wk hk hg hu; go_simp; refine upon_enter ((k4.out _).mono ?_); rintro e w' ⟨rfl, hb⟩; exact ⟨_, rfl, left_V (p := fun u => u = .tuple #[.agg (W4 p), .bool (po)]) rfl (hb) rfl⟩
    rintro ⟨v2, lo2, hi2⟩ - - (rfl : v2 = _)
    refine hK _ _ ?_; clear hK K
    -- 3: t51
    refine stepK rfl (by kernel_rfl) (fun K hK => ?_); go_simp
    apply Exists.intro; apply And.intro; (focus (intro wk hk; go_simp; exact ⟨rfl, rfl⟩)); refine hK _ _ ?_; clear hK K
    -- 4: extract t48 #0
    refine stepK rfl (by kernel_rfl) (fun K hK => ?_); go_simp
    apply Exists.intro; apply And.intro; (focus (intro wk hk; go_simp; exact ⟨rfl, rfl⟩)); refine hK _ _ ?_; clear hK K
    -- 5: extract t48 #1
    refine stepK rfl (by kernel_rfl) (fun K hK => ?_); go_simp
    apply Exists.intro; apply And.intro; (focus (intro wk hk; go_simp; exact ⟨rfl, rfl⟩)); refine hK _ _ ?_; clear hK K
    -- 6: alloc<31>
    refine stepS _ rfl (by kernel_rfl) (fun K hK => ?_); go_simp
    refine ⟨?_, ?_⟩
    · intro wk hk hg hu; go_simp; exact left_A rfl rfl
    rintro ⟨v6, lo5_6, hi6⟩ hlo6 hhi6 ⟨e6, f6⟩
    replace e6 : v6 = .pointer (some ⟨lo5_6, 0, none⟩) := e6; replace f6 : hi6 = lo5_6 + 1 := f6; replace hlo6 : _ ≤ lo5_6 := hlo6; subst e6; subst f6
    refine hK _ _ ?_; clear hK K
    -- 7: store<31> *t13 = t52
    refine stepS _ rfl (by kernel_rfl) (fun K hK => ?_); go_simp
    refine ⟨?_, ?_⟩
    · exact sStoreT rfl rfl rfl rfl rfl rfl rfl (by kernel_rfl) rfl (by kernel_rfl) (by decide) aggOf_congr
    rintro ⟨v7, lo7, hi7⟩ - - (rfl : v7 = undef)
    refine hK _ _ ?_; clear hK K
    -- 8: assign t53
    refine stepK rfl (by kernel_rfl) (fun K hK => ?_); go_simp
    apply Exists.intro; apply And.intro; (focus (intro wk hk; go_simp; exact ⟨rfl, rfl⟩)); refine hK _ _ ?_; clear hK K
    refine stepN ?_
    refine hQ _ _ ?_
    intro w5 hT hG hF
    have nr6r0 : w.heap.size < lo5_6 := Nat.lt_of_lt_of_le r0.lt hlo6
    have nr6r1 : w.heap.size + 1 < lo5_6 := Nat.lt_of_lt_of_le r1.lt hlo6
    have nr6r2 : lo1_6 < lo5_6 := Nat.lt_of_lt_of_le r2.lt hlo6
    have nr6r3 : lo2_6 < lo5_6 := Nat.lt_of_lt_of_le r3.lt hlo6
    have nr6r4 : lo3_6 < lo5_6 := Nat.lt_of_lt_of_le r4.lt hlo6
    have nr6r5 : lo4_6 < lo5_6 := Nat.lt_of_lt_of_le r5.lt hlo6
    have hbw5 := hT.below
    have r6 : Row w5 lo5_6 31 ((W4 p)) := (hF 7 _ rfl rfl (by decide)).2
    replace r0 := r0.below hbw5 r0.lt
    replace r1 := r1.below hbw5 r1.lt
    replace r2 := r2.below hbw5 r2.lt
    replace r3 := r3.below hbw5 r3.lt
    replace r4 := r4.below hbw5 r4.lt
    replace r5 := r5.below hbw5 r5.lt
    replace hl := hl.trans (hbw5.mono hl.size)
    clear hT hG hF hbw5 hQ QQ L hlo6 hhi6
    go_upto_region 6 with (fail)
    let L : List Sp := [sV 2 [] [] (fun u => u = .tuple #[.agg (W4 p), .bool (po)]), sA 6 31 [7] #[.int .u64 0, .int .u64 0, .int .u64 0, .int .u64 0], sT 7 6 31 [4] (fun g => aggOf g 4)]
    refine wp_region_six0 (shs L) (look6 L) (None_) (by kernel_rfl) (by kernel_rfl) (mk_St L [] [] (by kernel_rfl) (by kernel_rfl) ⟨ok_V ⟨_, rfl⟩, ok_A, ok_T aggOf_congr, trivial⟩ (by simp)) ?_
    intro QQ hQ
    -- 0: load<31> *t2
    refine stepK rfl (by kernel_rfl) (fun K hK => ?_); go_simp
    apply Exists.intro; apply And.intro; (focus exact kLoad rfl rfl aggT31 r0 rfl id); refine hK _ _ ?_; clear hK K
    -- 1: load<31> *t3
    refine stepK rfl (by kernel_rfl) (fun K hK => ?_); go_simp
    apply Exists.intro; apply And.intro; (focus exact kLoad rfl rfl aggT31 r1 rfl id); refine hK _ _ ?_; clear hK K
    -- 2: call F54(t55, t56)
    refine stepS _ rfl (by kernel_rfl) (fun K hK => ?_); go_simp
    refine ⟨?_, ?_⟩
    · intro wk hk hg hu; go_simp; refine upon_enter ((k5.out _).mono ?_); rintro e w' ⟨rfl, hb⟩; exact ⟨_, rfl, left_V (p := fun u => u = .tuple #[.agg (W4 p), .bool (po)]) rfl (hb) rfl⟩
    rintro ⟨v2, lo2, hi2⟩ - - (rfl : v2 = _)
    refine hK _ _ ?_; clear hK K
    -- 3: t57
    refine stepK rfl (by kernel_rfl) (fun K hK => ?_); go_simp
    apply Exists.intro; apply And.intro; (focus (intro wk hk; go_simp; exact ⟨rfl, rfl⟩)); refine hK _ _ ?_; clear hK K
    -- 4: extract t54 #0
    refine stepK rfl (by kernel_rfl) (fun K hK => ?_); go_simp
    apply Exists.intro; apply And.intro; (focus (intro wk hk; go_simp; exact ⟨rfl, rfl⟩)); refine hK _ _ ?_; clear hK K
    -- 5: extract t54 #1
    refine stepK rfl (by kernel_rfl) (fun K hK => ?_); go_simp
    apply Exists.intro; apply And.intro; (focus (intro wk hk; go_simp; exact ⟨rfl, rfl⟩)); refine hK _ _ ?_; clear hK K
    -- 6: alloc<31>
    refine stepS _ rfl (by kernel_rfl) (fun K hK => ?_); go_simp
    refine ⟨?_, ?_⟩
    · intro wk hk hg hu; go_simp; exact left_A rfl rfl
    rintro ⟨v6, lo6_6, hi6⟩ hlo6 hhi6 ⟨e6, f6⟩
    replace e6 : v6 = .pointer (some ⟨lo6_6, 0, none⟩) := e6; replace f6 : hi6 = lo6_6 + 1 := f6; replace hlo6 : _ ≤ lo6_6 := hlo6; subst e6; subst f6
    refine hK _ _ ?_; clear hK K
    -- 7: store<31> *t15 = t58
    refine stepS _ rfl (by kernel_rfl) (fun K hK => ?_); go_simp
    refine ⟨?_, ?_⟩
    · exact sStoreT rfl rfl rfl rfl rfl rfl rfl (by kernel_rfl) rfl (by kernel_rfl) (by decide) aggOf_congr
    rintro ⟨v7, lo7, hi7⟩ - - (rfl : v7 = undef)
    refine hK _ _ ?_; clear hK K
    -- 8: assign t59
    refine stepK rfl (by kernel_rfl) (fun K hK => ?_); go_simp
    apply Exists.intro; apply And.intro; (focus (intro wk hk; go_simp; exact ⟨rfl, rfl⟩)); refine hK _ _ ?_; clear hK K
    refine stepN ?_
    refine hQ _ _ ?_
    intro w6 hT hG hF
    have nr7r0 : w.heap.size < lo6_6 := Nat.lt_of_lt_of_le r0.lt hlo6
    have nr7r1 : w.heap.size + 1 < lo6_6 := Nat.lt_of_lt_of_le r1.lt hlo6
    have nr7r2 : lo1_6 < lo6_6 := Nat.lt_of_lt_of_le r2.lt hlo6
    have nr7r3 : lo2_6 < lo6_6 := Nat.lt_of_lt_of_le r3.lt hlo6
    have nr7r4 : lo3_6 < lo6_6 := Nat.lt_of_lt_of_le r4.lt hlo6
    have nr7r5 : lo4_6 < lo6_6 := Nat.lt_of_lt_of_le r5.lt hlo6
    have nr7r6 : lo5_6 < lo6_6 := Nat.lt_of_lt_of_le r6.lt hlo6
    have hbw6 := hT.below
    have r7 : Row w6 lo6_6 31 ((W4 p)) := (hF 7 _ rfl rfl (by decide)).2
    replace r0 := r0.below hbw6 r0.lt
    replace r1 := r1.below hbw6 r1.lt
    replace r2 := r2.below hbw6 r2.lt
    replace r3 := r3.below hbw6 r3.lt
    replace r4 := r4.below hbw6 r4.lt
    replace r5 := r5.below hbw6 r5.lt
    replace r6 := r6.below hbw6 r6.lt
    replace hl := hl.trans (hbw6.mono hl.size)
    clear hT hG hF hbw6 hQ QQ L hlo6 hhi6
    go_upto_region 7 with (fail)
    let L : List Sp := []
    refine wp_region_six0 (shs L) (look6 L) (None_) (by kernel_rfl) (by kernel_rfl) (mk_St L [] [] (by kernel_rfl) (by kernel_rfl) trivial (by simp)) ?_
    intro QQ hQ
    -- 0: load<31> *t5
    refine stepK rfl (by kernel_rfl) (fun K hK => ?_); go_simp
    apply Exists.intro; apply And.intro; (focus exact kLoad rfl rfl aggT31 r2 rfl id); refine hK _ _ ?_; clear hK K
    -- 1: load<31> *t7
    refine stepK rfl (by kernel_rfl) (fun K hK => ?_); go_simp
    apply Exists.intro; apply And.intro; (focus exact kLoad rfl rfl aggT31 r3 rfl id); refine hK _ _ ?_; clear hK K
    -- 2: neq<31> t60, t61
    refine stepK rfl (by kernel_rfl) (fun K hK => ?_); go_simp
    apply Exists.intro; apply And.intro; (focus (intro wk hk; go_simp; exact ⟨rfl, rfl⟩)); refine hK _ _ ?_; clear hK K
    -- 3: t62
    refine stepK rfl (by kernel_rfl) (fun K hK => ?_); go_simp
    apply Exists.intro; apply And.intro; (focus (intro wk hk; go_simp; exact ⟨rfl, rfl⟩)); refine hK _ _ ?_; clear hK K
    -- 4: t6
    refine stepK rfl (by kernel_rfl) (fun K hK => ?_); go_simp
    first | (refine hK _ _ ?_; clear hK K) | (apply Exists.intro; apply And.intro; (focus (intro wk hk; go_simp; exact ⟨rfl, rfl⟩)); refine hK _ _ ?_; clear hK K)
    -- 5: t8
    refine stepK rfl (by kernel_rfl) (fun K hK => ?_); go_simp
    first | (refine hK _ _ ?_; clear hK K) | (apply Exists.intro; apply And.intro; (focus (intro wk hk; go_simp; exact ⟨rfl, rfl⟩)); refine hK _ _ ?_; clear hK K)
    -- 6: neq<4> t64, t65
    refine stepK rfl (by kernel_rfl) (fun K hK => ?_); go_simp
    first | (refine hK _ _ ?_; clear hK K) | (apply Exists.intro; apply And.intro; (focus (intro wk hk; go_simp; exact ⟨rfl, rfl⟩)); refine hK _ _ ?_; clear hK K)
    -- 7: pick t63 ? true : t66
    refine stepK rfl (by kernel_rfl) (fun K hK => ?_); go_simp
    apply Exists.intro; apply And.intro; (focus (intro wk hk; go_simp; exact ⟨rfl, rfl⟩)); refine hK _ _ ?_; clear hK K
    -- 8: t67
    refine stepK rfl (by kernel_rfl) (fun K hK => ?_); go_simp
    apply Exists.intro; apply And.intro; (focus (intro wk hk; go_simp; exact ⟨rfl, rfl⟩)); refine hK _ _ ?_; clear hK K
    -- 9: load<31> *t9
    refine stepK rfl (by kernel_rfl) (fun K hK => ?_); go_simp
    first | (refine hK _ _ ?_; clear hK K) | (apply Exists.intro; apply And.intro; (focus exact kLoad rfl rfl aggT31 r4 rfl id); refine hK _ _ ?_; clear hK K)
    -- 10: load<31> *t11
    refine stepK rfl (by kernel_rfl) (fun K hK => ?_); go_simp
    first | (refine hK _ _ ?_; clear hK K) | (apply Exists.intro; apply And.intro; (focus exact kLoad rfl rfl aggT31 r5 rfl id); refine hK _ _ ?_; clear hK K)
    -- 11: neq<31> t69, t70
    refine stepK rfl (by kernel_rfl) (fun K hK => ?_); go_simp
    first | (refine hK _ _ ?_; clear hK K) | (apply Exists.intro; apply And.intro; (focus (intro wk hk; go_simp; exact ⟨rfl, rfl⟩)); refine hK _ _ ?_; clear hK K)
    -- 12: pick t68 ? true : t71
    refine stepK rfl (by kernel_rfl) (fun K hK => ?_); go_simp
    apply Exists.intro; apply And.intro; (focus (intro wk hk; go_simp; exact ⟨rfl, rfl⟩)); refine hK _ _ ?_; clear hK K
    -- 13: t72
    refine stepK rfl (by kernel_rfl) (fun K hK => ?_); go_simp
    apply Exists.intro; apply And.intro; (focus (intro wk hk; go_simp; exact ⟨rfl, rfl⟩)); refine hK _ _ ?_; clear hK K
    -- 14: t10
    refine stepK rfl (by kernel_rfl) (fun K hK => ?_); go_simp
    first | (refine hK _ _ ?_; clear hK K) | (apply Exists.intro; apply And.intro; (focus (intro wk hk; go_simp; exact ⟨rfl, rfl⟩)); refine hK _ _ ?_; clear hK K)
    -- 15: t12
    refine stepK rfl (by kernel_rfl) (fun K hK => ?_); go_simp
    first | (refine hK _ _ ?_; clear hK K) | (apply Exists.intro; apply And.intro; (focus (intro wk hk; go_simp; exact ⟨rfl, rfl⟩)); refine hK _ _ ?_; clear hK K)
    -- 16: neq<4> t74, t75
    refine stepK rfl (by kernel_rfl) (fun K hK => ?_); go_simp
    first | (refine hK _ _ ?_; clear hK K) | (apply Exists.intro; apply And.intro; (focus (intro wk hk; go_simp; exact ⟨rfl, rfl⟩)); refine hK _ _ ?_; clear hK K)
    -- 17: pick t73 ? true : t76
    refine stepK rfl (by kernel_rfl) (fun K hK => ?_); go_simp
    apply Exists.intro; apply And.intro; (focus (intro wk hk; go_simp; exact ⟨rfl, rfl⟩)); refine hK _ _ ?_; clear hK K
    -- 18: t77
    refine stepK rfl (by kernel_rfl) (fun K hK => ?_); go_simp
    apply Exists.intro; apply And.intro; (focus (intro wk hk; go_simp; exact ⟨rfl, rfl⟩)); refine hK _ _ ?_; clear hK K
    -- 19: load<31> *t13
    refine stepK rfl (by kernel_rfl) (fun K hK => ?_); go_simp
    first | (refine hK _ _ ?_; clear hK K) | (apply Exists.intro; apply And.intro; (focus exact kLoad rfl rfl aggT31 r6 rfl id); refine hK _ _ ?_; clear hK K)
    -- 20: load<31> *t15
    refine stepK rfl (by kernel_rfl) (fun K hK => ?_); go_simp
    first | (refine hK _ _ ?_; clear hK K) | (apply Exists.intro; apply And.intro; (focus exact kLoad rfl rfl aggT31 r7 rfl id); refine hK _ _ ?_; clear hK K)
    -- 21: neq<31> t79, t80
    refine stepK rfl (by kernel_rfl) (fun K hK => ?_); go_simp
    first | (refine hK _ _ ?_; clear hK K) | (apply Exists.intro; apply And.intro; (focus (intro wk hk; go_simp; exact ⟨rfl, rfl⟩)); refine hK _ _ ?_; clear hK K)
    -- 22: pick t78 ? true : t81
    refine stepK rfl (by kernel_rfl) (fun K hK => ?_); go_simp
    apply Exists.intro; apply And.intro; (focus (intro wk hk; go_simp; exact ⟨rfl, rfl⟩)); refine hK _ _ ?_; clear hK K
    -- 23: t82
    refine stepK rfl (by kernel_rfl) (fun K hK => ?_); go_simp
    apply Exists.intro; apply And.intro; (focus (intro wk hk; go_simp; exact ⟨rfl, rfl⟩)); refine hK _ _ ?_; clear hK K
    -- 24: t14
    refine stepK rfl (by kernel_rfl) (fun K hK => ?_); go_simp
    first | (refine hK _ _ ?_; clear hK K) | (apply Exists.intro; apply And.intro; (focus (intro wk hk; go_simp; exact ⟨rfl, rfl⟩)); refine hK _ _ ?_; clear hK K)
    -- 25: t16
    refine stepK rfl (by kernel_rfl) (fun K hK => ?_); go_simp
    first | (refine hK _ _ ?_; clear hK K) | (apply Exists.intro; apply And.intro; (focus (intro wk hk; go_simp; exact ⟨rfl, rfl⟩)); refine hK _ _ ?_; clear hK K)
    -- 26: neq<4> t84, t85
    refine stepK rfl (by kernel_rfl) (fun K hK => ?_); go_simp
    first | (refine hK _ _ ?_; clear hK K) | (apply Exists.intro; apply And.intro; (focus (intro wk hk; go_simp; exact ⟨rfl, rfl⟩)); refine hK _ _ ?_; clear hK K)
    -- 27: pick t83 ? true : t86
    refine stepK rfl (by kernel_rfl) (fun K hK => ?_); go_simp
    apply Exists.intro; apply And.intro; (focus (intro wk hk; go_simp; exact ⟨rfl, rfl⟩)); refine hK _ _ ?_; clear hK K
    refine stepN ?_
    refine hQ _ _ ?_
    intro w7 hT hG hF
    have hbw7 := hT.below
    replace r0 := r0.below hbw7 r0.lt
    replace r1 := r1.below hbw7 r1.lt
    replace r2 := r2.below hbw7 r2.lt
    replace r3 := r3.below hbw7 r3.lt
    replace r4 := r4.below hbw7 r4.lt
    replace r5 := r5.below hbw7 r5.lt
    replace r6 := r6.below hbw7 r6.lt
    replace r7 := r7.below hbw7 r7.lt
    replace hl := hl.trans (hbw7.mono hl.size)
    clear hT hG hF hbw7 hQ QQ L 
    go_upto_region 9 with (fail)
    let L : List Sp := [sV 2 [] [] (fun u => u = .tuple #[.agg (W4 q), .agg (W4 r), .bool (zo)]), sA 7 31 [9] #[.int .u64 0, .int .u64 0, .int .u64 0, .int .u64 0], sA 8 31 [10] #[.int .u64 0, .int .u64 0, .int .u64 0, .int .u64 0], sT 9 7 31 [4] (fun g => aggOf g 4), sT 10 8 31 [5] (fun g => aggOf g 5)]
    refine wp_region_six0 (shs L) (look6 L) (None_) (by kernel_rfl) (by kernel_rfl) (mk_St L [] [] (by kernel_rfl) (by kernel_rfl) ⟨ok_V ⟨_, rfl⟩, ok_A, ok_A, ok_T aggOf_congr, ok_T aggOf_congr, trivial⟩ (by simp)) ?_
    intro QQ hQ
    -- 0: load<31> *t2
    refine stepK rfl (by kernel_rfl) (fun K hK => ?_); go_simp
    apply Exists.intro; apply And.intro; (focus exact kLoad rfl rfl aggT31 r0 rfl id); refine hK _ _ ?_; clear hK K
    -- 1: load<31> *t3
    refine stepK rfl (by kernel_rfl) (fun K hK => ?_); go_simp
    apply Exists.intro; apply And.intro; (focus exact kLoad rfl rfl aggT31 r1 rfl id); refine hK _ _ ?_; clear hK K
    -- 2: call F55(t89, t90)
    refine stepS _ rfl (by kernel_rfl) (fun K hK => ?_); go_simp
    refine ⟨?_, ?_⟩
    · intro wk hk hg hu; go_simp; refine upon_enter ((k6.out _).mono ?_); rintro e w' ⟨rfl, hb⟩; exact ⟨_, rfl, left_V (p := fun u => u = .tuple #[.agg (W4 q), .agg (W4 r), .bool (zo)]) rfl (hb) rfl⟩
    rintro ⟨v2, lo2, hi2⟩ - - (rfl : v2 = _)
    refine hK _ _ ?_; clear hK K
    -- 3: t91
    refine stepK rfl (by kernel_rfl) (fun K hK => ?_); go_simp
    apply Exists.intro; apply And.intro; (focus (intro wk hk; go_simp; exact ⟨rfl, rfl⟩)); refine hK _ _ ?_; clear hK K
    -- 4: extract t88 #0
    refine stepK rfl (by kernel_rfl) (fun K hK => ?_); go_simp
    apply Exists.intro; apply And.intro; (focus (intro wk hk; go_simp; exact ⟨rfl, rfl⟩)); refine hK _ _ ?_; clear hK K
    -- 5: extract t88 #1
    refine stepK rfl (by kernel_rfl) (fun K hK => ?_); go_simp
    apply Exists.intro; apply And.intro; (focus (intro wk hk; go_simp; exact ⟨rfl, rfl⟩)); refine hK _ _ ?_; clear hK K
    -- 6: extract t88 #2
    refine stepK rfl (by kernel_rfl) (fun K hK => ?_); go_simp
    apply Exists.intro; apply And.intro; (focus (intro wk hk; go_simp; exact ⟨rfl, rfl⟩)); refine hK _ _ ?_; clear hK K
    -- 7: alloc<31>
    refine stepS _ rfl (by kernel_rfl) (fun K hK => ?_); go_simp
    refine ⟨?_, ?_⟩
    · intro wk hk hg hu; go_simp; exact left_A rfl rfl
    rintro ⟨v7, lo9_7, hi7⟩ hlo7 hhi7 ⟨e7, f7⟩
    replace e7 : v7 = .pointer (some ⟨lo9_7, 0, none⟩) := e7; replace f7 : hi7 = lo9_7 + 1 := f7; replace hlo7 : _ ≤ lo9_7 := hlo7; subst e7; subst f7
    refine hK _ _ ?_; clear hK K
    -- 8: alloc<31>
    refine stepS _ rfl (by kernel_rfl) (fun K hK => ?_); go_simp
    refine ⟨?_, ?_⟩
    · intro wk hk hg hu; go_simp; exact left_A rfl rfl
    rintro ⟨v8, lo9_8, hi8⟩ hlo8 hhi8 ⟨e8, f8⟩
    replace e8 : v8 = .pointer (some ⟨lo9_8, 0, none⟩) := e8; replace f8 : hi8 = lo9_8 + 1 := f8; replace hlo8 : _ ≤ lo9_8 := hlo8; subst e8; subst f8
    refine hK _ _ ?_; clear hK K
    -- 9: store<31> *t17 = t92
    refine stepS _ rfl (by kernel_rfl) (fun K hK => ?_); go_simp
    refine ⟨?_, ?_⟩
    · exact sStoreT rfl rfl rfl rfl rfl rfl rfl (by kernel_rfl) rfl (by kernel_rfl) (by decide) aggOf_congr
    rintro ⟨v9, lo9, hi9⟩ - - (rfl : v9 = undef)
    refine hK _ _ ?_; clear hK K
    -- 10: store<31> *t18 = t93
    refine stepS _ rfl (by kernel_rfl) (fun K hK => ?_); go_simp
    refine ⟨?_, ?_⟩
    · exact sStoreT rfl rfl rfl rfl rfl rfl rfl (by kernel_rfl) rfl (by kernel_rfl) (by decide) aggOf_congr
    rintro ⟨v10, lo10, hi10⟩ - - (rfl : v10 = undef)
    refine hK _ _ ?_; clear hK K
    -- 11: assign t94
    refine stepK rfl (by kernel_rfl) (fun K hK => ?_); go_simp
    apply Exists.intro; apply And.intro; (focus (intro wk hk; go_simp; exact ⟨rfl, rfl⟩)); refine hK _ _ ?_; clear hK K
    refine stepN ?_
    refine hQ _ _ ?_
    intro w8 hT hG hF
    have nr8r0 : w.heap.size < lo9_7 := Nat.lt_of_lt_of_le r0.lt hlo7
    have nr8r1 : w.heap.size + 1 < lo9_7 := Nat.lt_of_lt_of_le r1.lt hlo7
    have nr8r2 : lo1_6 < lo9_7 := Nat.lt_of_lt_of_le r2.lt hlo7
    have nr8r3 : lo2_6 < lo9_7 := Nat.lt_of_lt_of_le r3.lt hlo7
    have nr8r4 : lo3_6 < lo9_7 := Nat.lt_of_lt_of_le r4.lt hlo7
    have nr8r5 : lo4_6 < lo9_7 := Nat.lt_of_lt_of_le r5.lt hlo7
    have nr8r6 : lo5_6 < lo9_7 := Nat.lt_of_lt_of_le r6.lt hlo7
    have nr8r7 : lo6_6 < lo9_7 := Nat.lt_of_lt_of_le r7.lt hlo7
    have nr9r0 : w.heap.size < lo9_8 := Nat.lt_of_lt_of_le r0.lt hlo8
    have nr9r1 : w.heap.size + 1 < lo9_8 := Nat.lt_of_lt_of_le r1.lt hlo8
    have nr9r2 : lo1_6 < lo9_8 := Nat.lt_of_lt_of_le r2.lt hlo8
    have nr9r3 : lo2_6 < lo9_8 := Nat.lt_of_lt_of_le r3.lt hlo8
    have nr9r4 : lo3_6 < lo9_8 := Nat.lt_of_lt_of_le r4.lt hlo8
    have nr9r5 : lo4_6 < lo9_8 := Nat.lt_of_lt_of_le r5.lt hlo8
    have nr9r6 : lo5_6 < lo9_8 := Nat.lt_of_lt_of_le r6.lt hlo8
    have nr9r7 : lo6_6 < lo9_8 := Nat.lt_of_lt_of_le r7.lt hlo8
    have hbw8 := hT.below
    have r8 : Row w8 lo9_7 31 ((W4 q)) := (hF 9 _ rfl rfl (by decide)).2
    have r9 : Row w8 lo9_8 31 ((W4 r)) := (hF 10 _ rfl rfl (by decide)).2
    replace r0 := r0.below hbw8 r0.lt
    replace r1 := r1.below hbw8 r1.lt
    replace r2 := r2.below hbw8 r2.lt
    replace r3 := r3.below hbw8 r3.lt
    replace r4 := r4.below hbw8 r4.lt
    replace r5 := r5.below hbw8 r5.lt
    replace r6 := r6.below hbw8 r6.lt
    replace r7 := r7.below hbw8 r7.lt
    replace hl := hl.trans (hbw8.mono hl.size)
    clear hT hG hF hbw8 hQ QQ L hlo7 hhi7 hlo8 hhi8
    go_upto_region 10 with (fail)
    let L : List Sp := [sV 2 [] [] (fun u => u = .tuple #[.agg (W4 q), .agg (W4 r), .bool (zo)]), sA 7 31 [9] #[.int .u64 0, .int .u64 0, .int .u64 0, .int .u64 0], sA 8 31 [10] #[.int .u64 0, .int .u64 0, .int .u64 0, .int .u64 0], sT 9 7 31 [4] (fun g => aggOf g 4), sT 10 8 31 [5] (fun g => aggOf g 5)]
    refine wp_region_six0 (shs L) (look6 L) (None_) (by kernel_rfl) (by kernel_rfl) (mk_St L [] [] (by kernel_rfl) (by kernel_rfl) ⟨ok_V ⟨_, rfl⟩, ok_A, ok_A, ok_T aggOf_congr, ok_T aggOf_congr, trivial⟩ (by simp)) ?_
    intro QQ hQ
    -- 0: load<31> *t2
    refine stepK rfl (by kernel_rfl) (fun K hK => ?_); go_simp
    apply Exists.intro; apply And.intro; (focus exact kLoad rfl rfl aggT31 r0 rfl id); refine hK _ _ ?_; clear hK K
    -- 1: load<31> *t3
    refine stepK rfl (by kernel_rfl) (fun K hK => ?_); go_simp
    apply Exists.intro; apply And.intro; (focus exact kLoad rfl rfl aggT31 r1 rfl id); refine hK _ _ ?_; clear hK K
    -- 2: call F56(t96, t97)
    refine stepS _ rfl (by kernel_rfl) (fun K hK => ?_); go_simp
    refine ⟨?_, ?_⟩
    · intro wk hk hg hu; go_simp; refine upon_enter ((k7.out _).mono ?_); rintro e w' ⟨rfl, hb⟩; exact ⟨_, rfl, left_V (p := fun u => u = .tuple #[.agg (W4 q), .agg (W4 r), .bool (zo)]) rfl (hb) rfl⟩
    rintro ⟨v2, lo2, hi2⟩ - - (rfl : v2 = _)
    refine hK _ _ ?_; clear hK K
    -- 3: t98
    refine stepK rfl (by kernel_rfl) (fun K hK => ?_); go_simp
    apply Exists.intro; apply And.intro; (focus (intro wk hk; go_simp; exact ⟨rfl, rfl⟩)); refine hK _ _ ?_; clear hK K
    -- 4: extract t95 #0
    refine stepK rfl (by kernel_rfl) (fun K hK => ?_); go_simp
    apply Exists.intro; apply And.intro; (focus (intro wk hk; go_simp; exact ⟨rfl, rfl⟩)); refine hK _ _ ?_; clear hK K
    -- 5: extract t95 #1
    refine stepK rfl (by kernel_rfl) (fun K hK => ?_); go_simp
    apply Exists.intro; apply And.intro; (focus (intro wk hk; go_simp; exact ⟨rfl, rfl⟩)); refine hK _ _ ?_; clear hK K
    -- 6: extract t95 #2
    refine stepK rfl (by kernel_rfl) (fun K hK => ?_); go_simp
    apply Exists.intro; apply And.intro; (focus (intro wk hk; go_simp; exact ⟨rfl, rfl⟩)); refine hK _ _ ?_; clear hK K
    -- 7: alloc<31>
    refine stepS _ rfl (by kernel_rfl) (fun K hK => ?_); go_simp
    refine ⟨?_, ?_⟩
    · intro wk hk hg hu; go_simp; exact left_A rfl rfl
    rintro ⟨v7, lo10_7, hi7⟩ hlo7 hhi7 ⟨e7, f7⟩
    replace e7 : v7 = .pointer (some ⟨lo10_7, 0, none⟩) := e7; replace f7 : hi7 = lo10_7 + 1 := f7; replace hlo7 : _ ≤ lo10_7 := hlo7; subst e7; subst f7
    refine hK _ _ ?_; clear hK K
    -- 8: alloc<31>
    refine stepS _ rfl (by kernel_rfl) (fun K hK => ?_); go_simp
    refine ⟨?_, ?_⟩
    · intro wk hk hg hu; go_simp; exact left_A rfl rfl
    rintro ⟨v8, lo10_8, hi8⟩ hlo8 hhi8 ⟨e8, f8⟩
    replace e8 : v8 = .pointer (some ⟨lo10_8, 0, none⟩) := e8; replace f8 : hi8 = lo10_8 + 1 := f8; replace hlo8 : _ ≤ lo10_8 := hlo8; subst e8; subst f8
    refine hK _ _ ?_; clear hK K
    -- 9: store<31> *t20 = t99
    refine stepS _ rfl (by kernel_rfl) (fun K hK => ?_); go_simp
    refine ⟨?_, ?_⟩
    · exact sStoreT rfl rfl rfl rfl rfl rfl rfl (by kernel_rfl) rfl (by kernel_rfl) (by decide) aggOf_congr
    rintro ⟨v9, lo9, hi9⟩ - - (rfl : v9 = undef)
    refine hK _ _ ?_; clear hK K
    -- 10: store<31> *t21 = t100
    refine stepS _ rfl (by kernel_rfl) (fun K hK => ?_); go_simp
    refine ⟨?_, ?_⟩
    · exact sStoreT rfl rfl rfl rfl rfl rfl rfl (by kernel_rfl) rfl (by kernel_rfl) (by decide) aggOf_congr
    rintro ⟨v10, lo10, hi10⟩ - - (rfl : v10 = undef)
    refine hK _ _ ?_; clear hK K
    -- 11: assign t101
    refine stepK rfl (by kernel_rfl) (fun K hK => ?_); go_simp
    apply Exists.intro; apply And.intro; (focus (intro wk hk; go_simp; exact ⟨rfl, rfl⟩)); refine hK _ _ ?_; clear hK K
    refine stepN ?_
    refine hQ _ _ ?_
    intro w9 hT hG hF
    have nr10r0 : w.heap.size < lo10_7 := Nat.lt_of_lt_of_le r0.lt hlo7
    have nr10r1 : w.heap.size + 1 < lo10_7 := Nat.lt_of_lt_of_le r1.lt hlo7
    have nr10r2 : lo1_6 < lo10_7 := Nat.lt_of_lt_of_le r2.lt hlo7
    have nr10r3 : lo2_6 < lo10_7 := Nat.lt_of_lt_of_le r3.lt hlo7
    have nr10r4 : lo3_6 < lo10_7 := Nat.lt_of_lt_of_le r4.lt hlo7
    have nr10r5 : lo4_6 < lo10_7 := Nat.lt_of_lt_of_le r5.lt hlo7
    have nr10r6 : lo5_6 < lo10_7 := Nat.lt_of_lt_of_le r6.lt hlo7
    have nr10r7 : lo6_6 < lo10_7 := Nat.lt_of_lt_of_le r7.lt hlo7
    have nr10r8 : lo9_7 < lo10_7 := Nat.lt_of_lt_of_le r8.lt hlo7
    have nr10r9 : lo9_8 < lo10_7 := Nat.lt_of_lt_of_le r9.lt hlo7
    have nr11r0 : w.heap.size < lo10_8 := Nat.lt_of_lt_of_le r0.lt hlo8
    have nr11r1 : w.heap.size + 1 < lo10_8 := Nat.lt_of_lt_of_le r1.lt hlo8
    have nr11r2 : lo1_6 < lo10_8 := Nat.lt_of_lt_of_le r2.lt hlo8
    have nr11r3 : lo2_6 < lo10_8 := Nat.lt_of_lt_of_le r3.lt hlo8
    have nr11r4 : lo3_6 < lo10_8 := Nat.lt_of_lt_of_le r4.lt hlo8
    have nr11r5 : lo4_6 < lo10_8 := Nat.lt_of_lt_of_le r5.lt hlo8
    have nr11r6 : lo5_6 < lo10_8 := Nat.lt_of_lt_of_le r6.lt hlo8
    have nr11r7 : lo6_6 < lo10_8 := Nat.lt_of_lt_of_le r7.lt hlo8
    have nr11r8 : lo9_7 < lo10_8 := Nat.lt_of_lt_of_le r8.lt hlo8
    have nr11r9 : lo9_8 < lo10_8 := Nat.lt_of_lt_of_le r9.lt hlo8
    have hbw9 := hT.below
    have r10 : Row w9 lo10_7 31 ((W4 q)) := (hF 9 _ rfl rfl (by decide)).2
    have r11 : Row w9 lo10_8 31 ((W4 r)) := (hF 10 _ rfl rfl (by decide)).2
    replace r0 := r0.below hbw9 r0.lt
    replace r1 := r1.below hbw9 r1.lt
    replace r2 := r2.below hbw9 r2.lt
    replace r3 := r3.below hbw9 r3.lt
    replace r4 := r4.below hbw9 r4.lt
    replace r5 := r5.below hbw9 r5.lt
    replace r6 := r6.below hbw9 r6.lt
    replace r7 := r7.below hbw9 r7.lt
    replace r8 := r8.below hbw9 r8.lt
    replace r9 := r9.below hbw9 r9.lt
    replace hl := hl.trans (hbw9.mono hl.size)
    clear hT hG hF hbw9 hQ QQ L hlo7 hhi7 hlo8 hhi8
    go_upto_region 11 with (fail)
    let L : List Sp := [sA 1 31 [2] #[.int .u64 0, .int .u64 0, .int .u64 0, .int .u64 0], sT 2 1 31 [0] (fun g => aggOf g 0)]
    refine wp_region_six0 (shs L) (look6 L) (None_) (by kernel_rfl) (by kernel_rfl) (mk_St L [] [] (by kernel_rfl) (by kernel_rfl) ⟨ok_A, ok_T aggOf_congr, trivial⟩ (by simp)) ?_
    intro QQ hQ
    -- 0: load<31> *t2
    refine stepK rfl (by kernel_rfl) (fun K hK => ?_); go_simp
    apply Exists.intro; apply And.intro; (focus exact kLoad rfl rfl aggT31 r0 rfl id); refine hK _ _ ?_; clear hK K
    -- 1: alloc<31>
    refine stepS _ rfl (by kernel_rfl) (fun K hK => ?_); go_simp
    refine ⟨?_, ?_⟩
    · intro wk hk hg hu; go_simp; exact left_A rfl rfl
    rintro ⟨v1, lo11_1, hi1⟩ hlo1 hhi1 ⟨e1, f1⟩
    replace e1 : v1 = .pointer (some ⟨lo11_1, 0, none⟩) := e1; replace f1 : hi1 = lo11_1 + 1 := f1; replace hlo1 : _ ≤ lo11_1 := hlo1; subst e1; subst f1
    refine hK _ _ ?_; clear hK K
    -- 2: store<31> *t23 = t102
    refine stepS _ rfl (by kernel_rfl) (fun K hK => ?_); go_simp
    refine ⟨?_, ?_⟩
    · exact sStoreT rfl rfl rfl rfl rfl rfl rfl (by kernel_rfl) rfl (by kernel_rfl) (by decide) aggOf_congr
    rintro ⟨v2, lo2, hi2⟩ - - (rfl : v2 = undef)
    refine hK _ _ ?_; clear hK K
    refine stepN ?_
    refine hQ _ _ ?_
    intro w10 hT hG hF
    have nr12r0 : w.heap.size < lo11_1 := Nat.lt_of_lt_of_le r0.lt hlo1
    have nr12r1 : w.heap.size + 1 < lo11_1 := Nat.lt_of_lt_of_le r1.lt hlo1
    have nr12r2 : lo1_6 < lo11_1 := Nat.lt_of_lt_of_le r2.lt hlo1
    have nr12r3 : lo2_6 < lo11_1 := Nat.lt_of_lt_of_le r3.lt hlo1
    have nr12r4 : lo3_6 < lo11_1 := Nat.lt_of_lt_of_le r4.lt hlo1
    have nr12r5 : lo4_6 < lo11_1 := Nat.lt_of_lt_of_le r5.lt hlo1
    have nr12r6 : lo5_6 < lo11_1 := Nat.lt_of_lt_of_le r6.lt hlo1
    have nr12r7 : lo6_6 < lo11_1 := Nat.lt_of_lt_of_le r7.lt hlo1
    have nr12r8 : lo9_7 < lo11_1 := Nat.lt_of_lt_of_le r8.lt hlo1
    have nr12r9 : lo9_8 < lo11_1 := Nat.lt_of_lt_of_le r9.lt hlo1
    have nr12r10 : lo10_7 < lo11_1 := Nat.lt_of_lt_of_le r10.lt hlo1
    have nr12r11 : lo10_8 < lo11_1 := Nat.lt_of_lt_of_le r11.lt hlo1
    have hbw10 := hT.below
    have r12 : Row w10 lo11_1 31 ((W4 a)) := (hF 2 _ rfl rfl (by decide)).2
    replace r0 := r0.below hbw10 r0.lt
    replace r1 := r1.below hbw10 r1.lt
    replace r2 := r2.below hbw10 r2.lt
    replace r3 := r3.below hbw10 r3.lt
    replace r4 := r4.below hbw10 r4.lt
    replace r5 := r5.below hbw10 r5.lt
    replace r6 := r6.below hbw10 r6.lt
    replace r7 := r7.below hbw10 r7.lt
    replace r8 := r8.below hbw10 r8.lt
    replace r9 := r9.below hbw10 r9.lt
    replace r10 := r10.below hbw10 r10.lt
    replace r11 := r11.below hbw10 r11.lt
    replace hl := hl.trans (hbw10.mono hl.size)
    clear hT hG hF hbw10 hQ QQ L hlo1 hhi1
    go_upto_region 12 with (fail)
    let L : List Sp := [sV 2 [] [] (fun u => u = .int .i64 e)]
    refine wp_region_six0 (shs L) (look6 L) (None_) (by kernel_rfl) (by kernel_rfl) (mk_St L [] [] (by kernel_rfl) (by kernel_rfl) ⟨ok_V ⟨_, rfl⟩, trivial⟩ (by simp)) ?_
    intro QQ hQ
    -- 0: load<31> *t3
    refine stepK rfl (by kernel_rfl) (fun K hK => ?_); go_simp
    apply Exists.intro; apply And.intro; (focus exact kLoad rfl rfl aggT31 r1 rfl id); refine hK _ _ ?_; clear hK K
    -- 1: load<31> *t2
    refine stepK rfl (by kernel_rfl) (fun K hK => ?_); go_simp
    apply Exists.intro; apply And.intro; (focus exact kLoad rfl rfl aggT31 r0 rfl id); refine hK _ _ ?_; clear hK K
    -- 2: call F57(t103, t104)
    refine stepS _ rfl (by kernel_rfl) (fun K hK => ?_); go_simp
    refine ⟨?_, ?_⟩
    · intro wk hk hg hu; go_simp; refine upon_enter ((k8.out _).mono ?_); rintro e w' ⟨rfl, hb⟩; exact ⟨_, rfl, left_V (p := fun u => u = .int .i64 e) rfl (hb) rfl⟩
    rintro ⟨v2, lo2, hi2⟩ - - (rfl : v2 = _)
    refine hK _ _ ?_; clear hK K
    -- 3: lss<3> t105, 0
    refine stepK rfl (by kernel_rfl) (fun K hK => ?_); go_simp
    apply Exists.intro; apply And.intro; (focus (intro wk hk; go_simp; exact ⟨rfl, rfl⟩)); refine hK _ _ ?_; clear hK K
    refine stepN ?_
    refine hQ _ _ ?_
    intro w11 hT hG hF
    have hbw11 := hT.below
    replace r0 := r0.below hbw11 r0.lt
    replace r1 := r1.below hbw11 r1.lt
    replace r2 := r2.below hbw11 r2.lt
    replace r3 := r3.below hbw11 r3.lt
    replace r4 := r4.below hbw11 r4.lt
    replace r5 := r5.below hbw11 r5.lt
    replace r6 := r6.below hbw11 r6.lt
    replace r7 := r7.below hbw11 r7.lt
    replace r8 := r8.below hbw11 r8.lt
    replace r9 := r9.below hbw11 r9.lt
    replace r10 := r10.below hbw11 r10.lt
    replace r11 := r11.below hbw11 r11.lt
    replace r12 := r12.below hbw11 r12.lt
    replace hl := hl.trans (hbw11.mono hl.size)
    clear hT hG hF hbw11 hQ QQ L 
    go_upto_region 14 with (fail)
    let L : List Sp := [sV 16 [] [] (fun u => u = .int .i64 c), sV 19 [] [] (fun u => u = .int .i64 c), sV 25 [] [] (fun u => u = .agg (W4 a)), sV 30 [] [] (fun u => u = .bool true)]
    refine wp_region_six (shs L) (look6 L) (None_) (by kernel_rfl) (by kernel_rfl) (mk_St L [] [] (by kernel_rfl) (by kernel_rfl) ⟨ok_V ⟨_, rfl⟩, ok_V ⟨_, rfl⟩, ok_V ⟨_, rfl⟩, ok_V ⟨_, rfl⟩, trivial⟩ (by simp)) ?_
    intro QQ hQ
    -- 0: load<31> *t17
    refine stepK rfl (by kernel_rfl) (fun K hK => ?_); go_simp
    apply Exists.intro; apply And.intro; (focus exact kLoad rfl rfl aggT31 r8 rfl id); refine hK _ _ ?_; clear hK K
    -- 1: load<31> *t20
    refine stepK rfl (by kernel_rfl) (fun K hK => ?_); go_simp
    apply Exists.intro; apply And.intro; (focus exact kLoad rfl rfl aggT31 r10 rfl id); refine hK _ _ ?_; clear hK K
    -- 2: eql<31> t108, t109
    refine stepK rfl (by kernel_rfl) (fun K hK => ?_); go_simp
    apply Exists.intro; apply And.intro; (focus (intro wk hk; go_simp; exact ⟨rfl, rfl⟩)); refine hK _ _ ?_; clear hK K
    -- 3: t110
    refine stepK rfl (by kernel_rfl) (fun K hK => ?_); go_simp
    apply Exists.intro; apply And.intro; (focus (intro wk hk; go_simp; exact ⟨rfl, rfl⟩)); refine hK _ _ ?_; clear hK K
    -- 4: load<31> *t18
    refine stepK rfl (by kernel_rfl) (fun K hK => ?_); go_simp
    first | (refine hK _ _ ?_; clear hK K) | (apply Exists.intro; apply And.intro; (focus exact kLoad rfl rfl aggT31 r9 rfl id); refine hK _ _ ?_; clear hK K)
    -- 5: load<31> *t21
    refine stepK rfl (by kernel_rfl) (fun K hK => ?_); go_simp
    first | (refine hK _ _ ?_; clear hK K) | (apply Exists.intro; apply And.intro; (focus exact kLoad rfl rfl aggT31 r11 rfl id); refine hK _ _ ?_; clear hK K)
    -- 6: eql<31> t112, t113
    refine stepK rfl (by kernel_rfl) (fun K hK => ?_); go_simp
    first | (refine hK _ _ ?_; clear hK K) | (apply Exists.intro; apply And.intro; (focus (intro wk hk; go_simp; exact ⟨rfl, rfl⟩)); refine hK _ _ ?_; clear hK K)
    -- 7: pick t111 ? t114 : false
    refine stepK rfl (by kernel_rfl) (fun K hK => ?_); go_simp
    apply Exists.intro; apply And.intro; (focus (intro wk hk; go_simp; exact ⟨rfl, rfl⟩)); refine hK _ _ ?_; clear hK K
    -- 8: t115
    refine stepK rfl (by kernel_rfl) (fun K hK => ?_); go_simp
    apply Exists.intro; apply And.intro; (focus (intro wk hk; go_simp; exact ⟨rfl, rfl⟩)); refine hK _ _ ?_; clear hK K
    -- 9: t19
    refine stepK rfl (by kernel_rfl) (fun K hK => ?_); go_simp
    first | (refine hK _ _ ?_; clear hK K) | (apply Exists.intro; apply And.intro; (focus (intro wk hk; go_simp; exact ⟨rfl, rfl⟩)); refine hK _ _ ?_; clear hK K)
    -- 10: t22
    refine stepK rfl (by kernel_rfl) (fun K hK => ?_); go_simp
    first | (refine hK _ _ ?_; clear hK K) | (apply Exists.intro; apply And.intro; (focus (intro wk hk; go_simp; exact ⟨rfl, rfl⟩)); refine hK _ _ ?_; clear hK K)
    -- 11: eql<4> t117, t118
    refine stepK rfl (by kernel_rfl) (fun K hK => ?_); go_simp
    first | (refine hK _ _ ?_; clear hK K) | (apply Exists.intro; apply And.intro; (focus (intro wk hk; go_simp; exact ⟨rfl, rfl⟩)); refine hK _ _ ?_; clear hK K)
    -- 12: pick t116 ? t119 : false
    refine stepK rfl (by kernel_rfl) (fun K hK => ?_); go_simp
    apply Exists.intro; apply And.intro; (focus (intro wk hk; go_simp; exact ⟨rfl, rfl⟩)); refine hK _ _ ?_; clear hK K
    -- 13: t120
    refine stepK rfl (by kernel_rfl) (fun K hK => ?_); go_simp
    apply Exists.intro; apply And.intro; (focus (intro wk hk; go_simp; exact ⟨rfl, rfl⟩)); refine hK _ _ ?_; clear hK K
    -- 14: load<31> *t2
    refine stepK rfl (by kernel_rfl) (fun K hK => ?_); go_simp
    first | (refine hK _ _ ?_; clear hK K) | (apply Exists.intro; apply And.intro; (focus exact kLoad rfl rfl aggT31 r0 rfl id); refine hK _ _ ?_; clear hK K)
    -- 15: load<31> *t3
    refine stepK rfl (by kernel_rfl) (fun K hK => ?_); go_simp
    first | (refine hK _ _ ?_; clear hK K) | (apply Exists.intro; apply And.intro; (focus exact kLoad rfl rfl aggT31 r1 rfl id); refine hK _ _ ?_; clear hK K)
    -- 16: call F48(t122, t123)
    refine stepS _ rfl (by kernel_rfl) (fun K hK => ?_); go_simp
    refine ⟨?_, ?_⟩
    · intro wk hk hg hu; go_simp; refine upon_enter ((k9.out _).mono ?_); rintro e w' ⟨rfl, hb⟩; exact ⟨_, rfl, left_V (p := fun u => u = .int .i64 c) rfl (hb) rfl⟩
    rintro ⟨v16, lo16, hi16⟩ - - (rfl : v16 = _)
    refine hK _ _ ?_; clear hK K
    -- 17: load<31> *t2
    refine stepK rfl (by kernel_rfl) (fun K hK => ?_); go_simp
    first | (refine hK _ _ ?_; clear hK K) | (apply Exists.intro; apply And.intro; (focus exact kLoad rfl rfl aggT31 r0 rfl id); refine hK _ _ ?_; clear hK K)
    -- 18: load<31> *t3
    refine stepK rfl (by kernel_rfl) (fun K hK => ?_); go_simp
    first | (refine hK _ _ ?_; clear hK K) | (apply Exists.intro; apply And.intro; (focus exact kLoad rfl rfl aggT31 r1 rfl id); refine hK _ _ ?_; clear hK K)
    -- 19: call F57(t125, t126)
    refine stepS _ rfl (by kernel_rfl) (fun K hK => ?_); go_simp
    refine ⟨?_, ?_⟩
    · intro wk hk hg hu; go_simp; refine upon_enter ((k10.out _).mono ?_); rintro e w' ⟨rfl, hb⟩; exact ⟨_, rfl, left_V (p := fun u => u = .int .i64 c) rfl (hb) rfl⟩
    rintro ⟨v19, lo19, hi19⟩ - - (rfl : v19 = _)
    refine hK _ _ ?_; clear hK K
    -- 20: eql<3> t124, t127
    refine stepK rfl (by kernel_rfl) (fun K hK => ?_); go_simp
    first | (refine hK _ _ ?_; clear hK K) | (apply Exists.intro; apply And.intro; (focus (intro wk hk; go_simp; exact ⟨rfl, rfl⟩)); refine hK _ _ ?_; clear hK K)
    -- 21: pick t121 ? t128 : false
    refine stepK rfl (by kernel_rfl) (fun K hK => ?_); go_simp
    apply Exists.intro; apply And.intro; (focus (intro wk hk; go_simp; exact ⟨rfl, rfl⟩)); refine hK _ _ ?_; clear hK K
    -- 22: t129
    refine stepK rfl (by kernel_rfl) (fun K hK => ?_); go_simp
    apply Exists.intro; apply And.intro; (focus (intro wk hk; go_simp; exact ⟨rfl, rfl⟩)); refine hK _ _ ?_; clear hK K
    -- 23: load<31> *t2
    refine stepK rfl (by kernel_rfl) (fun K hK => ?_); go_simp
    first | (refine hK _ _ ?_; clear hK K) | (apply Exists.intro; apply And.intro; (focus exact kLoad rfl rfl aggT31 r0 rfl id); refine hK _ _ ?_; clear hK K)
    -- 24: load<31> *t3
    refine stepK rfl (by kernel_rfl) (fun K hK => ?_); go_simp
    first | (refine hK _ _ ?_; clear hK K) | (apply Exists.intro; apply And.intro; (focus exact kLoad rfl rfl aggT31 r1 rfl id); refine hK _ _ ?_; clear hK K)
    -- 25: call F58(t131, t132)
    refine stepS _ rfl (by kernel_rfl) (fun K hK => ?_); go_simp
    refine ⟨?_, ?_⟩
    · intro wk hk hg hu; go_simp; refine upon_enter ((k11.out _).mono ?_); rintro e w' ⟨rfl, hb⟩; exact ⟨_, rfl, left_V (p := fun u => u = .agg (W4 a)) rfl (hb) rfl⟩
    rintro ⟨v25, lo25, hi25⟩ - - (rfl : v25 = _)
    refine hK _ _ ?_; clear hK K
    -- 26: load<31> *t23
    refine stepK rfl (by kernel_rfl) (fun K hK => ?_); go_simp
    first | (refine hK _ _ ?_; clear hK K) | (apply Exists.intro; apply And.intro; (focus exact kLoad rfl rfl aggT31 r12 rfl id); refine hK _ _ ?_; clear hK K)
    -- 27: eql<31> t133, t134
    refine stepK rfl (by kernel_rfl) (fun K hK => ?_); go_simp
    first | (refine hK _ _ ?_; clear hK K) | (apply Exists.intro; apply And.intro; (focus (intro wk hk; go_simp; exact ⟨rfl, rfl⟩)); refine hK _ _ ?_; clear hK K)
    -- 28: pick t130 ? t135 : false
    refine stepK rfl (by kernel_rfl) (fun K hK => ?_); go_simp
    apply Exists.intro; apply And.intro; (focus (intro wk hk; go_simp; exact ⟨rfl, rfl⟩)); refine hK _ _ ?_; clear hK K
    -- 29: t136
    refine stepK rfl (by kernel_rfl) (fun K hK => ?_); go_simp
    apply Exists.intro; apply And.intro; (focus (intro wk hk; go_simp; exact ⟨rfl, rfl⟩)); refine hK _ _ ?_; clear hK K
    -- 30: call F50()
    refine stepS _ rfl (by kernel_rfl) (fun K hK => ?_); go_simp
    refine ⟨?_, ?_⟩
    · intro wk hk hg hu; go_simp; refine upon_enter ((k12.out _).mono ?_); rintro e w' ⟨rfl, hb⟩; exact ⟨_, rfl, left_V (p := fun u => u = .bool true) rfl (hb) rfl⟩
    rintro ⟨v30, lo30, hi30⟩ - - (rfl : v30 = _)
    refine hK _ _ ?_; clear hK K
    -- 31: pick t137 ? t138 : false
    refine stepK rfl (by kernel_rfl) (fun K hK => ?_); go_simp
    apply Exists.intro; apply And.intro; (focus (intro wk hk; go_simp; exact ⟨rfl, rfl⟩)); refine hK _ _ ?_; clear hK K
    -- 32: assign t139
    refine stepK rfl (by kernel_rfl) (fun K hK => ?_); go_simp
    apply Exists.intro; apply And.intro; (focus (intro wk hk; go_simp; exact ⟨rfl, rfl⟩)); refine hK _ _ ?_; clear hK K
    refine stepN ?_
    refine hQ _ _ ?_
    intro w12 hT hG hF
    have hbw12 := hT.undrew.below
    replace r0 := r0.below hbw12 r0.lt
    replace r1 := r1.below hbw12 r1.lt
    replace r2 := r2.below hbw12 r2.lt
    replace r3 := r3.below hbw12 r3.lt
    replace r4 := r4.below hbw12 r4.lt
    replace r5 := r5.below hbw12 r5.lt
    replace r6 := r6.below hbw12 r6.lt
    replace r7 := r7.below hbw12 r7.lt
    replace r8 := r8.below hbw12 r8.lt
    replace r9 := r9.below hbw12 r9.lt
    replace r10 := r10.below hbw12 r10.lt
    replace r11 := r11.below hbw12 r11.lt
    replace r12 := r12.below hbw12 r12.lt
    replace hl := hl.trans (hbw12.mono hl.size)
    clear hT hG hF hbw12 hQ QQ L 
    go_wp2_with fail
    go_ret
    exact ⟨rfl, hl⟩
end Go.Proofs.Ytpdenhmkpiafiaa
