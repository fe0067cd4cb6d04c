/-
  tallagelaw01.WordForms, THE WALK.
-/
import Derived.Test.YtpdenhmkpiafiaaFormsB
import Derived.Test.YtpdenhmkpiafiaaRefForm3
namespace Go.Proofs.Ytpdenhmkpiafiaa
open Go Go.RowKit K6 Ref

theorem pAt_lt (s : ByteArray) : ∀ i v, pAt s i = some v → v < M
  | 0, v, h => by
    have h1 : some 0 = some v := h
    cases h1
    exact M_pos
  | i + 1, v, h => by
    unfold pAt at h
    cases hv : pAt s i with
    | none => rw [hv] at h; cases h
    | some u =>
      rw [hv] at h
      simp only at h
      split at h
      · rename_i hc
        cases h
        exact hc.2.2.2
      · cases h
theorem parsN_lt (s : ByteArray) : (parsN s).getD 0 < M := by
  cases h : parsN s with
  | none => exact M_pos
  | some v =>
    have h1 : pAt s s.size = some v := by
      unfold parsN at h
      split at h
      · cases h
      · exact h
    exact pAt_lt s s.size v h1
set_option maxRecDepth 100000 in
set_option maxHeartbeats 16000000 in
theorem forms_walk (a : Nat) (ha : a < M) (r : Option Addr) (n c : Nat) (f : Nat → Nat) (hf : ∀ i, f i < 256) (s : ByteArray) (w : World)
    (hr : n = 32 → ∃ g o, r = some ⟨g, o, none⟩ ∧ g < w.heap.size ∧ ∀ i, i < 32 → w.cell? ⟨g, o + i, none⟩ = some (.int .u8 ((f i : Nat) : Int))) :
    Calls Try.prog 17 #[.agg (W4 a), .slice r n c, .string s] w (Ret w (.bool true)) := by
  by_cases hn : 200 < n
  · have hn1 : (200 : Int) < (n : Int) := by omega
    clear hr hn
    have k0 := Lib.hid (show ∀ wx, Calls Try.prog 50 #[] wx (Ret wx (.bool true)) from fun wx => by have h := lives1U  wx; exact h)
    go_enter Try.func17, Try.ntmps17
    apply wp_seq_eq
    focus
      intro J hJ
      go_wp2_with fail
      exact hJ
    refine wp_abs (Mem w [(w.heap.size, 31, W4 a)]) ⟨by go_grown, ?_, trivial⟩ ?_
    · repeat (first | (refine Row.new_at ?_; simp; done) | refine Row.alloc ?_ _)
    intro w0 hM
    obtain ⟨hl, r0, -⟩ := hM
    go_upto_region 2 with (fail)
    let L : List Sp := [sV 0 [] [] (fun u => u = .bool true)]
    refine wp_region_six0 (shs L) (look6 L) (None_) (by kernel_rfl) (by kernel_rfl) (mk_St L [] [] (by kernel_rfl) (by kernel_rfl) ⟨ok_V ⟨_, rfl⟩, trivial⟩ (by simp)) ?_
    intro QQ hQ
    -- 0: call F50()
    refine stepS _ rfl (by kernel_rfl) (fun K hK => ?_); go_simp
    refine ⟨?_, ?_⟩
    · intro wk hk hg hu; go_simp; refine upon_enter ((k0.out _).mono ?_); rintro e w' ⟨rfl, hb⟩; exact ⟨_, rfl, left_V (p := fun u => u = .bool true) rfl (hb) rfl⟩
    rintro ⟨v0, lo0, hi0⟩ - - (rfl : v0 = _)
    refine hK _ _ ?_; clear hK K
    -- 1: assign t27
    refine stepK rfl (by kernel_rfl) (fun K hK => ?_); go_simp
    apply Exists.intro; apply And.intro; (focus (intro wk hk; go_simp; exact ⟨rfl, rfl⟩)); refine hK _ _ ?_; clear hK K
    refine stepN ?_
    refine hQ _ _ ?_
    intro w1 hT hG hF
    have hbw1 := hT.below
    replace r0 := r0.below hbw1 r0.lt
    replace hl := hl.trans (hbw1.mono hl.size)
    clear hT hG hF hbw1 hQ QQ L 
    go_wp2_with fail
    go_ret
    exact ⟨rfl, hl⟩
  · have hn1 : (n : Int) ≤ 200 := by omega
    by_cases hs : 200 < s.size
    · have hs1 : (200 : Int) < (s.size : Int) := by omega
      clear hr hn hs
      have k0 := Lib.hid (show ∀ wx, Calls Try.prog 50 #[] wx (Ret wx (.bool true)) from fun wx => by have h := lives1U  wx; exact h)
      go_enter Try.func17, Try.ntmps17
      apply wp_seq_eq
      focus
        intro J hJ
        go_wp2_with fail
        exact hJ
      refine wp_abs (Mem w [(w.heap.size, 31, W4 a)]) ⟨by go_grown, ?_, trivial⟩ ?_
      · repeat (first | (refine Row.new_at ?_; simp; done) | refine Row.alloc ?_ _)
      intro w0 hM
      obtain ⟨hl, r0, -⟩ := hM
      go_upto_region 2 with (fail)
      let L : List Sp := [sV 0 [] [] (fun u => u = .bool true)]
      refine wp_region_six0 (shs L) (look6 L) (None_) (by kernel_rfl) (by kernel_rfl) (mk_St L [] [] (by kernel_rfl) (by kernel_rfl) ⟨ok_V ⟨_, rfl⟩, trivial⟩ (by simp)) ?_
      intro QQ hQ
      -- 0: call F50()
      refine stepS _ rfl (by kernel_rfl) (fun K hK => ?_); go_simp
      refine ⟨?_, ?_⟩
      · intro wk hk hg hu; go_simp; refine upon_enter ((k0.out _).mono ?_); rintro e w' ⟨rfl, hb⟩; exact ⟨_, rfl, left_V (p := fun u => u = .bool true) rfl (hb) rfl⟩
      rintro ⟨v0, lo0, hi0⟩ - - (rfl : v0 = _)
      refine hK _ _ ?_; clear hK K
      -- 1: assign t27
      refine stepK rfl (by kernel_rfl) (fun K hK => ?_); go_simp
      apply Exists.intro; apply And.intro; (focus (intro wk hk; go_simp; exact ⟨rfl, rfl⟩)); refine hK _ _ ?_; clear hK K
      refine stepN ?_
      refine hQ _ _ ?_
      intro w1 hT hG hF
      have hbw1 := hT.below
      replace r0 := r0.below hbw1 r0.lt
      replace hl := hl.trans (hbw1.mono hl.size)
      clear hT hG hF hbw1 hQ QQ L 
      go_wp2_with fail
      go_ret
      exact ⟨rfl, hl⟩
    have hs1 : (s.size : Int) ≤ 200 := by omega
    clear hn hs
    have hr' : ∀ wx, Below w.heap.size w wx → (n = 32 → ∃ g o, r = some ⟨g, o, none⟩ ∧ g < wx.heap.size ∧ ∀ i, i < 32 → wx.cell? ⟨g, o + i, none⟩ = some (.int .u8 ((f i : Nat) : Int))) := fun wx hb h => by
      obtain ⟨g, o, e, hg, hc⟩ := hr h
      exact ⟨g, o, e, Nat.lt_of_lt_of_le hg hb.size, fun i hi => ((bcell hb).1 g (o + i) hg).trans (hc i hi)⟩
    have k1 := fun wx hb => (fromBytes_any r n c f wx hf (hr' wx hb)).mono fun _ _ => pair_ret
    have k2 := fun wx hb => (refFrom_any r n c f wx hf (hr' wx hb)).mono fun _ _ => pair_ret
    clear hr hr'
    obtain ⟨x, hx⟩ : ∃ x, (if n = 32 then fromN f 32 else 0) = x := ⟨_, rfl⟩
    obtain ⟨xo, hxo⟩ : ∃ x, decide (n = 32) = x := ⟨_, rfl⟩
    rw [hx, hxo] at k1 k2
    have xl : x < M := by rw [← hx]; split; exact fromN_bd f hf; exact M_pos
    clear hx hxo hf
    have k3 := fun wx => parseU s wx
    have k4 := fun wx => refparseU s wx
    have pl0 := parsN_lt s
    obtain ⟨p, hp⟩ : ∃ x, (parsN s).getD 0 = x := ⟨_, rfl⟩
    obtain ⟨po, hpo⟩ : ∃ x, (parsN s).isSome = x := ⟨_, rfl⟩
    rw [hp, hpo] at k3 k4
    have pl : p < M := hp ▸ pl0
    clear hp hpo pl0
    have k5 := fun wx => intU ha wx
    have k6 := fun wx => refIntU ha wx
    obtain ⟨i, hi⟩ : ∃ x, intN a = x := ⟨_, rfl⟩
    obtain ⟨io, hio⟩ : ∃ x, decide (a < 2 ^ 63) = x := ⟨_, rfl⟩
    rw [hi, hio] at k5 k6
    clear hi hio
    obtain ⟨T, hT⟩ := txt_is ha
    have kt := Lib.hid fun wx => (textU ha wx).mono (hT wx)
    have kr := Lib.hid fun wx => (refText_any a ha wx).mono (hT wx)
    clear hT
    have kb := fun wx => bitsU ha wx
    have kd := fun wx => refBitsU ha wx
    obtain ⟨e, he⟩ : ∃ x, ((blen a : Nat) : Int) = x := ⟨_, rfl⟩
    rw [he] at kb kd
    clear he
    obtain ⟨B, hB0⟩ : ∃ B, strOfNums (BL a) = B := ⟨_, rfl⟩
    have hB := Lib.hid hB0
    clear hB0
    have k82 := Lib.hid fun wx => bytes82 ha wx
    have k100 := Lib.hid fun wx => bytes100 ha wx
    obtain ⟨y, hy⟩ : ∃ y, a % 2 ^ 64 = y := ⟨_, rfl⟩
    have hyl : y < 2 ^ 64 := hy ▸ Nat.mod_lt _ (by decide)
    have hcell := Lib.hid (show ∀ (wx : World) (b : Nat), Row wx b 31 (W4 a) → wx.cell? ⟨b, 0, none⟩ = some (.int .u64 (y : Int)) from fun _ _ h => by rw [← hy, ← word0]; exact h.cell 0)
    have ko := Lib.hid fun wx => ofU y hyl wx
    have qz := fun wx => lowEq hyl wx
    have kl := Lib.hid lives1U
    clear hy hyl
    replace k1 := Lib.hid k1
    replace k2 := Lib.hid k2
    replace k3 := Lib.hid k3
    replace k4 := Lib.hid k4
    replace k5 := Lib.hid k5
    replace k6 := Lib.hid k6
    replace kb := Lib.hid kb
    replace kd := Lib.hid kd
    have q0 : ∀ wx, (Op.equalIn 10000 31 (.agg (W4 x)) (.agg (W4 x))).run Try.prog wx = .ok true wx := fun wx => by rw [eqU xl xl, decide_eq_true rfl]
    have q1 : ∀ wx, (Op.equalIn 10000 31 (.agg (W4 p)) (.agg (W4 p))).run Try.prog wx = .ok true wx := fun wx => by rw [eqU pl pl, decide_eq_true rfl]
    go_enter Try.func17, Try.ntmps17
    apply wp_seq_eq
    focus
      intro J hJ
      go_wp2_with fail
      exact hJ
    refine wp_abs (Mem w [(w.heap.size, 31, W4 a)]) ⟨by go_grown, ?_, trivial⟩ ?_
    · repeat (first | (refine Row.new_at ?_; simp; done) | refine Row.alloc ?_ _)
    intro w0 hM
    obtain ⟨hl, r0, -⟩ := hM
    go_upto_region 3 with (fail)
    let L : List Sp := [sV 1 [] [] (fun u => u = .tuple #[.agg (W4 x), .bool (xo)]), sA 5 31 [6] #[.int .u64 0, .int .u64 0, .int .u64 0, .int .u64 0], sT 6 5 31 [3] (fun g => aggOf g 3)]
    refine wp_region_six0 (shs L) (look6 L) (None_) (by kernel_rfl) (by kernel_rfl) (mk_St L [] [] (by kernel_rfl) (by kernel_rfl) ⟨ok_V ⟨_, rfl⟩, ok_A, ok_T aggOf_congr, trivial⟩ (by simp)) ?_
    intro QQ hQ
    -- 0: t1
    refine stepK rfl (by kernel_rfl) (fun K hK => ?_); go_simp
    apply Exists.intro; apply And.intro; (focus (intro wk hk; go_simp; exact ⟨rfl, rfl⟩)); refine hK _ _ ?_; clear hK K
    -- 1: call F81(t29)
    refine stepS _ rfl (by kernel_rfl) (fun K hK => ?_); go_simp
    refine ⟨?_, ?_⟩
    · intro wk hk hg hu; go_simp; refine upon_enter ((k1.out _ (hl.trans (hk.below.mono hl.size))).mono ?_); rintro e w' ⟨rfl, hb⟩; exact ⟨_, rfl, left_V (p := fun u => u = .tuple #[.agg (W4 x), .bool (xo)]) rfl (hb) rfl⟩
    rintro ⟨v1, lo1, hi1⟩ - - (rfl : v1 = _)
    refine hK _ _ ?_; clear hK K
    -- 2: t30
    refine stepK rfl (by kernel_rfl) (fun K hK => ?_); go_simp
    apply Exists.intro; apply And.intro; (focus (intro wk hk; go_simp; exact ⟨rfl, rfl⟩)); refine hK _ _ ?_; clear hK K
    -- 3: extract t28 #0
    refine stepK rfl (by kernel_rfl) (fun K hK => ?_); go_simp
    apply Exists.intro; apply And.intro; (focus (intro wk hk; go_simp; exact ⟨rfl, rfl⟩)); refine hK _ _ ?_; clear hK K
    -- 4: extract t28 #1
    refine stepK rfl (by kernel_rfl) (fun K hK => ?_); go_simp
    apply Exists.intro; apply And.intro; (focus (intro wk hk; go_simp; exact ⟨rfl, rfl⟩)); refine hK _ _ ?_; clear hK K
    -- 5: alloc<31>
    refine stepS _ rfl (by kernel_rfl) (fun K hK => ?_); go_simp
    refine ⟨?_, ?_⟩
    · intro wk hk hg hu; go_simp; exact left_A rfl rfl
    rintro ⟨v5, lo3_5, hi5⟩ hlo5 hhi5 ⟨e5, f5⟩
    replace e5 : v5 = .pointer (some ⟨lo3_5, 0, none⟩) := e5; replace f5 : hi5 = lo3_5 + 1 := f5; replace hlo5 : _ ≤ lo3_5 := hlo5; subst e5; subst f5
    refine hK _ _ ?_; clear hK K
    -- 6: store<31> *t7 = t31
    refine stepS _ rfl (by kernel_rfl) (fun K hK => ?_); go_simp
    refine ⟨?_, ?_⟩
    · exact sStoreT rfl rfl rfl rfl rfl rfl rfl (by kernel_rfl) rfl (by kernel_rfl) (by decide) aggOf_congr
    rintro ⟨v6, lo6, hi6⟩ - - (rfl : v6 = undef)
    refine hK _ _ ?_; clear hK K
    -- 7: assign t32
    refine stepK rfl (by kernel_rfl) (fun K hK => ?_); go_simp
    apply Exists.intro; apply And.intro; (focus (intro wk hk; go_simp; exact ⟨rfl, rfl⟩)); refine hK _ _ ?_; clear hK K
    refine stepN ?_
    refine hQ _ _ ?_
    intro w1 hT hG hF
    have hbw1 := hT.below
    have r1 : Row w1 lo3_5 31 ((W4 x)) := (hF 6 _ rfl rfl (by decide)).2
    replace r0 := r0.below hbw1 r0.lt
    replace hl := hl.trans (hbw1.mono hl.size)
    clear hT hG hF hbw1 hQ QQ L hlo5 hhi5
    go_upto_region 4 with (fail)
    let L : List Sp := [sV 1 [] [] (fun u => u = .tuple #[.agg (W4 x), .bool (xo)]), sA 5 31 [6] #[.int .u64 0, .int .u64 0, .int .u64 0, .int .u64 0], sT 6 5 31 [3] (fun g => aggOf g 3)]
    refine wp_region_six0 (shs L) (look6 L) (None_) (by kernel_rfl) (by kernel_rfl) (mk_St L [] [] (by kernel_rfl) (by kernel_rfl) ⟨ok_V ⟨_, rfl⟩, ok_A, ok_T aggOf_congr, trivial⟩ (by simp)) ?_
    intro QQ hQ
    -- 0: t1
    refine stepK rfl (by kernel_rfl) (fun K hK => ?_); go_simp
    apply Exists.intro; apply And.intro; (focus (intro wk hk; go_simp; exact ⟨rfl, rfl⟩)); refine hK _ _ ?_; clear hK K
    -- 1: call F96(t34)
    refine stepS _ rfl (by kernel_rfl) (fun K hK => ?_); go_simp
    refine ⟨?_, ?_⟩
    · intro wk hk hg hu; go_simp; refine upon_enter ((k2.out _ (hl.trans (hk.below.mono hl.size))).mono ?_); rintro e w' ⟨rfl, hb⟩; exact ⟨_, rfl, left_V (p := fun u => u = .tuple #[.agg (W4 x), .bool (xo)]) rfl (hb) rfl⟩
    rintro ⟨v1, lo1, hi1⟩ - - (rfl : v1 = _)
    refine hK _ _ ?_; clear hK K
    -- 2: t35
    refine stepK rfl (by kernel_rfl) (fun K hK => ?_); go_simp
    apply Exists.intro; apply And.intro; (focus (intro wk hk; go_simp; exact ⟨rfl, rfl⟩)); refine hK _ _ ?_; clear hK K
    -- 3: extract t33 #0
    refine stepK rfl (by kernel_rfl) (fun K hK => ?_); go_simp
    apply Exists.intro; apply And.intro; (focus (intro wk hk; go_simp; exact ⟨rfl, rfl⟩)); refine hK _ _ ?_; clear hK K
    -- 4: extract t33 #1
    refine stepK rfl (by kernel_rfl) (fun K hK => ?_); go_simp
    apply Exists.intro; apply And.intro; (focus (intro wk hk; go_simp; exact ⟨rfl, rfl⟩)); refine hK _ _ ?_; clear hK K
    -- 5: alloc<31>
    refine stepS _ rfl (by kernel_rfl) (fun K hK => ?_); go_simp
    refine ⟨?_, ?_⟩
    · intro wk hk hg hu; go_simp; exact left_A rfl rfl
    rintro ⟨v5, lo4_5, hi5⟩ hlo5 hhi5 ⟨e5, f5⟩
    replace e5 : v5 = .pointer (some ⟨lo4_5, 0, none⟩) := e5; replace f5 : hi5 = lo4_5 + 1 := f5; replace hlo5 : _ ≤ lo4_5 := hlo5; subst e5; subst f5
    refine hK _ _ ?_; clear hK K
    -- 6: store<31> *t9 = t36
    refine stepS _ rfl (by kernel_rfl) (fun K hK => ?_); go_simp
    refine ⟨?_, ?_⟩
    · exact sStoreT rfl rfl rfl rfl rfl rfl rfl (by kernel_rfl) rfl (by kernel_rfl) (by decide) aggOf_congr
    rintro ⟨v6, lo6, hi6⟩ - - (rfl : v6 = undef)
    refine hK _ _ ?_; clear hK K
    -- 7: assign t37
    refine stepK rfl (by kernel_rfl) (fun K hK => ?_); go_simp
    apply Exists.intro; apply And.intro; (focus (intro wk hk; go_simp; exact ⟨rfl, rfl⟩)); refine hK _ _ ?_; clear hK K
    refine stepN ?_
    refine hQ _ _ ?_
    intro w2 hT hG hF
    have hbw2 := hT.below
    have r2 : Row w2 lo4_5 31 ((W4 x)) := (hF 6 _ rfl rfl (by decide)).2
    replace r0 := r0.below hbw2 r0.lt
    replace r1 := r1.below hbw2 r1.lt
    replace hl := hl.trans (hbw2.mono hl.size)
    clear hT hG hF hbw2 hQ QQ L hlo5 hhi5
    go_upto_region 5 with (fail)
    let L : List Sp := [sV 1 [] [] (fun u => u = .tuple #[.agg (W4 p), .bool (po)]), sA 5 31 [6] #[.int .u64 0, .int .u64 0, .int .u64 0, .int .u64 0], sT 6 5 31 [3] (fun g => aggOf g 3)]
    refine wp_region_six0 (shs L) (look6 L) (None_) (by kernel_rfl) (by kernel_rfl) (mk_St L [] [] (by kernel_rfl) (by kernel_rfl) ⟨ok_V ⟨_, rfl⟩, ok_A, ok_T aggOf_congr, trivial⟩ (by simp)) ?_
    intro QQ hQ
    -- 0: t2
    refine stepK rfl (by kernel_rfl) (fun K hK => ?_); go_simp
    apply Exists.intro; apply And.intro; (focus (intro wk hk; go_simp; exact ⟨rfl, rfl⟩)); refine hK _ _ ?_; clear hK K
    -- 1: call F83(t39)
    refine stepS _ rfl (by kernel_rfl) (fun K hK => ?_); go_simp
    refine ⟨?_, ?_⟩
    · intro wk hk hg hu; go_simp; refine upon_enter ((k3.out _).mono ?_); rintro e w' ⟨rfl, hb⟩; exact ⟨_, rfl, left_V (p := fun u => u = .tuple #[.agg (W4 p), .bool (po)]) rfl (hb) rfl⟩
    rintro ⟨v1, lo1, hi1⟩ - - (rfl : v1 = _)
    refine hK _ _ ?_; clear hK K
    -- 2: t40
    refine stepK rfl (by kernel_rfl) (fun K hK => ?_); go_simp
    apply Exists.intro; apply And.intro; (focus (intro wk hk; go_simp; exact ⟨rfl, rfl⟩)); refine hK _ _ ?_; clear hK K
    -- 3: extract t38 #0
    refine stepK rfl (by kernel_rfl) (fun K hK => ?_); go_simp
    apply Exists.intro; apply And.intro; (focus (intro wk hk; go_simp; exact ⟨rfl, rfl⟩)); refine hK _ _ ?_; clear hK K
    -- 4: extract t38 #1
    refine stepK rfl (by kernel_rfl) (fun K hK => ?_); go_simp
    apply Exists.intro; apply And.intro; (focus (intro wk hk; go_simp; exact ⟨rfl, rfl⟩)); refine hK _ _ ?_; clear hK K
    -- 5: alloc<31>
    refine stepS _ rfl (by kernel_rfl) (fun K hK => ?_); go_simp
    refine ⟨?_, ?_⟩
    · intro wk hk hg hu; go_simp; exact left_A rfl rfl
    rintro ⟨v5, lo5_5, hi5⟩ hlo5 hhi5 ⟨e5, f5⟩
    replace e5 : v5 = .pointer (some ⟨lo5_5, 0, none⟩) := e5; replace f5 : hi5 = lo5_5 + 1 := f5; replace hlo5 : _ ≤ lo5_5 := hlo5; subst e5; subst f5
    refine hK _ _ ?_; clear hK K
    -- 6: store<31> *t11 = t41
    refine stepS _ rfl (by kernel_rfl) (fun K hK => ?_); go_simp
    refine ⟨?_, ?_⟩
    · exact sStoreT rfl rfl rfl rfl rfl rfl rfl (by kernel_rfl) rfl (by kernel_rfl) (by decide) aggOf_congr
    rintro ⟨v6, lo6, hi6⟩ - - (rfl : v6 = undef)
    refine hK _ _ ?_; clear hK K
    -- 7: assign t42
    refine stepK rfl (by kernel_rfl) (fun K hK => ?_); go_simp
    apply Exists.intro; apply And.intro; (focus (intro wk hk; go_simp; exact ⟨rfl, rfl⟩)); refine hK _ _ ?_; clear hK K
    refine stepN ?_
    refine hQ _ _ ?_
    intro w3 hT hG hF
    have hbw3 := hT.below
    have r3 : Row w3 lo5_5 31 ((W4 p)) := (hF 6 _ rfl rfl (by decide)).2
    replace r0 := r0.below hbw3 r0.lt
    replace r1 := r1.below hbw3 r1.lt
    replace r2 := r2.below hbw3 r2.lt
    replace hl := hl.trans (hbw3.mono hl.size)
    clear hT hG hF hbw3 hQ QQ L hlo5 hhi5
    go_upto_region 6 with (fail)
    let L : List Sp := [sV 1 [] [] (fun u => u = .tuple #[.agg (W4 p), .bool (po)]), sA 5 31 [6] #[.int .u64 0, .int .u64 0, .int .u64 0, .int .u64 0], sT 6 5 31 [3] (fun g => aggOf g 3)]
    refine wp_region_six0 (shs L) (look6 L) (None_) (by kernel_rfl) (by kernel_rfl) (mk_St L [] [] (by kernel_rfl) (by kernel_rfl) ⟨ok_V ⟨_, rfl⟩, ok_A, ok_T aggOf_congr, trivial⟩ (by simp)) ?_
    intro QQ hQ
    -- 0: t2
    refine stepK rfl (by kernel_rfl) (fun K hK => ?_); go_simp
    apply Exists.intro; apply And.intro; (focus (intro wk hk; go_simp; exact ⟨rfl, rfl⟩)); refine hK _ _ ?_; clear hK K
    -- 1: call F97(t44)
    refine stepS _ rfl (by kernel_rfl) (fun K hK => ?_); go_simp
    refine ⟨?_, ?_⟩
    · intro wk hk hg hu; go_simp; refine upon_enter ((k4.out _).mono ?_); rintro e w' ⟨rfl, hb⟩; exact ⟨_, rfl, left_V (p := fun u => u = .tuple #[.agg (W4 p), .bool (po)]) rfl (hb) rfl⟩
    rintro ⟨v1, lo1, hi1⟩ - - (rfl : v1 = _)
    refine hK _ _ ?_; clear hK K
    -- 2: t45
    refine stepK rfl (by kernel_rfl) (fun K hK => ?_); go_simp
    apply Exists.intro; apply And.intro; (focus (intro wk hk; go_simp; exact ⟨rfl, rfl⟩)); refine hK _ _ ?_; clear hK K
    -- 3: extract t43 #0
    refine stepK rfl (by kernel_rfl) (fun K hK => ?_); go_simp
    apply Exists.intro; apply And.intro; (focus (intro wk hk; go_simp; exact ⟨rfl, rfl⟩)); refine hK _ _ ?_; clear hK K
    -- 4: extract t43 #1
    refine stepK rfl (by kernel_rfl) (fun K hK => ?_); go_simp
    apply Exists.intro; apply And.intro; (focus (intro wk hk; go_simp; exact ⟨rfl, rfl⟩)); refine hK _ _ ?_; clear hK K
    -- 5: alloc<31>
    refine stepS _ rfl (by kernel_rfl) (fun K hK => ?_); go_simp
    refine ⟨?_, ?_⟩
    · intro wk hk hg hu; go_simp; exact left_A rfl rfl
    rintro ⟨v5, lo6_5, hi5⟩ hlo5 hhi5 ⟨e5, f5⟩
    replace e5 : v5 = .pointer (some ⟨lo6_5, 0, none⟩) := e5; replace f5 : hi5 = lo6_5 + 1 := f5; replace hlo5 : _ ≤ lo6_5 := hlo5; subst e5; subst f5
    refine hK _ _ ?_; clear hK K
    -- 6: store<31> *t13 = t46
    refine stepS _ rfl (by kernel_rfl) (fun K hK => ?_); go_simp
    refine ⟨?_, ?_⟩
    · exact sStoreT rfl rfl rfl rfl rfl rfl rfl (by kernel_rfl) rfl (by kernel_rfl) (by decide) aggOf_congr
    rintro ⟨v6, lo6, hi6⟩ - - (rfl : v6 = undef)
    refine hK _ _ ?_; clear hK K
    -- 7: assign t47
    refine stepK rfl (by kernel_rfl) (fun K hK => ?_); go_simp
    apply Exists.intro; apply And.intro; (focus (intro wk hk; go_simp; exact ⟨rfl, rfl⟩)); refine hK _ _ ?_; clear hK K
    refine stepN ?_
    refine hQ _ _ ?_
    intro w4 hT hG hF
    have hbw4 := hT.below
    have r4 : Row w4 lo6_5 31 ((W4 p)) := (hF 6 _ rfl rfl (by decide)).2
    replace r0 := r0.below hbw4 r0.lt
    replace r1 := r1.below hbw4 r1.lt
    replace r2 := r2.below hbw4 r2.lt
    replace r3 := r3.below hbw4 r3.lt
    replace hl := hl.trans (hbw4.mono hl.size)
    clear hT hG hF hbw4 hQ QQ L hlo5 hhi5
    go_upto_region 7 with (fail)
    let L : List Sp := [sV 1 [] [] (fun u => u = .tuple #[.int .i64 i, .bool (io)])]
    refine wp_region_six0 (shs L) (look6 L) (None_) (by kernel_rfl) (by kernel_rfl) (mk_St L [] [] (by kernel_rfl) (by kernel_rfl) ⟨ok_V ⟨_, rfl⟩, trivial⟩ (by simp)) ?_
    intro QQ hQ
    -- 0: load<31> *t3
    refine stepK rfl (by kernel_rfl) (fun K hK => ?_); go_simp
    apply Exists.intro; apply And.intro; (focus exact kLoad rfl rfl aggT31 r0 rfl id); refine hK _ _ ?_; clear hK K
    -- 1: call F98(t49)
    refine stepS _ rfl (by kernel_rfl) (fun K hK => ?_); go_simp
    refine ⟨?_, ?_⟩
    · intro wk hk hg hu; go_simp; refine upon_enter ((k5.out _).mono ?_); rintro e w' ⟨rfl, hb⟩; exact ⟨_, rfl, left_V (p := fun u => u = .tuple #[.int .i64 i, .bool (io)]) rfl (hb) rfl⟩
    rintro ⟨v1, lo1, hi1⟩ - - (rfl : v1 = _)
    refine hK _ _ ?_; clear hK K
    -- 2: t50
    refine stepK rfl (by kernel_rfl) (fun K hK => ?_); go_simp
    apply Exists.intro; apply And.intro; (focus (intro wk hk; go_simp; exact ⟨rfl, rfl⟩)); refine hK _ _ ?_; clear hK K
    -- 3: extract t48 #0
    refine stepK rfl (by kernel_rfl) (fun K hK => ?_); go_simp
    apply Exists.intro; apply And.intro; (focus (intro wk hk; go_simp; exact ⟨rfl, rfl⟩)); refine hK _ _ ?_; clear hK K
    -- 4: extract t48 #1
    refine stepK rfl (by kernel_rfl) (fun K hK => ?_); go_simp
    apply Exists.intro; apply And.intro; (focus (intro wk hk; go_simp; exact ⟨rfl, rfl⟩)); refine hK _ _ ?_; clear hK K
    -- 5: assign t51
    refine stepK rfl (by kernel_rfl) (fun K hK => ?_); go_simp
    apply Exists.intro; apply And.intro; (focus (intro wk hk; go_simp; exact ⟨rfl, rfl⟩)); refine hK _ _ ?_; clear hK K
    -- 6: assign t52
    refine stepK rfl (by kernel_rfl) (fun K hK => ?_); go_simp
    apply Exists.intro; apply And.intro; (focus (intro wk hk; go_simp; exact ⟨rfl, rfl⟩)); refine hK _ _ ?_; clear hK K
    refine stepN ?_
    refine hQ _ _ ?_
    intro w5 hT hG hF
    have hbw5 := hT.below
    replace r0 := r0.below hbw5 r0.lt
    replace r1 := r1.below hbw5 r1.lt
    replace r2 := r2.below hbw5 r2.lt
    replace r3 := r3.below hbw5 r3.lt
    replace r4 := r4.below hbw5 r4.lt
    replace hl := hl.trans (hbw5.mono hl.size)
    clear hT hG hF hbw5 hQ QQ L 
    go_upto_region 8 with (fail)
    let L : List Sp := [sV 1 [] [] (fun u => u = .tuple #[.int .i64 i, .bool (io)])]
    refine wp_region_six0 (shs L) (look6 L) (None_) (by kernel_rfl) (by kernel_rfl) (mk_St L [] [] (by kernel_rfl) (by kernel_rfl) ⟨ok_V ⟨_, rfl⟩, trivial⟩ (by simp)) ?_
    intro QQ hQ
    -- 0: load<31> *t3
    refine stepK rfl (by kernel_rfl) (fun K hK => ?_); go_simp
    apply Exists.intro; apply And.intro; (focus exact kLoad rfl rfl aggT31 r0 rfl id); refine hK _ _ ?_; clear hK K
    -- 1: call F99(t54)
    refine stepS _ rfl (by kernel_rfl) (fun K hK => ?_); go_simp
    refine ⟨?_, ?_⟩
    · intro wk hk hg hu; go_simp; refine upon_enter ((k6.out _).mono ?_); rintro e w' ⟨rfl, hb⟩; exact ⟨_, rfl, left_V (p := fun u => u = .tuple #[.int .i64 i, .bool (io)]) rfl (hb) rfl⟩
    rintro ⟨v1, lo1, hi1⟩ - - (rfl : v1 = _)
    refine hK _ _ ?_; clear hK K
    -- 2: t55
    refine stepK rfl (by kernel_rfl) (fun K hK => ?_); go_simp
    apply Exists.intro; apply And.intro; (focus (intro wk hk; go_simp; exact ⟨rfl, rfl⟩)); refine hK _ _ ?_; clear hK K
    -- 3: extract t53 #0
    refine stepK rfl (by kernel_rfl) (fun K hK => ?_); go_simp
    apply Exists.intro; apply And.intro; (focus (intro wk hk; go_simp; exact ⟨rfl, rfl⟩)); refine hK _ _ ?_; clear hK K
    -- 4: extract t53 #1
    refine stepK rfl (by kernel_rfl) (fun K hK => ?_); go_simp
    apply Exists.intro; apply And.intro; (focus (intro wk hk; go_simp; exact ⟨rfl, rfl⟩)); refine hK _ _ ?_; clear hK K
    -- 5: assign t56
    refine stepK rfl (by kernel_rfl) (fun K hK => ?_); go_simp
    apply Exists.intro; apply And.intro; (focus (intro wk hk; go_simp; exact ⟨rfl, rfl⟩)); refine hK _ _ ?_; clear hK K
    -- 6: assign t57
    refine stepK rfl (by kernel_rfl) (fun K hK => ?_); go_simp
    apply Exists.intro; apply And.intro; (focus (intro wk hk; go_simp; exact ⟨rfl, rfl⟩)); refine hK _ _ ?_; clear hK K
    refine stepN ?_
    refine hQ _ _ ?_
    intro w6 hT hG hF
    have hbw6 := hT.below
    replace r0 := r0.below hbw6 r0.lt
    replace r1 := r1.below hbw6 r1.lt
    replace r2 := r2.below hbw6 r2.lt
    replace r3 := r3.below hbw6 r3.lt
    replace r4 := r4.below hbw6 r4.lt
    replace hl := hl.trans (hbw6.mono hl.size)
    clear hT hG hF hbw6 hQ QQ L 
    go_upto_region 9 with (fail)
    let L : List Sp := []
    refine wp_region_six0 (shs L) (look6 L) (None_) (by kernel_rfl) (by kernel_rfl) (mk_St L [] [] (by kernel_rfl) (by kernel_rfl) trivial (by simp)) ?_
    intro QQ hQ
    -- 0: load<31> *t7
    refine stepK rfl (by kernel_rfl) (fun K hK => ?_); go_simp
    apply Exists.intro; apply And.intro; (focus exact kLoad rfl rfl aggT31 r1 rfl id); refine hK _ _ ?_; clear hK K
    -- 1: load<31> *t9
    refine stepK rfl (by kernel_rfl) (fun K hK => ?_); go_simp
    apply Exists.intro; apply And.intro; (focus exact kLoad rfl rfl aggT31 r2 rfl id); refine hK _ _ ?_; clear hK K
    -- 2: neq<31> t58, t59
    refine stepK rfl (by kernel_rfl) (fun K hK => ?_); go_simp
    apply Exists.intro; apply And.intro; (focus (intro wk hk; go_simp; exact ⟨rfl, rfl⟩)); refine hK _ _ ?_; clear hK K
    -- 3: t60
    refine stepK rfl (by kernel_rfl) (fun K hK => ?_); go_simp
    apply Exists.intro; apply And.intro; (focus (intro wk hk; go_simp; exact ⟨rfl, rfl⟩)); refine hK _ _ ?_; clear hK K
    -- 4: t8
    refine stepK rfl (by kernel_rfl) (fun K hK => ?_); go_simp
    first | (refine hK _ _ ?_; clear hK K) | (apply Exists.intro; apply And.intro; (focus (intro wk hk; go_simp; exact ⟨rfl, rfl⟩)); refine hK _ _ ?_; clear hK K)
    -- 5: t10
    refine stepK rfl (by kernel_rfl) (fun K hK => ?_); go_simp
    first | (refine hK _ _ ?_; clear hK K) | (apply Exists.intro; apply And.intro; (focus (intro wk hk; go_simp; exact ⟨rfl, rfl⟩)); refine hK _ _ ?_; clear hK K)
    -- 6: neq<4> t62, t63
    refine stepK rfl (by kernel_rfl) (fun K hK => ?_); go_simp
    first | (refine hK _ _ ?_; clear hK K) | (apply Exists.intro; apply And.intro; (focus (intro wk hk; go_simp; exact ⟨rfl, rfl⟩)); refine hK _ _ ?_; clear hK K)
    -- 7: pick t61 ? true : t64
    refine stepK rfl (by kernel_rfl) (fun K hK => ?_); go_simp
    apply Exists.intro; apply And.intro; (focus (intro wk hk; go_simp; exact ⟨rfl, rfl⟩)); refine hK _ _ ?_; clear hK K
    -- 8: t65
    refine stepK rfl (by kernel_rfl) (fun K hK => ?_); go_simp
    apply Exists.intro; apply And.intro; (focus (intro wk hk; go_simp; exact ⟨rfl, rfl⟩)); refine hK _ _ ?_; clear hK K
    -- 9: load<31> *t11
    refine stepK rfl (by kernel_rfl) (fun K hK => ?_); go_simp
    first | (refine hK _ _ ?_; clear hK K) | (apply Exists.intro; apply And.intro; (focus exact kLoad rfl rfl aggT31 r3 rfl id); refine hK _ _ ?_; clear hK K)
    -- 10: load<31> *t13
    refine stepK rfl (by kernel_rfl) (fun K hK => ?_); go_simp
    first | (refine hK _ _ ?_; clear hK K) | (apply Exists.intro; apply And.intro; (focus exact kLoad rfl rfl aggT31 r4 rfl id); refine hK _ _ ?_; clear hK K)
    -- 11: neq<31> t67, t68
    refine stepK rfl (by kernel_rfl) (fun K hK => ?_); go_simp
    first | (refine hK _ _ ?_; clear hK K) | (apply Exists.intro; apply And.intro; (focus (intro wk hk; go_simp; exact ⟨rfl, rfl⟩)); refine hK _ _ ?_; clear hK K)
    -- 12: pick t66 ? true : t69
    refine stepK rfl (by kernel_rfl) (fun K hK => ?_); go_simp
    apply Exists.intro; apply And.intro; (focus (intro wk hk; go_simp; exact ⟨rfl, rfl⟩)); refine hK _ _ ?_; clear hK K
    -- 13: t70
    refine stepK rfl (by kernel_rfl) (fun K hK => ?_); go_simp
    apply Exists.intro; apply And.intro; (focus (intro wk hk; go_simp; exact ⟨rfl, rfl⟩)); refine hK _ _ ?_; clear hK K
    -- 14: t12
    refine stepK rfl (by kernel_rfl) (fun K hK => ?_); go_simp
    first | (refine hK _ _ ?_; clear hK K) | (apply Exists.intro; apply And.intro; (focus (intro wk hk; go_simp; exact ⟨rfl, rfl⟩)); refine hK _ _ ?_; clear hK K)
    -- 15: t14
    refine stepK rfl (by kernel_rfl) (fun K hK => ?_); go_simp
    first | (refine hK _ _ ?_; clear hK K) | (apply Exists.intro; apply And.intro; (focus (intro wk hk; go_simp; exact ⟨rfl, rfl⟩)); refine hK _ _ ?_; clear hK K)
    -- 16: neq<4> t72, t73
    refine stepK rfl (by kernel_rfl) (fun K hK => ?_); go_simp
    first | (refine hK _ _ ?_; clear hK K) | (apply Exists.intro; apply And.intro; (focus (intro wk hk; go_simp; exact ⟨rfl, rfl⟩)); refine hK _ _ ?_; clear hK K)
    -- 17: pick t71 ? true : t74
    refine stepK rfl (by kernel_rfl) (fun K hK => ?_); go_simp
    apply Exists.intro; apply And.intro; (focus (intro wk hk; go_simp; exact ⟨rfl, rfl⟩)); refine hK _ _ ?_; clear hK K
    -- 18: t75
    refine stepK rfl (by kernel_rfl) (fun K hK => ?_); go_simp
    apply Exists.intro; apply And.intro; (focus (intro wk hk; go_simp; exact ⟨rfl, rfl⟩)); refine hK _ _ ?_; clear hK K
    -- 19: t15
    refine stepK rfl (by kernel_rfl) (fun K hK => ?_); go_simp
    first | (refine hK _ _ ?_; clear hK K) | (apply Exists.intro; apply And.intro; (focus (intro wk hk; go_simp; exact ⟨rfl, rfl⟩)); refine hK _ _ ?_; clear hK K)
    -- 20: t17
    refine stepK rfl (by kernel_rfl) (fun K hK => ?_); go_simp
    first | (refine hK _ _ ?_; clear hK K) | (apply Exists.intro; apply And.intro; (focus (intro wk hk; go_simp; exact ⟨rfl, rfl⟩)); refine hK _ _ ?_; clear hK K)
    -- 21: neq<3> t77, t78
    refine stepK rfl (by kernel_rfl) (fun K hK => ?_); go_simp
    first | (refine hK _ _ ?_; clear hK K) | (apply Exists.intro; apply And.intro; (focus (intro wk hk; go_simp; exact ⟨rfl, rfl⟩)); refine hK _ _ ?_; clear hK K)
    -- 22: pick t76 ? true : t79
    refine stepK rfl (by kernel_rfl) (fun K hK => ?_); go_simp
    apply Exists.intro; apply And.intro; (focus (intro wk hk; go_simp; exact ⟨rfl, rfl⟩)); refine hK _ _ ?_; clear hK K
    -- 23: t80
    refine stepK rfl (by kernel_rfl) (fun K hK => ?_); go_simp
    apply Exists.intro; apply And.intro; (focus (intro wk hk; go_simp; exact ⟨rfl, rfl⟩)); refine hK _ _ ?_; clear hK K
    -- 24: t16
    refine stepK rfl (by kernel_rfl) (fun K hK => ?_); go_simp
    first | (refine hK _ _ ?_; clear hK K) | (apply Exists.intro; apply And.intro; (focus (intro wk hk; go_simp; exact ⟨rfl, rfl⟩)); refine hK _ _ ?_; clear hK K)
    -- 25: t18
    refine stepK rfl (by kernel_rfl) (fun K hK => ?_); go_simp
    first | (refine hK _ _ ?_; clear hK K) | (apply Exists.intro; apply And.intro; (focus (intro wk hk; go_simp; exact ⟨rfl, rfl⟩)); refine hK _ _ ?_; clear hK K)
    -- 26: neq<4> t82, t83
    refine stepK rfl (by kernel_rfl) (fun K hK => ?_); go_simp
    first | (refine hK _ _ ?_; clear hK K) | (apply Exists.intro; apply And.intro; (focus (intro wk hk; go_simp; exact ⟨rfl, rfl⟩)); refine hK _ _ ?_; clear hK K)
    -- 27: pick t81 ? true : t84
    refine stepK rfl (by kernel_rfl) (fun K hK => ?_); go_simp
    apply Exists.intro; apply And.intro; (focus (intro wk hk; go_simp; exact ⟨rfl, rfl⟩)); refine hK _ _ ?_; clear hK K
    refine stepN ?_
    refine hQ _ _ ?_
    intro w7 hT hG hF
    have hbw7 := hT.below
    replace r0 := r0.below hbw7 r0.lt
    replace r1 := r1.below hbw7 r1.lt
    replace r2 := r2.below hbw7 r2.lt
    replace r3 := r3.below hbw7 r3.lt
    replace r4 := r4.below hbw7 r4.lt
    replace hl := hl.trans (hbw7.mono hl.size)
    clear hT hG hF hbw7 hQ QQ L 
    go_upto_region 11 with (fail)
    let L : List Sp := [sF 1 [] [] [] (fun _ => True) (fun x w => Bt w x.v (BL a)), sV 2 [1] [1] (fun u => u = .string B), sF 4 [] [] [] (fun _ => True) (fun x w => Bt w x.v (BL a)), sV 5 [4] [4] (fun u => u = .string B), sV 9 [] [] (fun u => u = .string T), sV 11 [] [] (fun u => u = .string T), sV 16 [] [] (fun u => u = .int .i64 e), sV 18 [] [] (fun u => u = .int .i64 e), sV 24 [] [] (fun u => u = .agg (W4 y)), sV 31 [] [] (fun u => u = .bool true)]
    refine wp_region_six (shs L) (look6 L) (None_) (by kernel_rfl) (by kernel_rfl) (mk_St L [] [] (by kernel_rfl) (by kernel_rfl) ⟨ok_F (any_some _) (fun _ _ _ h hb => Bt.below h hb), ok_V ⟨_, rfl⟩, ok_F (any_some _) (fun _ _ _ h hb => Bt.below h hb), ok_V ⟨_, rfl⟩, ok_V ⟨_, rfl⟩, ok_V ⟨_, rfl⟩, ok_V ⟨_, rfl⟩, ok_V ⟨_, rfl⟩, ok_V ⟨_, rfl⟩, ok_V ⟨_, rfl⟩, trivial⟩ (by simp)) ?_
    intro QQ hQ
    -- 0: load<31> *t3
    refine stepK rfl (by kernel_rfl) (fun K hK => ?_); go_simp
    apply Exists.intro; apply And.intro; (focus exact kLoad rfl rfl aggT31 r0 rfl id); refine hK _ _ ?_; clear hK K
    -- 1: call F82(t86)
    refine stepS _ rfl (by kernel_rfl) (fun K hK => ?_); go_simp
    refine ⟨?_, ?_⟩
    · intro wk hk hg hu; go_simp; refine upon_enter ((k82.out _).mono ?_); rintro e w' ⟨v, rfl, hv, hb⟩; exact ⟨_, rfl, left_F rfl rfl hb trivial hv⟩
    rintro ⟨v1, lo1, hi1⟩ - - -
    refine hK _ _ ?_; clear hK K
    -- 2: convert<33->9> t87
    refine stepS _ rfl (by kernel_rfl) (fun K hK => ?_); go_simp
    refine ⟨?_, ?_⟩
    · intro wk hk hg hu; have u1 := hu 1 (show 1 ∈ [1] by decide); have b1 : Bt wk v1 (BL a) := u1; have cv := Bt.conv b1; rw [hB.out] at cv; go_simp; exact left_V (p := fun u => u = .string B) rfl (Below.refl _ _) rfl
    rintro ⟨v2, lo2, hi2⟩ - - (rfl : v2 = _)
    refine hK _ _ ?_; clear hK K
    -- 3: load<31> *t3
    refine stepK rfl (by kernel_rfl) (fun K hK => ?_); go_simp
    apply Exists.intro; apply And.intro; (focus exact kLoad rfl rfl aggT31 r0 rfl id); refine hK _ _ ?_; clear hK K
    -- 4: call F100(t89)
    refine stepS _ rfl (by kernel_rfl) (fun K hK => ?_); go_simp
    refine ⟨?_, ?_⟩
    · intro wk hk hg hu; go_simp; refine upon_enter ((k100.out _).mono ?_); rintro e w' ⟨v, rfl, hv, hb⟩; exact ⟨_, rfl, left_F rfl rfl hb trivial hv⟩
    rintro ⟨v4, lo4, hi4⟩ - - -
    refine hK _ _ ?_; clear hK K
    -- 5: convert<33->9> t90
    refine stepS _ rfl (by kernel_rfl) (fun K hK => ?_); go_simp
    refine ⟨?_, ?_⟩
    · intro wk hk hg hu; have u4 := hu 4 (show 4 ∈ [4] by decide); have b4 : Bt wk v4 (BL a) := u4; have cv := Bt.conv b4; rw [hB.out] at cv; go_simp; exact left_V (p := fun u => u = .string B) rfl (Below.refl _ _) rfl
    rintro ⟨v5, lo5, hi5⟩ - - (rfl : v5 = _)
    refine hK _ _ ?_; clear hK K
    -- 6: eql<9> t88, t91
    refine stepK rfl (by kernel_rfl) (fun K hK => ?_); go_simp
    apply Exists.intro; apply And.intro; (focus (intro wk hk; go_simp; exact ⟨rfl, rfl⟩)); refine hK _ _ ?_; clear hK K
    -- 7: t92
    refine stepK rfl (by kernel_rfl) (fun K hK => ?_); go_simp
    apply Exists.intro; apply And.intro; (focus (intro wk hk; go_simp; exact ⟨rfl, rfl⟩)); refine hK _ _ ?_; clear hK K
    -- 8: load<31> *t3
    refine stepK rfl (by kernel_rfl) (fun K hK => ?_); go_simp
    first | (refine hK _ _ ?_; clear hK K) | (apply Exists.intro; apply And.intro; (focus exact kLoad rfl rfl aggT31 r0 rfl id); refine hK _ _ ?_; clear hK K)
    -- 9: call F84(t94)
    refine stepS _ rfl (by kernel_rfl) (fun K hK => ?_); go_simp
    refine ⟨?_, ?_⟩
    · intro wk hk hg hu; go_simp; refine upon_enter ((kt.out _).mono ?_); rintro e w' ⟨rfl, hb⟩; exact ⟨_, rfl, left_V (p := fun u => u = .string T) rfl (hb) rfl⟩
    rintro ⟨v9, lo9, hi9⟩ - - (rfl : v9 = _)
    refine hK _ _ ?_; clear hK K
    -- 10: load<31> *t3
    refine stepK rfl (by kernel_rfl) (fun K hK => ?_); go_simp
    first | (refine hK _ _ ?_; clear hK K) | (apply Exists.intro; apply And.intro; (focus exact kLoad rfl rfl aggT31 r0 rfl id); refine hK _ _ ?_; clear hK K)
    -- 11: call F101(t96)
    refine stepS _ rfl (by kernel_rfl) (fun K hK => ?_); go_simp
    refine ⟨?_, ?_⟩
    · intro wk hk hg hu; go_simp; refine upon_enter ((kr.out _).mono ?_); rintro e w' ⟨rfl, hb⟩; exact ⟨_, rfl, left_V (p := fun u => u = .string T) rfl (hb) rfl⟩
    rintro ⟨v11, lo11, hi11⟩ - - (rfl : v11 = _)
    refine hK _ _ ?_; clear hK K
    -- 12: eql<9> t95, t97
    refine stepK rfl (by kernel_rfl) (fun K hK => ?_); go_simp
    first | (refine hK _ _ ?_; clear hK K) | (apply Exists.intro; apply And.intro; (focus (intro wk hk; go_simp; exact ⟨rfl, rfl⟩)); refine hK _ _ ?_; clear hK K)
    -- 13: pick t93 ? t98 : false
    refine stepK rfl (by kernel_rfl) (fun K hK => ?_); go_simp
    apply Exists.intro; apply And.intro; (focus (intro wk hk; go_simp; exact ⟨rfl, rfl⟩)); refine hK _ _ ?_; clear hK K
    -- 14: t99
    refine stepK rfl (by kernel_rfl) (fun K hK => ?_); go_simp
    apply Exists.intro; apply And.intro; (focus (intro wk hk; go_simp; exact ⟨rfl, rfl⟩)); refine hK _ _ ?_; clear hK K
    -- 15: load<31> *t3
    refine stepK rfl (by kernel_rfl) (fun K hK => ?_); go_simp
    first | (refine hK _ _ ?_; clear hK K) | (apply Exists.intro; apply And.intro; (focus exact kLoad rfl rfl aggT31 r0 rfl id); refine hK _ _ ?_; clear hK K)
    -- 16: call F49(t101)
    refine stepS _ rfl (by kernel_rfl) (fun K hK => ?_); go_simp
    refine ⟨?_, ?_⟩
    · intro wk hk hg hu; go_simp; refine upon_enter ((kb.out _).mono ?_); rintro e w' ⟨rfl, hb⟩; exact ⟨_, rfl, left_V (p := fun u => u = .int .i64 e) rfl (hb) rfl⟩
    rintro ⟨v16, lo16, hi16⟩ - - (rfl : v16 = _)
    refine hK _ _ ?_; clear hK K
    -- 17: load<31> *t3
    refine stepK rfl (by kernel_rfl) (fun K hK => ?_); go_simp
    first | (refine hK _ _ ?_; clear hK K) | (apply Exists.intro; apply And.intro; (focus exact kLoad rfl rfl aggT31 r0 rfl id); refine hK _ _ ?_; clear hK K)
    -- 18: call F102(t103)
    refine stepS _ rfl (by kernel_rfl) (fun K hK => ?_); go_simp
    refine ⟨?_, ?_⟩
    · intro wk hk hg hu; go_simp; refine upon_enter ((kd.out _).mono ?_); rintro e w' ⟨rfl, hb⟩; exact ⟨_, rfl, left_V (p := fun u => u = .int .i64 e) rfl (hb) rfl⟩
    rintro ⟨v18, lo18, hi18⟩ - - (rfl : v18 = _)
    refine hK _ _ ?_; clear hK K
    -- 19: eql<3> t102, t104
    refine stepK rfl (by kernel_rfl) (fun K hK => ?_); go_simp
    first | (refine hK _ _ ?_; clear hK K) | (apply Exists.intro; apply And.intro; (focus (intro wk hk; go_simp; exact ⟨rfl, rfl⟩)); refine hK _ _ ?_; clear hK K)
    -- 20: pick t100 ? t105 : false
    refine stepK rfl (by kernel_rfl) (fun K hK => ?_); go_simp
    apply Exists.intro; apply And.intro; (focus (intro wk hk; go_simp; exact ⟨rfl, rfl⟩)); refine hK _ _ ?_; clear hK K
    -- 21: t106
    refine stepK rfl (by kernel_rfl) (fun K hK => ?_); go_simp
    apply Exists.intro; apply And.intro; (focus (intro wk hk; go_simp; exact ⟨rfl, rfl⟩)); refine hK _ _ ?_; clear hK K
    -- 22: indexAddr<31> t3[0]
    refine stepK rfl (by kernel_rfl) (fun K hK => ?_); go_simp
    first | (refine hK _ _ ?_; clear hK K) | (apply Exists.intro; apply And.intro; (focus (intro wk hk; go_simp; exact ⟨rfl, rfl⟩)); refine hK _ _ ?_; clear hK K)
    -- 23: load<29> *t108
    refine stepK rfl (by kernel_rfl) (fun K hK => ?_); go_simp
    first | (refine hK _ _ ?_; clear hK K) | (apply Exists.intro; apply And.intro; (focus (intro wk hk; have cc := hcell.out _ _ (K6.Row.tr r0 hk.undrew id); go_simp; exact ⟨rfl, rfl⟩)); refine hK _ _ ?_; clear hK K)
    -- 24: call F103(t109)
    refine stepS _ rfl (by kernel_rfl) (fun K hK => ?_); go_simp
    refine ⟨?_, ?_⟩
    · intro wk hk hg hu; go_simp; refine upon_enter ((ko.out _).mono ?_); rintro e w' ⟨rfl, hb⟩; exact ⟨_, rfl, left_V (p := fun u => u = .agg (W4 y)) rfl (hb) rfl⟩
    rintro ⟨v24, lo24, hi24⟩ - - (rfl : v24 = _)
    refine hK _ _ ?_; clear hK K
    -- 25: indexAddr<31> t3[0]
    refine stepK rfl (by kernel_rfl) (fun K hK => ?_); go_simp
    first | (refine hK _ _ ?_; clear hK K) | (apply Exists.intro; apply And.intro; (focus (intro wk hk; go_simp; exact ⟨rfl, rfl⟩)); refine hK _ _ ?_; clear hK K)
    -- 26: load<29> *t111
    refine stepK rfl (by kernel_rfl) (fun K hK => ?_); go_simp
    first | (refine hK _ _ ?_; clear hK K) | (apply Exists.intro; apply And.intro; (focus (intro wk hk; have cc := hcell.out _ _ (K6.Row.tr r0 hk.undrew id); go_simp; exact ⟨rfl, rfl⟩)); refine hK _ _ ?_; clear hK K)
    -- 27: build<31> 0:t112
    refine stepK rfl (by kernel_rfl) (fun K hK => ?_); go_simp
    first | (refine hK _ _ ?_; clear hK K) | (apply Exists.intro; apply And.intro; (focus (intro wk hk; go_simp; exact ⟨rfl, rfl⟩)); refine hK _ _ ?_; clear hK K)
    -- 28: eql<31> t110, t113
    refine stepK rfl (by kernel_rfl) (fun K hK => ?_); go_simp
    first | (refine hK _ _ ?_; clear hK K) | (apply Exists.intro; apply And.intro; (focus (intro wk hk; go_simp; exact ⟨rfl, rfl⟩)); refine hK _ _ ?_; clear hK K)
    -- 29: pick t107 ? t114 : false
    refine stepK rfl (by kernel_rfl) (fun K hK => ?_); go_simp
    apply Exists.intro; apply And.intro; (focus (intro wk hk; go_simp; exact ⟨rfl, rfl⟩)); refine hK _ _ ?_; clear hK K
    -- 30: t115
    refine stepK rfl (by kernel_rfl) (fun K hK => ?_); go_simp
    apply Exists.intro; apply And.intro; (focus (intro wk hk; go_simp; exact ⟨rfl, rfl⟩)); refine hK _ _ ?_; clear hK K
    -- 31: call F50()
    refine stepS _ rfl (by kernel_rfl) (fun K hK => ?_); go_simp
    refine ⟨?_, ?_⟩
    · intro wk hk hg hu; go_simp; refine upon_enter ((kl.out _).mono ?_); rintro e w' ⟨rfl, hb⟩; exact ⟨_, rfl, left_V (p := fun u => u = .bool true) rfl (hb) rfl⟩
    rintro ⟨v31, lo31, hi31⟩ - - (rfl : v31 = _)
    refine hK _ _ ?_; clear hK K
    -- 32: pick t116 ? t117 : false
    refine stepK rfl (by kernel_rfl) (fun K hK => ?_); go_simp
    apply Exists.intro; apply And.intro; (focus (intro wk hk; go_simp; exact ⟨rfl, rfl⟩)); refine hK _ _ ?_; clear hK K
    -- 33: assign t118
    refine stepK rfl (by kernel_rfl) (fun K hK => ?_); go_simp
    apply Exists.intro; apply And.intro; (focus (intro wk hk; go_simp; exact ⟨rfl, rfl⟩)); refine hK _ _ ?_; clear hK K
    refine stepN ?_
    refine hQ _ _ ?_
    intro w11 hT hG hF
    have hbw11 := hT.undrew.below
    replace hl := hl.trans (hbw11.mono hl.size)
    clear hT hG hF hbw11 hQ QQ L 
    go_wp2_with fail
    go_ret
    exact ⟨rfl, hl⟩
end Go.Proofs.Ytpdenhmkpiafiaa
