/-
  tallageref01.Add (51), Sub (53).
-/
import Derived.Test.YtpdenhmkpiafiaaRefToU
namespace Go.Proofs.Ytpdenhmkpiafiaa
open Go Go.RowKit K6 Ref

theorem len9 {n : Nat} (h : n < M * M) : (digs n).length < 1000000000 := Nat.lt_of_le_of_lt (digs_len (k := 16) (by rw [M_B] at h; rw [show B ^ 16 = B ^ 8 * B ^ 8 by rw [← Nat.pow_add]]; exact h)) (by omega)
theorem M_MM {n : Nat} (h : n < M) : n < M * M := Nat.lt_of_lt_of_le h (Nat.le_mul_of_pos_right M M_pos)
theorem MM_add {a b : Nat} (ha : a < M) (hb : b < M) : a + b < M * M := by
  have h2 : M * 2 ≤ M * M := Nat.mul_le_mul_left M (by unfold M; omega)
  omega
set_option maxRecDepth 100000 in
set_option maxHeartbeats 8000000 in
theorem refaddU {a b : Nat} (ha : a < M) (hb : b < M) (w : World) : Calls Try.prog 51 #[.agg (W4 a), .agg (W4 b)] w (Ret w (.tuple #[.agg (W4 (addN a b)), .bool (addB a b)])) := by
  have h1 : ∀ wx v u, Sl wx v (digs a) → Sl wx u (digs b) → Calls Try.prog 163 #[v, u] wx fun e w' => ∃ r, e = .returned r ∧ Sl w' r (digs (a + b)) ∧ Below wx.heap.size wx w' := fun wx v u s1 s2 => by
    have := plus_any v u _ _ wx (dig_digs a) (dig_digs b) s1 s2 (len9 (M_MM ha)) (len9 (M_MM hb))
    rw [val_digs, val_digs] at this
    exact this
  have h2 : ∀ wx v, Sl wx v (digs (a + b)) → Calls Try.prog 162 #[v] wx (Ret wx (.tuple #[.agg (W4 (addN a b)), .bool (addB a b)])) := fun wx v s1 => by
    have := told_any v _ wx (dig_digs (a + b)) s1 (len9 (MM_add ha hb))
    rw [val_digs] at this
    exact this
  have o1 := Lib.hid fun wx => of164 a ha wx
  have o2 := Lib.hid fun wx => of164 b hb wx
  replace h1 := Lib.hid h1
  replace h2 := Lib.hid h2
  obtain ⟨q, hq⟩ : ∃ q, addN a b = q := ⟨_, rfl⟩
  obtain ⟨ok, hok⟩ : ∃ ok, addB a b = ok := ⟨_, rfl⟩
  rw [hq, hok] at h2 ⊢
  clear hq hok
  go_enter Try.func51, Try.ntmps51
  apply wp_seq_eq
  focus
    intro J hJ
    go_wp2_with fail
    exact hJ
  refine wp_abs (Mem w [(w.heap.size, 31, W4 a), (w.heap.size + 1, 31, W4 b), (w.heap.size + 1 + 1, 31, arr .u64 (fun _ => 0) 4)]) ⟨by go_grown, ?_, ?_, ?_, trivial⟩ ?_
  · repeat (first | (refine Row.new_at ?_; simp; done) | refine Row.alloc ?_ _)
  · repeat (first | (refine Row.new_at ?_; simp; done) | refine Row.alloc ?_ _)
  · repeat (first | (refine Row.new_at ?_; simp; done) | refine Row.alloc ?_ _)
  intro w0 hM
  obtain ⟨hl, ra, rb, rr, -⟩ := hM
  go_upto_region 1 with (fail)
  let L : List Sp := [sF 1 [] [] [8] (fun _ => True) (fun x w => Sl w x.v (digs (a))), sF 3 [] [] [8] (fun _ => True) (fun x w => Sl w x.v (digs (b))), sF 4 [1, 3] [1, 3] [8] (fun _ => True) (fun x w => Sl w x.v (digs (a + b))), sV 5 [4, 1, 3] [4] (fun u => u = .tuple #[.agg (W4 q), .bool ok]), sO 8 (w.heap.size + 1 + 1) 31 [6] (fun g => aggOf g 6)]
  refine wp_region_six (shs L) (look6 L) (fun c => c = w.heap.size + 1 + 1) (by kernel_rfl) (by kernel_rfl) (mk_St L [8] [8] (by kernel_rfl) (by kernel_rfl) ⟨ok_F (any_some _) (fun _ _ _ h hb => Sl.below h hb), ok_F (any_some _) (fun _ _ _ h hb => Sl.below h hb), ok_F (any_some _) (fun _ _ _ h hb => Sl.below h hb), ok_V ⟨_, rfl⟩, ok_O aggOf_congr rr.lt (rfl), trivial⟩ (by simp)) ?_
  intro QQ hQ
  -- 0: load<31> *t2
  refine stepK rfl (by kernel_rfl) (fun K hK => ?_); go_simp
  apply Exists.intro; apply And.intro; (focus exact kLoad rfl rfl aggT31 ra rfl id); refine hK _ _ ?_; clear hK K
  -- 1: call F164(t6)
  refine stepS _ rfl (by kernel_rfl) (fun K hK => ?_); go_simp
  refine ⟨?_, ?_⟩
  · intro wk hk hg hu; go_simp; refine upon_enter ((o1.out _).mono ?_); rintro e w' ⟨v, rfl, hv, hb⟩; exact ⟨_, rfl, left_F rfl rfl hb trivial hv⟩
  rintro ⟨v1, lo1, hi1⟩ - - -
  refine hK _ _ ?_; clear hK K
  -- 2: load<31> *t3
  refine stepK rfl (by kernel_rfl) (fun K hK => ?_); go_simp
  apply Exists.intro; apply And.intro; (focus exact kLoad rfl rfl aggT31 rb rfl id); refine hK _ _ ?_; clear hK K
  -- 3: call F164(t8)
  refine stepS _ rfl (by kernel_rfl) (fun K hK => ?_); go_simp
  refine ⟨?_, ?_⟩
  · intro wk hk hg hu; go_simp; refine upon_enter ((o2.out _).mono ?_); rintro e w' ⟨v, rfl, hv, hb⟩; exact ⟨_, rfl, left_F rfl rfl hb trivial hv⟩
  rintro ⟨v3, lo3, hi3⟩ - - -
  refine hK _ _ ?_; clear hK K
  -- 4: call F163(t7, t9)
  refine stepS _ rfl (by kernel_rfl) (fun K hK => ?_); go_simp
  refine ⟨?_, ?_⟩
  · intro wk hk hg hu; have u1 := hu 1 (show 1 ∈ [1, 3] by decide); have u3 := hu 3 (show 3 ∈ [1, 3] by decide); have s1 : Sl wk v1 (digs a) := u1; have s3 : Sl wk v3 (digs b) := u3; go_simp; refine upon_enter ((h1.out _ v1 v3 s1 s3).mono ?_); rintro e w' ⟨v, rfl, hv, hb⟩; exact ⟨_, rfl, left_F rfl rfl hb trivial hv⟩
  rintro ⟨v4, lo4, hi4⟩ - - -
  refine hK _ _ ?_; clear hK K
  -- 5: call F162(t10)
  refine stepS _ rfl (by kernel_rfl) (fun K hK => ?_); go_simp
  refine ⟨?_, ?_⟩
  · intro wk hk hg hu; have u4 := hu 4 (show 4 ∈ [4] by decide); have s4 : Sl wk v4 (digs (a + b)) := u4; go_simp; refine upon_enter ((h2.out _ v4 s4).mono ?_); rintro e w' ⟨rfl, hb⟩; exact ⟨_, rfl, left_V (p := fun u => u = .tuple #[.agg (W4 q), .bool ok]) rfl (hb) rfl⟩
  rintro ⟨v5, lo5, hi5⟩ - - (rfl : v5 = _)
  refine hK _ _ ?_; clear hK K
  -- 6: extract t11 #0
  refine stepK rfl (by kernel_rfl) (fun K hK => ?_); go_simp
  apply Exists.intro; apply And.intro; (focus (intro wk hk; go_simp; exact ⟨rfl, rfl⟩)); refine hK _ _ ?_; clear hK K
  -- 7: extract t11 #1
  refine stepK rfl (by kernel_rfl) (fun K hK => ?_); go_simp
  apply Exists.intro; apply And.intro; (focus (intro wk hk; go_simp; exact ⟨rfl, rfl⟩)); refine hK _ _ ?_; clear hK K
  -- 8: store<31> *t4 = t12
  refine stepS _ rfl (by kernel_rfl) (fun K hK => ?_); go_simp
  refine ⟨?_, ?_⟩
  · exact sStoreO rfl rfl rfl rfl rfl rfl rr id (by kernel_rfl) rfl (by kernel_rfl) (by decide) aggOf_congr
  rintro ⟨v8, lo8, hi8⟩ - - (rfl : v8 = undef)
  refine hK _ _ ?_; clear hK K
  -- 9: assign t13
  refine stepKz rfl (fun K hK => ?_); go_simp
  apply Exists.intro; apply And.intro; (focus (intro wk hk; go_simp; exact ⟨rfl, rfl⟩)); refine hK _ _ ?_; clear hK K
  refine stepN ?_
  refine hQ _ _ ?_
  intro w9 hT hG hF
  have hT' := hT.undrew
  have x2 : Row w9 (w.heap.size + 1 + 1) 31 (W4 q) := hF 8 _ rfl rfl (by decide)
  have hl9 : Below w.heap.size w w9 := hl.trans (hT'.below_of hl.size (by intro c hc; omega))
  clear hT hT' hG hF hQ QQ L
  go_wp2_with fail
  refine bodyPost_ret (results_ct rfl aggT31 rfl x2 rfl) rfl ?_
  exact ⟨rfl, hl9⟩
theorem tup_some {w : World} (v : Value) (ok : Bool) : ∃ x : GV, w.heap.size ≤ x.lo ∧ x.lo ≤ x.hi ∧ ∃ u, x.v = .tuple #[u, .bool ok] := ⟨⟨.tuple #[v, .bool ok], w.heap.size, w.heap.size⟩, Nat.le_refl _, Nat.le_refl _, v, rfl⟩
set_option maxRecDepth 100000 in
set_option maxHeartbeats 8000000 in
theorem refsubU {a b : Nat} (ha : a < M) (hb : b < M) (w : World) : Calls Try.prog 53 #[.agg (W4 a), .agg (W4 b)] w (Ret w (.tuple #[.agg (W4 (a - b)), .bool (subB a b)])) := by
  have hlt : a - b < M := by omega
  have h1 : ∀ wx v u, Sl wx v (digs a) → Sl wx u (digs b) → Calls Try.prog 166 #[v, u] wx fun e w' => ∃ r, e = .returned (.tuple #[r, .bool (subB a b)]) ∧ Sl w' r (digs (a - b)) ∧ Below wx.heap.size wx w' := fun wx v u s1 s2 => by
    have := minus_any v u _ _ wx (dig_digs a) (dig_digs b) s1 s2 (len9 (M_MM ha)) (len9 (M_MM hb))
    rw [val_digs, val_digs] at this
    exact this
  have h2 : ∀ wx v, Sl wx v (digs (a - b)) → Calls Try.prog 162 #[v] wx (Ret wx (.tuple #[.agg (W4 (a - b)), .bool true])) := fun wx v s1 => by
    have := told_any v _ wx (dig_digs (a - b)) s1 (len9 (M_MM hlt))
    rw [val_digs, decide_eq_true hlt, show capN (a - b) = a - b from if_pos hlt] at this
    exact this
  have h0 : subB a b = false → a - b = 0 := fun h => by have := of_decide_eq_false h; omega
  have o1 := Lib.hid fun wx => of164 a ha wx
  have o2 := Lib.hid fun wx => of164 b hb wx
  replace h1 := Lib.hid h1
  replace h2 := Lib.hid h2
  obtain ⟨q, hq⟩ : ∃ q, a - b = q := ⟨_, rfl⟩
  obtain ⟨ok, hok⟩ : ∃ ok, subB a b = ok := ⟨_, rfl⟩
  rw [hq, hok] at h1 h0 ⊢
  rw [hq] at h2
  clear hq hok hlt
  go_enter Try.func53, Try.ntmps53
  apply wp_seq_eq
  focus
    intro J hJ
    go_wp2_with fail
    exact hJ
  refine wp_abs (Mem w [(w.heap.size, 31, W4 a), (w.heap.size + 1, 31, W4 b), (w.heap.size + 1 + 1, 31, arr .u64 (fun _ => 0) 4)]) ⟨by go_grown, ?_, ?_, ?_, trivial⟩ ?_
  · repeat (first | (refine Row.new_at ?_; simp; done) | refine Row.alloc ?_ _)
  · repeat (first | (refine Row.new_at ?_; simp; done) | refine Row.alloc ?_ _)
  · repeat (first | (refine Row.new_at ?_; simp; done) | refine Row.alloc ?_ _)
  intro w0 hM
  obtain ⟨hl, ra, rb, rr, -⟩ := hM
  go_upto_region 1 with (fail)
  let L : List Sp := [sF 1 [] [] [] (fun _ => True) (fun x w => Sl w x.v (digs (a))), sF 3 [] [] [] (fun _ => True) (fun x w => Sl w x.v (digs (b))), sF 4 [1, 3] [1, 3] [] (fun x => ∃ u, x.v = .tuple #[u, .bool ok]) (fun x w => ∃ u, x.v = .tuple #[u, .bool ok] ∧ Sl w u (digs q))]
  refine wp_region_six (shs L) (look6 L) (None_) (by kernel_rfl) (by kernel_rfl) (mk_St L [] [] (by kernel_rfl) (by kernel_rfl) ⟨ok_F (any_some _) (fun _ _ _ h hb => Sl.below h hb), ok_F (any_some _) (fun _ _ _ h hb => Sl.below h hb), ok_F (tup_some undef _) (fun _ _ _ h hb => let ⟨u, e, s⟩ := h; ⟨u, e, Sl.below s hb⟩), trivial⟩ (by simp)) ?_
  intro QQ hQ
  -- 0: load<31> *t2
  refine stepK rfl (by kernel_rfl) (fun K hK => ?_); go_simp
  apply Exists.intro; apply And.intro; (focus exact kLoad rfl rfl aggT31 ra rfl id); refine hK _ _ ?_; clear hK K
  -- 1: call F164(t9)
  refine stepS _ rfl (by kernel_rfl) (fun K hK => ?_); go_simp
  refine ⟨?_, ?_⟩
  · intro wk hk hg hu; go_simp; refine upon_enter ((o1.out _).mono ?_); rintro e w' ⟨v, rfl, hv, hb⟩; exact ⟨_, rfl, left_F rfl rfl hb trivial hv⟩
  rintro ⟨v1, lo1, hi1⟩ - - -
  refine hK _ _ ?_; clear hK K
  -- 2: load<31> *t3
  refine stepK rfl (by kernel_rfl) (fun K hK => ?_); go_simp
  apply Exists.intro; apply And.intro; (focus exact kLoad rfl rfl aggT31 rb rfl id); refine hK _ _ ?_; clear hK K
  -- 3: call F164(t11)
  refine stepS _ rfl (by kernel_rfl) (fun K hK => ?_); go_simp
  refine ⟨?_, ?_⟩
  · intro wk hk hg hu; go_simp; refine upon_enter ((o2.out _).mono ?_); rintro e w' ⟨v, rfl, hv, hb⟩; exact ⟨_, rfl, left_F rfl rfl hb trivial hv⟩
  rintro ⟨v3, lo3, hi3⟩ - - -
  refine hK _ _ ?_; clear hK K
  -- 4: call F166(t10, t12)
  refine stepS _ rfl (by kernel_rfl) (fun K hK => ?_); go_simp
  refine ⟨?_, ?_⟩
  · intro wk hk hg hu; have u1 := hu 1 (show 1 ∈ [1, 3] by decide); have u3 := hu 3 (show 3 ∈ [1, 3] by decide); have s1 : Sl wk v1 (digs a) := u1; have s3 : Sl wk v3 (digs b) := u3; go_simp; refine upon_enter ((h1.out _ v1 v3 s1 s3).mono ?_); rintro e w' ⟨v, rfl, hv, hb⟩; exact ⟨_, rfl, left_F rfl rfl hb ⟨_, rfl⟩ ⟨_, rfl, hv⟩⟩
  rintro ⟨v4, lo4, hi4⟩ - - ⟨y4, (rfl : v4 = _)⟩
  refine hK _ _ ?_; clear hK K
  -- 5: t13
  refine stepK rfl (by kernel_rfl) (fun K hK => ?_); go_simp
  apply Exists.intro; apply And.intro; (focus (intro wk hk; go_simp; exact ⟨rfl, rfl⟩)); refine hK _ _ ?_; clear hK K
  -- 6: extract t8 #0
  refine stepK rfl (by kernel_rfl) (fun K hK => ?_); go_simp
  apply Exists.intro; apply And.intro; (focus (intro wk hk; go_simp; exact ⟨rfl, rfl⟩)); refine hK _ _ ?_; clear hK K
  -- 7: extract t8 #1
  refine stepK rfl (by kernel_rfl) (fun K hK => ?_); go_simp
  apply Exists.intro; apply And.intro; (focus (intro wk hk; go_simp; exact ⟨rfl, rfl⟩)); refine hK _ _ ?_; clear hK K
  -- 8: assign t14
  refine stepK rfl (by kernel_rfl) (fun K hK => ?_); go_simp
  apply Exists.intro; apply And.intro; (focus (intro wk hk; go_simp; exact ⟨rfl, rfl⟩)); refine hK _ _ ?_; clear hK K
  -- 9: assign t15
  refine stepK rfl (by kernel_rfl) (fun K hK => ?_); go_simp
  apply Exists.intro; apply And.intro; (focus (intro wk hk; go_simp; exact ⟨rfl, rfl⟩)); refine hK _ _ ?_; clear hK K
  refine stepN ?_
  refine hQ _ _ ?_
  intro w1 hT hG hF
  have hb1 := hT.undrew.below
  obtain ⟨y, ey, sy⟩ : ∃ u, (Value.tuple #[y4, .bool ok]) = .tuple #[u, .bool ok] ∧ Sl w1 u (digs q) := hF 4 _ rfl rfl (by decide)
  cases ey
  replace rr := rr.below hb1 rr.lt
  replace hl := hl.trans (hb1.mono hl.size)
  clear hT hG hF hb1 hQ QQ L ra rb o1 o2 h1
  cases ok with
  | true =>
    go_upto_region 4 with (fail)
    refine wp_abs (fun wx => Below w.heap.size w wx ∧ Row wx (w.heap.size + 1 + 1) 31 (arr .u64 (fun _ => 0) 4) ∧ Sl wx y4 (digs q)) ⟨hl, rr, sy⟩ ?_
    clear hl rr sy
    rintro w2 ⟨hl, rr, sy⟩
    let L : List Sp := [sV 1 [] [] (fun u => u = .tuple #[.agg (W4 q), .bool true]), sO 4 (w.heap.size + 1 + 1) 31 [2] (fun g => aggOf g 2)]
    refine wp_region_six0 (shs L) (look6 L) (fun c => c = w.heap.size + 1 + 1) (by kernel_rfl) (by kernel_rfl) (mk_St L [4] [4] (by kernel_rfl) (by kernel_rfl) ⟨ok_V ⟨_, rfl⟩, ok_O aggOf_congr rr.lt (rfl), trivial⟩ (by simp)) ?_
    intro QQ hQ
    -- 0: t6
    refine stepK rfl (by kernel_rfl) (fun K hK => ?_); go_simp
    apply Exists.intro; apply And.intro; (focus (intro wk hk; go_simp; exact ⟨rfl, rfl⟩)); refine hK _ _ ?_; clear hK K
    -- 1: call F162(t19)
    refine stepS _ rfl (by kernel_rfl) (fun K hK => ?_); go_simp
    refine ⟨?_, ?_⟩
    · intro wk hk hg hu; go_simp; refine upon_enter ((h2.out _ _ (sy.below hk.below)).mono ?_); rintro e w' ⟨rfl, hb⟩; exact ⟨_, rfl, left_V (p := fun u => u = .tuple #[.agg (W4 q), .bool true]) rfl (hb) rfl⟩
    rintro ⟨v1, lo1, hi1⟩ - - (rfl : v1 = _)
    refine hK _ _ ?_; clear hK K
    -- 2: extract t20 #0
    refine stepK rfl (by kernel_rfl) (fun K hK => ?_); go_simp
    apply Exists.intro; apply And.intro; (focus (intro wk hk; go_simp; exact ⟨rfl, rfl⟩)); refine hK _ _ ?_; clear hK K
    -- 3: extract t20 #1
    refine stepK rfl (by kernel_rfl) (fun K hK => ?_); go_simp
    apply Exists.intro; apply And.intro; (focus (intro wk hk; go_simp; exact ⟨rfl, rfl⟩)); refine hK _ _ ?_; clear hK K
    -- 4: store<31> *t4 = t21
    refine stepS _ rfl (by kernel_rfl) (fun K hK => ?_); go_simp
    refine ⟨?_, ?_⟩
    · exact sStoreO rfl rfl rfl rfl rfl rfl rr id (by kernel_rfl) rfl (by kernel_rfl) (by decide) aggOf_congr
    rintro ⟨v4, lo4, hi4⟩ - - (rfl : v4 = undef)
    refine hK _ _ ?_; clear hK K
    -- 5: assign t22
    refine stepKz rfl (fun K hK => ?_); go_simp
    apply Exists.intro; apply And.intro; (focus (intro wk hk; go_simp; exact ⟨rfl, rfl⟩)); refine hK _ _ ?_; clear hK K
    refine stepN ?_
    refine hQ _ _ ?_
    intro w9 hT hG hF
    have hT' := hT
    have x2 : Row w9 (w.heap.size + 1 + 1) 31 (W4 q) := hF 4 _ rfl rfl (by decide)
    have hl9 : Below w.heap.size w w9 := hl.trans (hT'.below_of hl.size (by intro c hc; omega))
    clear hT hT' hG hF hQ QQ L
    go_wp2_with fail
    refine bodyPost_ret (results_ct rfl aggT31 rfl x2 rfl) rfl ?_
    exact ⟨rfl, hl9⟩
  | false =>
    obtain rfl : q = 0 := h0 rfl
    have e0 := rr.at_ 0 (by omega)
    have e1 := rr.at_ 1 (by omega)
    have e2 := rr.at_ 2 (by omega)
    have e3 := rr.at_ 3 (by omega)
    have f0 := rr.frozen 0
    have f1 := rr.frozen 1
    have f2 := rr.frozen 2
    have f3 := rr.frozen 3
    have H := Lib.hid rr
    clear rr h2
    go_wp2_with fail
    refine bodyPost_ret (results_ct rfl aggT31 rfl (H.out.store4 rfl _ _ _ _) rfl) rfl ?_
    exact ⟨by rw [← W4_zero]; rfl, by go_grown⟩
end Go.Proofs.Ytpdenhmkpiafiaa
