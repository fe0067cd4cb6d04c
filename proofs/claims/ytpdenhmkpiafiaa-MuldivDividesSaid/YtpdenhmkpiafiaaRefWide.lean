/-
  tallageref02.Mul (90): the product's two halves.
-/
import Derived.Test.YtpdenhmkpiafiaaRefMulDiv
namespace Go.Proofs.Ytpdenhmkpiafiaa
open Go Go.RowKit K6 Ref

section
variable {P : Program} {w : World} {g t ty ty' g' t' n n' : Nat} {cs cs' : Array Value} {tmps : Array Value} {fn : Func} {p p' : Tmp}
theorem results_cc (h : fn.results = #[.cell p ty, .cell p' ty']) (T : AggT P ty n) (T' : AggT P ty' n') (hp : tmps.getD p undef = .pointer (some ⟨g, 0, none⟩)) (hp2 : tmps.getD p' undef = .pointer (some ⟨g', 0, none⟩)) (hr : Row w g t cs) (hr' : Row w g' t' cs') (hs : cs.size = n) (hs' : cs'.size = n') :
    (results fn tmps).run P w = .ok (.tuple #[.agg cs, .agg cs']) w := by
  have hp' : tmps[p]?.getD undef = .pointer (some ⟨g, 0, none⟩) := by simpa using hp
  have hp2' : tmps[p']?.getD undef = .pointer (some ⟨g', 0, none⟩) := by simpa using hp2
  simp [results, h, hp', hp2', asAddr, T.load hr hs, T'.load hr' hs']
end
theorem wide_parts {n : Nat} (h : 8 ≤ (digs n).length) : val ((digs n).take 8) = n % M ∧ val ((digs n).drop 8) = n / M := by
  have h1 : val (digs n) = val ((digs n).take 8) + B ^ ((digs n).take 8).length * val ((digs n).drop 8) := by rw [← val_append, List.take_append_drop]
  have hl : ((digs n).take 8).length = 8 := by rw [List.length_take]; omega
  have h2 := val_lt (xs := (digs n).take 8) (fun x hx => dig_digs n x (List.mem_of_mem_take hx))
  rw [hl] at h1 h2
  rw [val_digs, ← M_B] at h1
  rw [← M_B] at h2
  obtain ⟨t, ht⟩ : ∃ t, val ((digs n).take 8) = t := ⟨_, rfl⟩
  obtain ⟨e, he⟩ : ∃ e, val ((digs n).drop 8) = e := ⟨_, rfl⟩
  rw [ht] at h1 h2 ⊢
  rw [he] at h1 ⊢
  rw [h1, Nat.add_mul_mod_self_left, Nat.mod_eq_of_lt h2, Nat.add_mul_div_left _ _ M_pos, Nat.div_eq_of_lt h2, Nat.zero_add]
  exact ⟨rfl, rfl⟩
/-- the slice from its k-th on -/
theorem Sl_drop {w : World} {g o n c k : Nat} {xs : List Nat} (h : Sl w (.slice (some ⟨g, o, none⟩) n c) xs) (hk : k ≤ n) : Sl w (.slice (some ⟨g, o + k, none⟩) (n - k) (c - k)) (xs.drop k) := by
  obtain ⟨r', c', e, hc, h0, h1⟩ := h
  cases e
  have hl : (xs.drop k).length = xs.length - k := List.length_drop
  refine ⟨some ⟨g, o + k, none⟩, c - k, by rw [hl], by omega, (fun h => (by cases h)), fun a ha => ?_⟩
  cases ha
  obtain ⟨g', o', e, hg, hi⟩ := h1 _ rfl
  cases e
  refine ⟨g, o + k, rfl, hg, fun i hi' => ?_⟩
  rw [hl] at hi'
  have := hi (k + i) (by omega)
  rw [Nat.add_assoc, this]
  unfold dg
  rw [List.getD_eq_getElem?_getD, List.getD_eq_getElem?_getD, List.getElem?_drop]
set_option maxRecDepth 100000 in
set_option maxHeartbeats 16000000 in
theorem refmulW {a b : Nat} (ha : a < M) (hb : b < M) (w : World) : Calls Try.prog 90 #[.agg (W4 a), .agg (W4 b)] w (Ret w (.tuple #[.agg (W4 (a * b / M)), .agg (W4 (a * b % M))])) := by
  have t2 := Lib.hid (times2 ha hb)
  have o1 := Lib.hid fun wx => of164 a ha wx
  have o2 := Lib.hid fun wx => of164 b hb wx
  have hnM := MM_mul ha hb
  obtain ⟨n, hn⟩ : ∃ n, a * b = n := ⟨_, rfl⟩
  rw [hn] at t2 hnM ⊢
  clear hn
  go_enter Try.func90, Try.ntmps90
  apply wp_seq_eq
  focus
    intro J hJ
    go_wp2_with fail
    exact hJ
  refine wp_abs (Mem w [(w.heap.size, 31, W4 a), (w.heap.size + 1, 31, W4 b), (w.heap.size + 1 + 1, 31, arr .u64 (fun _ => 0) 4), (w.heap.size + 1 + 1 + 1, 31, arr .u64 (fun _ => 0) 4)]) ⟨by go_grown, ?_, ?_, ?_, ?_, trivial⟩ ?_
  · repeat (first | (refine Row.new_at ?_; simp; done) | refine Row.alloc ?_ _)
  · repeat (first | (refine Row.new_at ?_; simp; done) | refine Row.alloc ?_ _)
  · repeat (first | (refine Row.new_at ?_; simp; done) | refine Row.alloc ?_ _)
  · repeat (first | (refine Row.new_at ?_; simp; done) | refine Row.alloc ?_ _)
  intro w0 hM
  obtain ⟨hl, ra, rb, rr0, rr1, -⟩ := hM
  go_upto_region 1 with (fail)
  let L : List Sp := [sF 1 [] [] [] (fun _ => True) (fun x w => Sl w x.v (digs (a))), sF 3 [] [] [] (fun _ => True) (fun x w => Sl w x.v (digs (b))), sF 4 [1, 3] [1, 3] [] (fun _ => True) (fun x w => Sl w x.v (digs (n)))]
  refine wp_region_six (shs L) (look6 L) (None_) (by kernel_rfl) (by kernel_rfl) (mk_St L [] [] (by kernel_rfl) (by kernel_rfl) ⟨ok_F (any_some _) (fun _ _ _ h hb => Sl.below h hb), ok_F (any_some _) (fun _ _ _ h hb => Sl.below h hb), ok_F (any_some _) (fun _ _ _ h hb => Sl.below h hb), trivial⟩ (by simp)) ?_
  intro QQ hQ
  -- 0: load<31> *t2
  refine stepK rfl (by kernel_rfl) (fun K hK => ?_); go_simp
  apply Exists.intro; apply And.intro; (focus exact kLoad rfl rfl aggT31 ra rfl id); refine hK _ _ ?_; clear hK K
  -- 1: call F164(t13)
  refine stepS _ rfl (by kernel_rfl) (fun K hK => ?_); go_simp
  refine ⟨?_, ?_⟩
  · intro wk hk hg hu; go_simp; refine upon_enter ((o1.out _).mono ?_); rintro e w' ⟨v, rfl, hv, hb⟩; exact ⟨_, rfl, left_F rfl rfl hb trivial hv⟩
  rintro ⟨v1, lo1, hi1⟩ - - -
  refine hK _ _ ?_; clear hK K
  -- 2: load<31> *t3
  refine stepK rfl (by kernel_rfl) (fun K hK => ?_); go_simp
  apply Exists.intro; apply And.intro; (focus exact kLoad rfl rfl aggT31 rb rfl id); refine hK _ _ ?_; clear hK K
  -- 3: call F164(t15)
  refine stepS _ rfl (by kernel_rfl) (fun K hK => ?_); go_simp
  refine ⟨?_, ?_⟩
  · intro wk hk hg hu; go_simp; refine upon_enter ((o2.out _).mono ?_); rintro e w' ⟨v, rfl, hv, hb⟩; exact ⟨_, rfl, left_F rfl rfl hb trivial hv⟩
  rintro ⟨v3, lo3, hi3⟩ - - -
  refine hK _ _ ?_; clear hK K
  -- 4: call F167(t14, t16)
  refine stepS _ rfl (by kernel_rfl) (fun K hK => ?_); go_simp
  refine ⟨?_, ?_⟩
  · intro wk hk hg hu; have u1 := hu 1 (show 1 ∈ [1, 3] by decide); have u3 := hu 3 (show 3 ∈ [1, 3] by decide); have s1 : Sl wk v1 (digs a) := u1; have s3 : Sl wk v3 (digs b) := u3; go_simp; refine upon_enter ((t2.out _ v1 v3 s1 s3).mono ?_); rintro e w' ⟨v, rfl, hv, hb⟩; exact ⟨_, rfl, left_F rfl rfl hb trivial hv⟩
  rintro ⟨v4, lo4, hi4⟩ - - -
  refine hK _ _ ?_; clear hK K
  -- 5: assign t17
  refine stepK rfl (by kernel_rfl) (fun K hK => ?_); go_simp
  apply Exists.intro; apply And.intro; (focus (intro wk hk; go_simp; exact ⟨rfl, rfl⟩)); refine hK _ _ ?_; clear hK K
  refine stepN ?_
  refine hQ _ _ ?_
  intro w1 hT hG hF
  have hb1 := hT.undrew.below
  have sy : Sl w1 v4 (digs n) := hF 4 _ rfl rfl (by decide)
  replace rr0 := rr0.below hb1 rr0.lt
  replace rr1 := rr1.below hb1 rr1.lt
  replace hl := hl.trans (hb1.mono hl.size)
  clear hT hG hF hb1 hQ QQ L ra rb o1 o2 t2
  go_upto_region 2 with (fail)
  obtain ⟨r4, c4, e4, hc4, -, -⟩ := id sy
  subst e4
  obtain ⟨k, hk⟩ : ∃ k, (digs n).length = k := ⟨_, rfl⟩
  have cap := @len_cap n
  have wp := @wide_parts n
  have ld := len9 hnM
  rw [hk] at hc4 sy cap wp ld ⊢
  by_cases h8 : k ≤ 8
  · have hn := cap.1 h8
    have tq := Lib.hid (tou3 hn)
    have hh := Lib.hid (show n / M = 0 ∧ n % M = n from ⟨Nat.div_eq_of_lt hn, Nat.mod_eq_of_lt hn⟩)
    clear cap wp hn hnM hk ld
    go_upto_region 3 with (fail)
    refine wp_abs (fun wx => Below w.heap.size w wx ∧ Row wx (w.heap.size + 1 + 1) 31 (arr .u64 (fun _ => 0) 4) ∧ Row wx (w.heap.size + 1 + 1 + 1) 31 (arr .u64 (fun _ => 0) 4) ∧ Sl wx (.slice r4 k c4) (digs n)) ⟨hl, rr0, rr1, sy⟩ ?_
    clear hl rr0 rr1 sy
    rintro w3 ⟨hl, rr0, rr1, sy⟩
    let L : List Sp := [sV 1 [] [] (fun u => u = .tuple #[.agg (W4 n), .bool true]), sA 5 31 [6] #[.int .u64 0, .int .u64 0, .int .u64 0, .int .u64 0], sT 6 5 31 [3] (fun g => aggOf g 3)]
    refine wp_region_six0 (shs L) (look6 L) (None_) (by kernel_rfl) (by kernel_rfl) (mk_St L [] [] (by kernel_rfl) (by kernel_rfl) ⟨ok_V ⟨_, rfl⟩, ok_A, ok_T aggOf_congr, trivial⟩ (by simp)) ?_
    intro QQ hQ
    -- 0: t6
    refine stepK rfl (by kernel_rfl) (fun K hK => ?_); go_simp
    apply Exists.intro; apply And.intro; (focus (intro wk hk; go_simp; exact ⟨rfl, rfl⟩)); refine hK _ _ ?_; clear hK K
    -- 1: call F172(t22)
    refine stepS _ rfl (by kernel_rfl) (fun K hK => ?_); go_simp
    refine ⟨?_, ?_⟩
    · intro wk hk hg hu; go_simp; refine upon_enter ((tq.out _ _ (sy.below hk.below)).mono ?_); rintro e w' ⟨rfl, hb⟩; exact ⟨_, rfl, left_V (p := fun u => u = .tuple #[.agg (W4 n), .bool true]) rfl (hb) rfl⟩
    rintro ⟨v1, lo1, hi1⟩ - - (rfl : v1 = _)
    refine hK _ _ ?_; clear hK K
    -- 2: t23
    refine stepK rfl (by kernel_rfl) (fun K hK => ?_); go_simp
    apply Exists.intro; apply And.intro; (focus (intro wk hk; go_simp; exact ⟨rfl, rfl⟩)); refine hK _ _ ?_; clear hK K
    -- 3: extract t21 #0
    refine stepK rfl (by kernel_rfl) (fun K hK => ?_); go_simp
    apply Exists.intro; apply And.intro; (focus (intro wk hk; go_simp; exact ⟨rfl, rfl⟩)); refine hK _ _ ?_; clear hK K
    -- 4: extract t21 #1
    refine stepK rfl (by kernel_rfl) (fun K hK => ?_); go_simp
    apply Exists.intro; apply And.intro; (focus (intro wk hk; go_simp; exact ⟨rfl, rfl⟩)); refine hK _ _ ?_; clear hK K
    -- 5: alloc<31>
    refine stepS _ rfl (by kernel_rfl) (fun K hK => ?_); go_simp
    refine ⟨?_, ?_⟩
    · intro wk hk hg hu; go_simp; exact left_A rfl rfl
    rintro ⟨v5, lo5, hi5⟩ hlo5 hhi5 ⟨e5, f5⟩
    replace e5 : v5 = .pointer (some ⟨lo5, 0, none⟩) := e5; replace f5 : hi5 = lo5 + 1 := f5; replace hlo5 : _ ≤ lo5 := hlo5; subst e5; subst f5
    refine hK _ _ ?_; clear hK K
    -- 6: store<31> *t7 = t24
    refine stepS _ rfl (by kernel_rfl) (fun K hK => ?_); go_simp
    refine ⟨?_, ?_⟩
    · exact sStoreT rfl rfl rfl rfl rfl rfl rfl (by kernel_rfl) rfl (by kernel_rfl) (by decide) aggOf_congr
    rintro ⟨v6, lo6, hi6⟩ - - (rfl : v6 = undef)
    refine hK _ _ ?_; clear hK K
    -- 7: assign t25
    refine stepK rfl (by kernel_rfl) (fun K hK => ?_); go_simp
    apply Exists.intro; apply And.intro; (focus (intro wk hk; go_simp; exact ⟨rfl, rfl⟩)); refine hK _ _ ?_; clear hK K
    refine stepN ?_
    refine hQ _ _ ?_
    intro w4 hT hG hF
    have hb4 := hT.below
    have n5 : w.heap.size + 1 + 1 + 1 < lo5 := Nat.lt_of_lt_of_le rr1.lt hlo5
    have r5 : Row w4 lo5 31 (W4 n) := (hF 6 _ rfl rfl (by decide)).2
    replace rr0 := rr0.below hb4 rr0.lt
    replace rr1 := rr1.below hb4 rr1.lt
    replace hl := hl.trans (hb4.mono hl.size)
    clear hT hG hF hb4 hQ QQ L sy hlo5 hhi5 tq h8 hc4
    go_upto_region 4 with (fail)
    let L : List Sp := [sO 2 (w.heap.size + 1 + 1) 31 [0] (fun g => aggOf g 0), sO 3 (w.heap.size + 1 + 1 + 1) 31 [1] (fun g => aggOf g 1)]
    refine wp_region_six (shs L) (look6 L) (fun c => c = w.heap.size + 1 + 1 ∨ c = w.heap.size + 1 + 1 + 1) (by kernel_rfl) (by kernel_rfl) (mk_St L [2, 3] [2, 3] (by kernel_rfl) (by kernel_rfl) ⟨ok_O aggOf_congr rr0.lt (Or.inl rfl), ok_O aggOf_congr rr1.lt (Or.inr rfl), trivial⟩ (by intro i hi j hj hij b hb hb'; simp only [List.mem_cons, List.not_mem_nil, or_false] at hi hj; rcases hi with rfl | rfl <;> rcases hj with rfl | rfl <;> first | exact absurd rfl hij | (have h1 : b = _ := hb; have h2 : b = _ := hb'; omega))) ?_
    intro QQ hQ
    -- 0: build<31> 
    refine stepK rfl (by kernel_rfl) (fun K hK => ?_); go_simp
    apply Exists.intro; apply And.intro; (focus (intro wk hk; go_simp; exact ⟨rfl, rfl⟩)); refine hK _ _ ?_; clear hK K
    -- 1: load<31> *t7
    refine stepKz rfl (fun K hK => ?_); go_simp
    apply Exists.intro; apply And.intro; (focus exact kLoad rfl rfl aggT31 r5 rfl (by first | exact id | (intro hx; have hx' : _ = _ ∨ _ = _ := hx; omega) | (intro hx; have hx' : _ = _ := hx; omega) | omega)); refine hK _ _ ?_; clear hK K
    -- 2: store<31> *t4 = t26
    refine stepS _ rfl (by kernel_rfl) (fun K hK => ?_); go_simp
    refine ⟨?_, ?_⟩
    · exact sStoreO rfl rfl rfl rfl rfl rfl rr0 id (by kernel_rfl) rfl (by kernel_rfl) (by decide) aggOf_congr
    rintro ⟨v2, lo2, hi2⟩ - - (rfl : v2 = undef)
    refine hK _ _ ?_; clear hK K
    -- 3: store<31> *t5 = t27
    refine stepSx _ [2] (fun c => c = w.heap.size + 1 + 1) rfl (by kernel_rfl) (by intro i hi b hb; simp only [List.mem_cons, List.not_mem_nil, or_false] at hi; subst hi; exact hb) (fun K hK => ?_); go_simp
    refine ⟨?_, ?_⟩
    · exact sStoreO rfl rfl rfl rfl rfl rfl rr1 (by omega) (by kernel_rfl) rfl (by kernel_rfl) (by decide) aggOf_congr
    rintro ⟨v3, lo3, hi3⟩ - - (rfl : v3 = undef)
    refine hK _ _ ?_; clear hK K
    refine stepN ?_
    refine hQ _ _ ?_
    intro w9 hT hG hF
    have hT' := hT.undrew
    have x2 : Row w9 (w.heap.size + 1 + 1) 31 (W4 0) := Row.congr (show Row w9 (w.heap.size + 1 + 1) 31 _ from hF 2 _ rfl rfl (by decide)) W4_zero
    have x3 : Row w9 (w.heap.size + 1 + 1 + 1) 31 (W4 n) := hF 3 _ rfl rfl (by decide)
    have hl9 : Below w.heap.size w w9 := hl.trans (hT'.below_of hl.size (by intro c hc; omega))
    clear hT hT' hG hF hQ QQ L
    go_wp2_with fail
    refine bodyPost_ret (results_cc rfl aggT31 aggT31 rfl rfl x2 x3 rfl rfl) rfl ?_
    exact ⟨by rw [hh.out.1, hh.out.2], hl9⟩
  · have h9 : 8 < k := by omega
    have hv := wp (by omega)
    have tl : ∀ wx v, Sl wx v ((digs n).take 8) → Calls Try.prog 172 #[v] wx (Ret wx (.tuple #[.agg (W4 (n % M)), .bool true])) := fun wx v s1 => by
      have := tou_any v _ wx (fun x hx => dig_digs n x (List.mem_of_mem_take hx)) s1 (by rw [List.length_take]; omega)
      rw [hv.1, show capN (n % M) = n % M from if_pos (Nat.mod_lt _ M_pos), decide_eq_true (Nat.mod_lt n M_pos)] at this
      exact this
    have hd : n / M < M := by rw [Nat.div_lt_iff_lt_mul M_pos]; exact hnM
    have th : ∀ wx v, Sl wx v ((digs n).drop 8) → Calls Try.prog 172 #[v] wx (Ret wx (.tuple #[.agg (W4 (n / M)), .bool true])) := fun wx v s1 => by
      have := tou_any v _ wx (fun x hx => dig_digs n x (List.mem_of_mem_drop hx)) s1 (by rw [List.length_drop]; omega)
      rw [hv.2, show capN (n / M) = n / M from if_pos hd, decide_eq_true hd] at this
      exact this
    obtain ⟨g, o, eg⟩ := sy.addr' (by omega)
    subst eg
    replace tl := Lib.hid tl
    replace th := Lib.hid th
    obtain ⟨x, hx⟩ : ∃ x, n / M = x := ⟨_, rfl⟩
    obtain ⟨y, hy⟩ : ∃ y, n % M = y := ⟨_, rfl⟩
    rw [hy] at tl
    rw [hx] at th
    have hh := Lib.hid (show _ ∧ _ from ⟨hx, hy⟩)
    have g8 : 8 ≤ c4 := by omega
    have g9 : 8 ≤ k := by omega
    have g8' : (8 : Int) ≤ (c4 : Int) := by omega
    have g9' : (8 : Int) ≤ (k : Int) := by omega
    have g7 : (k : Int) ≤ (c4 : Int) := by omega
    have g6 : ¬ c4 = 8 := by omega
    clear hx hy hd hv cap wp hnM hk ld h8
    go_upto_region 5 with (fail)
    refine wp_abs (fun wx => Below w.heap.size w wx ∧ Row wx (w.heap.size + 1 + 1) 31 (arr .u64 (fun _ => 0) 4) ∧ Row wx (w.heap.size + 1 + 1 + 1) 31 (arr .u64 (fun _ => 0) 4) ∧ Sl wx (.slice (some ⟨g, o, none⟩) k c4) (digs n)) ⟨hl, rr0, rr1, sy⟩ ?_
    clear hl rr0 rr1 sy
    rintro w3 ⟨hl, rr0, rr1, sy⟩
    let L : List Sp := [sV 2 [] [] (fun u => u = .tuple #[.agg (W4 y), .bool true]), sA 6 31 [7] #[.int .u64 0, .int .u64 0, .int .u64 0, .int .u64 0], sT 7 6 31 [4] (fun g => aggOf g 4)]
    refine wp_region_six0 (shs L) (look6 L) (None_) (by kernel_rfl) (by kernel_rfl) (mk_St L [] [] (by kernel_rfl) (by kernel_rfl) ⟨ok_V ⟨_, rfl⟩, ok_A, ok_T aggOf_congr, trivial⟩ (by simp)) ?_
    intro QQ hQ
    -- 0: t6
    refine stepK rfl (by kernel_rfl) (fun K hK => ?_); go_simp
    apply Exists.intro; apply And.intro; (focus (intro wk hk; go_simp; exact ⟨rfl, rfl⟩)); refine hK _ _ ?_; clear hK K
    -- 1: slice<153> t29[:8:]
    refine stepK rfl (by kernel_rfl) (fun K hK => ?_); go_simp
    apply Exists.intro; apply And.intro; (focus (intro wk hk; go_simp; exact ⟨rfl, rfl⟩)); refine hK _ _ ?_; clear hK K
    -- 2: call F172(t30)
    refine stepS _ rfl (by kernel_rfl) (fun K hK => ?_); go_simp
    refine ⟨?_, ?_⟩
    · intro wk hk hg hu; go_simp; refine upon_enter ((tl.out _ _ ((sy.cut g9).below hk.below)).mono ?_); rintro e w' ⟨rfl, hb⟩; exact ⟨_, rfl, left_V (p := fun u => u = .tuple #[.agg (W4 y), .bool true]) rfl (hb) rfl⟩
    rintro ⟨v2, lo2, hi2⟩ - - (rfl : v2 = _)
    refine hK _ _ ?_; clear hK K
    -- 3: t31
    refine stepK rfl (by kernel_rfl) (fun K hK => ?_); go_simp
    apply Exists.intro; apply And.intro; (focus (intro wk hk; go_simp; exact ⟨rfl, rfl⟩)); refine hK _ _ ?_; clear hK K
    -- 4: extract t28 #0
    refine stepK rfl (by kernel_rfl) (fun K hK => ?_); go_simp
    apply Exists.intro; apply And.intro; (focus (intro wk hk; go_simp; exact ⟨rfl, rfl⟩)); refine hK _ _ ?_; clear hK K
    -- 5: extract t28 #1
    refine stepK rfl (by kernel_rfl) (fun K hK => ?_); go_simp
    apply Exists.intro; apply And.intro; (focus (intro wk hk; go_simp; exact ⟨rfl, rfl⟩)); refine hK _ _ ?_; clear hK K
    -- 6: alloc<31>
    refine stepS _ rfl (by kernel_rfl) (fun K hK => ?_); go_simp
    refine ⟨?_, ?_⟩
    · intro wk hk hg hu; go_simp; exact left_A rfl rfl
    rintro ⟨v6, lo6, hi6⟩ hlo6 hhi6 ⟨e6, f6⟩
    replace e6 : v6 = .pointer (some ⟨lo6, 0, none⟩) := e6; replace f6 : hi6 = lo6 + 1 := f6; replace hlo6 : _ ≤ lo6 := hlo6; subst e6; subst f6
    refine hK _ _ ?_; clear hK K
    -- 7: store<31> *t9 = t32
    refine stepS _ rfl (by kernel_rfl) (fun K hK => ?_); go_simp
    refine ⟨?_, ?_⟩
    · exact sStoreT rfl rfl rfl rfl rfl rfl rfl (by kernel_rfl) rfl (by kernel_rfl) (by decide) aggOf_congr
    rintro ⟨v7, lo7, hi7⟩ - - (rfl : v7 = undef)
    refine hK _ _ ?_; clear hK K
    -- 8: assign t33
    refine stepK rfl (by kernel_rfl) (fun K hK => ?_); go_simp
    apply Exists.intro; apply And.intro; (focus (intro wk hk; go_simp; exact ⟨rfl, rfl⟩)); refine hK _ _ ?_; clear hK K
    refine stepN ?_
    refine hQ _ _ ?_
    intro w4 hT hG hF
    have hb4 := hT.below
    have n6 : w.heap.size + 1 + 1 + 1 < lo6 := Nat.lt_of_lt_of_le rr1.lt hlo6
    have r6 : Row w4 lo6 31 (W4 y) := (hF 7 _ rfl rfl (by decide)).2
    replace rr0 := rr0.below hb4 rr0.lt
    replace rr1 := rr1.below hb4 rr1.lt
    replace sy := sy.below hb4
    replace hl := hl.trans (hb4.mono hl.size)
    clear hT hG hF hb4 hQ QQ L hlo6 hhi6 tl
    go_upto_region 6 with (fail)
    let L : List Sp := [sV 2 [] [] (fun u => u = .tuple #[.agg (W4 x), .bool true]), sA 6 31 [7] #[.int .u64 0, .int .u64 0, .int .u64 0, .int .u64 0], sT 7 6 31 [4] (fun g => aggOf g 4)]
    refine wp_region_six0 (shs L) (look6 L) (None_) (by kernel_rfl) (by kernel_rfl) (mk_St L [] [] (by kernel_rfl) (by kernel_rfl) ⟨ok_V ⟨_, rfl⟩, ok_A, ok_T aggOf_congr, trivial⟩ (by simp)) ?_
    intro QQ hQ
    -- 0: t6
    refine stepK rfl (by kernel_rfl) (fun K hK => ?_); go_simp
    apply Exists.intro; apply And.intro; (focus (intro wk hk; go_simp; exact ⟨rfl, rfl⟩)); refine hK _ _ ?_; clear hK K
    -- 1: slice<153> t35[8::]
    refine stepK rfl (by kernel_rfl) (fun K hK => ?_); go_simp
    apply Exists.intro; apply And.intro; (focus (intro wk hk; go_simp; exact ⟨rfl, rfl⟩)); refine hK _ _ ?_; clear hK K
    -- 2: call F172(t36)
    refine stepS _ rfl (by kernel_rfl) (fun K hK => ?_); go_simp
    refine ⟨?_, ?_⟩
    · intro wk hk hg hu; go_simp; refine upon_enter ((th.out _ _ ((Sl_drop sy g9).below hk.below)).mono ?_); rintro e w' ⟨rfl, hb⟩; exact ⟨_, rfl, left_V (p := fun u => u = .tuple #[.agg (W4 x), .bool true]) rfl (hb) rfl⟩
    rintro ⟨v2, lo2, hi2⟩ - - (rfl : v2 = _)
    refine hK _ _ ?_; clear hK K
    -- 3: t37
    refine stepK rfl (by kernel_rfl) (fun K hK => ?_); go_simp
    apply Exists.intro; apply And.intro; (focus (intro wk hk; go_simp; exact ⟨rfl, rfl⟩)); refine hK _ _ ?_; clear hK K
    -- 4: extract t34 #0
    refine stepK rfl (by kernel_rfl) (fun K hK => ?_); go_simp
    apply Exists.intro; apply And.intro; (focus (intro wk hk; go_simp; exact ⟨rfl, rfl⟩)); refine hK _ _ ?_; clear hK K
    -- 5: extract t34 #1
    refine stepK rfl (by kernel_rfl) (fun K hK => ?_); go_simp
    apply Exists.intro; apply And.intro; (focus (intro wk hk; go_simp; exact ⟨rfl, rfl⟩)); refine hK _ _ ?_; clear hK K
    -- 6: alloc<31>
    refine stepS _ rfl (by kernel_rfl) (fun K hK => ?_); go_simp
    refine ⟨?_, ?_⟩
    · intro wk hk hg hu; go_simp; exact left_A rfl rfl
    rintro ⟨v6, lo8, hi8⟩ hlo8 hhi8 ⟨e6, f6⟩
    replace e6 : v6 = .pointer (some ⟨lo8, 0, none⟩) := e6; replace f6 : hi8 = lo8 + 1 := f6; replace hlo8 : _ ≤ lo8 := hlo8; subst e6; subst f6
    refine hK _ _ ?_; clear hK K
    -- 7: store<31> *t11 = t38
    refine stepS _ rfl (by kernel_rfl) (fun K hK => ?_); go_simp
    refine ⟨?_, ?_⟩
    · exact sStoreT rfl rfl rfl rfl rfl rfl rfl (by kernel_rfl) rfl (by kernel_rfl) (by decide) aggOf_congr
    rintro ⟨v7, lo7, hi7⟩ - - (rfl : v7 = undef)
    refine hK _ _ ?_; clear hK K
    -- 8: assign t39
    refine stepK rfl (by kernel_rfl) (fun K hK => ?_); go_simp
    apply Exists.intro; apply And.intro; (focus (intro wk hk; go_simp; exact ⟨rfl, rfl⟩)); refine hK _ _ ?_; clear hK K
    refine stepN ?_
    refine hQ _ _ ?_
    intro w5 hT hG hF
    have hb5 := hT.below
    have n8 : w.heap.size + 1 + 1 + 1 < lo8 := Nat.lt_of_lt_of_le rr1.lt hlo8
    have r8 : Row w5 lo8 31 (W4 x) := (hF 7 _ rfl rfl (by decide)).2
    replace r6 := r6.below hb5 r6.lt
    replace rr0 := rr0.below hb5 rr0.lt
    replace rr1 := rr1.below hb5 rr1.lt
    replace hl := hl.trans (hb5.mono hl.size)
    clear hT hG hF hb5 hQ QQ L sy hlo8 hhi8 th
    go_upto_region 7 with (fail)
    let L : List Sp := [sO 2 (w.heap.size + 1 + 1) 31 [0] (fun g => aggOf g 0), sO 3 (w.heap.size + 1 + 1 + 1) 31 [1] (fun g => aggOf g 1)]
    refine wp_region_six (shs L) (look6 L) (fun c => c = w.heap.size + 1 + 1 ∨ c = w.heap.size + 1 + 1 + 1) (by kernel_rfl) (by kernel_rfl) (mk_St L [2, 3] [2, 3] (by kernel_rfl) (by kernel_rfl) ⟨ok_O aggOf_congr rr0.lt (Or.inl rfl), ok_O aggOf_congr rr1.lt (Or.inr rfl), trivial⟩ (by intro i hi j hj hij b hb hb'; simp only [List.mem_cons, List.not_mem_nil, or_false] at hi hj; rcases hi with rfl | rfl <;> rcases hj with rfl | rfl <;> first | exact absurd rfl hij | (have h1 : b = _ := hb; have h2 : b = _ := hb'; omega))) ?_
    intro QQ hQ
    -- 0: load<31> *t11
    refine stepK rfl (by kernel_rfl) (fun K hK => ?_); go_simp
    apply Exists.intro; apply And.intro; (focus exact kLoad rfl rfl aggT31 r8 rfl (by first | exact id | (intro hx; have hx' : _ = _ ∨ _ = _ := hx; omega) | (intro hx; have hx' : _ = _ := hx; omega) | omega)); refine hK _ _ ?_; clear hK K
    -- 1: load<31> *t9
    refine stepKz rfl (fun K hK => ?_); go_simp
    apply Exists.intro; apply And.intro; (focus exact kLoad rfl rfl aggT31 r6 rfl (by first | exact id | (intro hx; have hx' : _ = _ ∨ _ = _ := hx; omega) | (intro hx; have hx' : _ = _ := hx; omega) | omega)); refine hK _ _ ?_; clear hK K
    -- 2: store<31> *t4 = t40
    refine stepS _ rfl (by kernel_rfl) (fun K hK => ?_); go_simp
    refine ⟨?_, ?_⟩
    · exact sStoreO rfl rfl rfl rfl rfl rfl rr0 id (by kernel_rfl) rfl (by kernel_rfl) (by decide) aggOf_congr
    rintro ⟨v2, lo2, hi2⟩ - - (rfl : v2 = undef)
    refine hK _ _ ?_; clear hK K
    -- 3: store<31> *t5 = t41
    refine stepSx _ [2] (fun c => c = w.heap.size + 1 + 1) rfl (by kernel_rfl) (by intro i hi b hb; simp only [List.mem_cons, List.not_mem_nil, or_false] at hi; subst hi; exact hb) (fun K hK => ?_); go_simp
    refine ⟨?_, ?_⟩
    · exact sStoreO rfl rfl rfl rfl rfl rfl rr1 (by omega) (by kernel_rfl) rfl (by kernel_rfl) (by decide) aggOf_congr
    rintro ⟨v3, lo3, hi3⟩ - - (rfl : v3 = undef)
    refine hK _ _ ?_; clear hK K
    refine stepN ?_
    refine hQ _ _ ?_
    intro w9 hT hG hF
    have hT' := hT.undrew
    have x2 : Row w9 (w.heap.size + 1 + 1) 31 (W4 x) := hF 2 _ rfl rfl (by decide)
    have x3 : Row w9 (w.heap.size + 1 + 1 + 1) 31 (W4 y) := hF 3 _ rfl rfl (by decide)
    have hl9 : Below w.heap.size w w9 := hl.trans (hT'.below_of hl.size (by intro c hc; omega))
    clear hT hT' hG hF hQ QQ L
    go_wp2_with fail
    refine bodyPost_ret (results_cc rfl aggT31 aggT31 rfl rfl x2 x3 rfl rfl) rfl ?_
    exact ⟨by rw [hh.out.1, hh.out.2], hl9⟩
end Go.Proofs.Ytpdenhmkpiafiaa
