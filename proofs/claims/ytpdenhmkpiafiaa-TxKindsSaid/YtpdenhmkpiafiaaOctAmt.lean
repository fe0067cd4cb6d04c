/-
  octet.Amount (40): an amount put behind bytes.
-/
import Derived.Test.YtpdenhmkpiafiaaOctVar
import Derived.Test.YtpdenhmkpiafiaaOctK7
import Derived.Test.YtpdenhmkpiafiaaRefOf
namespace Go.Proofs.Ytpdenhmkpiafiaa
open Go Go.RowKit K6

/-- a number's 32 bytes, the greatest first -/
def BL32 (a : Nat) : List Int := (List.range 32).map fun j => ((byN a (31 - j) : Nat) : Int)
theorem BL32_len (a : Nat) : (BL32 a).length = 32 := by unfold BL32; rw [List.length_map, List.length_range]
/-- how many bytes a number needs -/
def nby (a : Nat) : Nat := (blen a + 7) / 8
theorem nby_le {a : Nat} (ha : a < M) : nby a ≤ 32 := by
  have h : blen a ≤ 256 := blen_le ha
  unfold nby
  omega
def amtL (a : Nat) : List Int := ((nby a : Nat) : Int) :: (BL32 a).drop (32 - nby a)
def S32 (x : GV) : Prop := ∃ g, x.v = .slice (some ⟨g, 0, none⟩) 32 32
theorem s32_some {w : World} : ∃ x : GV, w.heap.size ≤ x.lo ∧ x.lo ≤ x.hi ∧ S32 x := ⟨⟨.slice (some ⟨0, 0, none⟩) 32 32, w.heap.size, w.heap.size⟩, Nat.le_refl _, Nat.le_refl _, 0, rfl⟩
theorem bs82 {a : Nat} (ha : a < M) (w : World) : Calls Try.prog 82 #[.agg (W4 a)] w fun e w' => ∃ g, e = .returned (.slice (some ⟨g, 0, none⟩) 32 32) ∧ Bs w' (.slice (some ⟨g, 0, none⟩) 32 32) (BL32 a) ∧ Below w.heap.size w w' := by
  refine (bytesU ha w).mono ?_
  rintro e w' ⟨g, rfl, hg, hr, hb⟩
  refine ⟨g, rfl, ⟨some ⟨g, 0, none⟩, 32, by rw [BL32_len], (fun h => (by cases h)), fun p hp j u hj => ?_⟩, hb⟩
  cases hp
  rw [add_at]
  unfold bv BL32 at hj
  rw [List.map_map, List.getElem?_map] at hj
  rcases Nat.lt_or_ge j 32 with h | h
  · rw [List.getElem?_range h] at hj
    cases hj
    rw [Nat.zero_add, hr.at_ j h]
    unfold bytesTo
    rw [if_pos h]
    rfl
  · rw [List.getElem?_eq_none (by rw [List.length_range]; exact h)] at hj
    cases hj
theorem Bs_drop {w : World} {g j : Nat} {ys : List Int} (h : Bs w (.slice (some ⟨g, 0, none⟩) 32 32) ys) (_hj : j < 32) : Bs w (.slice (some ⟨g, j, none⟩) (32 - j) (32 - j)) (ys.drop j) := by
  obtain ⟨q, c, e, h0, h1⟩ := h
  obtain ⟨e1, e2⟩ : q = some ⟨g, 0, none⟩ ∧ ys.length = 32 := by injection e with e1 e2 e3; exact ⟨e1.symm, e2.symm⟩
  refine ⟨some ⟨g, j, none⟩, 32 - j, by rw [List.length_drop, e2], (fun h => (by cases h)), fun p hp i u hi => ?_⟩
  cases hp
  rw [add_off, ← Nat.zero_add (j + i), ← add_off]
  refine h1 _ e1 (j + i) u ?_
  rw [← hi]
  unfold bv
  rw [List.getElem?_map, List.getElem?_map, List.getElem?_drop]
theorem Bs_row1 {w : World} {b : Nat} {x : Int} (h : Row w b 5 #[.int .u8 x]) : Bs w (.slice (some ⟨b, 0, none⟩) 1 1) [x] := by
  refine ⟨_, _, rfl, (fun h => (by cases h)), fun a ha j u hj => ?_⟩
  cases ha
  match j, hj with
  | 0, hj =>
    cases hj
    rw [add_at]
    exact h.cell 0
set_option maxRecDepth 100000 in
set_option maxHeartbeats 8000000 in
theorem amt_any (u : Value) (xs : List Int) (a : Nat) (w : World) (h : Bs w u xs) (hL0 : xs.length ≤ 10000000) (ha : a < M) :
    Calls Try.prog 40 #[u, .agg (W4 a)] w fun e w' => ∃ v, e = .returned v ∧ Ob w' w.heap.size v (xs ++ amtL a) ∧ Below w.heap.size w w' := by
  have hL := Lib.hid (show xs.length ≤ 100000000 by omega)
  have hk32 := nby_le ha
  have hl256 : blen a ≤ 256 := blen_le ha
  have hYl := BL32_len a
  have hkd : nby a = (blen a + 7) / 8 := rfl
  have hfin0 : ∀ tl : List Int, tl = (BL32 a).drop (32 - nby a) → (xs ++ [((nby a : Nat) : Int)]) ++ tl = xs ++ amtL a := fun tl e => by
    subst e
    unfold amtL
    rw [List.append_assoc]; rfl
  have kb := fun wx => bitsU ha wx
  have k82 := Lib.hid fun wx => bs82 ha wx
  obtain ⟨k, hk⟩ : ∃ k, nby a = k := ⟨_, rfl⟩
  rw [hk] at hk32 hkd hfin0
  obtain ⟨l, hl0⟩ : ∃ l, blen a = l := ⟨_, rfl⟩
  rw [hl0] at kb hl256 hkd
  replace kb := Lib.hid kb
  have hfin1 := Lib.hid hfin0
  clear hfin0 hk hl0
  have w7 : IntKind.i64.wrap ((l : Int) + 7) = (l : Int) + 7 := by rw [IntKind.wrap_i64]; omega
  have t7 : ((l : Int) + 7).tdiv 8 = ((l : Int) + 7) / 8 := Int.tdiv_eq_ediv_of_nonneg (by omega)
  have t8 : IntKind.i64.wrap (((l : Int) + 7) / 8) = (k : Int) := by rw [IntKind.wrap_i64]; omega
  clear hkd
  have hb0 := h
  clear h hL0 ha
  go_enter Try.func40, Try.ntmps40
  apply wp_seq_eq
  focus
    intro J hJ
    go_wp2_with fail
    exact hJ
  refine wp_abs (Mem w [(w.heap.size, 31, W4 a)]) ⟨by go_grown, ?_, trivial⟩ ?_
  · repeat (first | (refine Row.new_at ?_; simp; done) | refine Row.alloc ?_ _)
  intro w0 hM
  obtain ⟨hl, ra, -⟩ := hM
  go_upto_region 1 with (fail)
  have hb := hb0.below hl
  clear hb0
  let L : List Sp := [sV 1 [] [] (fun u => u = .int .i64 (l : Int))]
  refine wp_region_six0 (shs L) (look6 L) (None_) (by kernel_rfl) (by kernel_rfl) (mk_St L [] [] (by kernel_rfl) (by kernel_rfl) ⟨ok_V ⟨_, rfl⟩, trivial⟩ (by simp)) ?_
  intro QQ hQ
  -- 0: load<31> *t3
  refine stepK rfl (by kernel_rfl) (fun K hK => ?_); go_simp
  apply Exists.intro; apply And.intro; (focus exact kLoad rfl rfl aggT31 ra rfl id); refine hK _ _ ?_; clear hK K
  -- 1: call F49(t7)
  refine stepS _ rfl (by kernel_rfl) (fun K hK => ?_); go_simp
  refine ⟨?_, ?_⟩
  · intro wk hk hg hu; go_simp; refine upon_enter ((kb.out _).mono ?_); rintro e w' ⟨rfl, hb⟩; exact ⟨_, rfl, left_V (p := fun u => u = .int .i64 (l : Int)) rfl (hb) rfl⟩
  rintro ⟨v1, lo1, hi1⟩ - - (rfl : v1 = _)
  refine hK _ _ ?_; clear hK K
  -- 2: add<3> t8, 7
  refine stepK rfl (by kernel_rfl) (fun K hK => ?_); go_simp
  apply Exists.intro; apply And.intro; (focus (intro wk hk; go_simp; exact ⟨rfl, rfl⟩)); refine hK _ _ ?_; clear hK K
  -- 3: quo<3> t9, 8
  refine stepK rfl (by kernel_rfl) (fun K hK => ?_); go_simp
  apply Exists.intro; apply And.intro; (focus (intro wk hk; go_simp; exact ⟨rfl, rfl⟩)); refine hK _ _ ?_; clear hK K
  -- 4: assign t10
  refine stepK rfl (by kernel_rfl) (fun K hK => ?_); go_simp
  apply Exists.intro; apply And.intro; (focus (intro wk hk; go_simp; exact ⟨rfl, rfl⟩)); refine hK _ _ ?_; clear hK K
  refine stepN ?_
  refine hQ _ _ ?_
  intro w1 hT hG hF
  have hbw1 := hT.below
  replace ra := ra.below hbw1 ra.lt
  replace hl := hl.trans (hbw1.mono hl.size)
  replace hb := hb.below hbw1
  clear hT hG hF hbw1 hQ QQ L kb
  go_upto_region 2 with (fail)
  let L : List Sp := [sF 1 [] [] [] (fun x => S32 x) (fun x w => Bs w x.v (BL32 a))]
  refine wp_region_six0 (shs L) (look6 L) (None_) (by kernel_rfl) (by kernel_rfl) (mk_St L [] [] (by kernel_rfl) (by kernel_rfl) ⟨ok_F s32_some (fun _ _ _ h hb => Bs.below h hb), trivial⟩ (by simp)) ?_
  intro QQ hQ
  -- 0: load<31> *t3
  refine stepK rfl (by kernel_rfl) (fun K hK => ?_); go_simp
  apply Exists.intro; apply And.intro; (focus exact kLoad rfl rfl aggT31 ra rfl id); refine hK _ _ ?_; clear hK K
  -- 1: call F82(t11)
  refine stepS _ rfl (by kernel_rfl) (fun K hK => ?_); go_simp
  refine ⟨?_, ?_⟩
  · intro wk hk hg hu; go_simp; refine upon_enter ((k82.out _).mono ?_); rintro e w' ⟨g, rfl, hv, hb9⟩; exact ⟨_, rfl, left_F rfl rfl hb9 ⟨_, rfl⟩ hv⟩
  rintro ⟨v1, lo1, hi1⟩ - - ⟨g1, (rfl : v1 = _)⟩
  refine hK _ _ ?_; clear hK K
  -- 2: assign t12
  refine stepK rfl (by kernel_rfl) (fun K hK => ?_); go_simp
  apply Exists.intro; apply And.intro; (focus (intro wk hk; go_simp; exact ⟨rfl, rfl⟩)); refine hK _ _ ?_; clear hK K
  refine stepN ?_
  refine hQ _ _ ?_
  intro w2 hT hG hF
  have hb2 := hT.below
  have hY0 : Bs w2 (.slice (some ⟨g1, 0, none⟩) 32 32) (BL32 a) := hF 1 _ rfl rfl (by decide)
  replace hb := hb.below hb2
  replace hl := hl.trans (hb2.mono hl.size)
  clear hT hG hF hb2 hQ QQ L ra k82 w7 t7 t8
  obtain ⟨j, hj⟩ : ∃ j, 32 - k = j := ⟨_, rfl⟩
  have ej : (32 : Int) - (k : Int) = (j : Int) := by omega
  have wk8 : IntKind.u8.wrap (k : Int) = (k : Int) := by rw [IntKind.wrap_u8]; omega
  by_cases hj32 : j = 32
  · have hfin2 := Lib.hid (hfin1.out [] (by rw [hj, hj32, List.drop_eq_nil_of_le (by omega)]))
    have hY := Lib.hid (show ([] : List Int).length ≤ 32 by decide)
    obtain rfl : k = 0 := by omega
    obtain ⟨z5, hz5e⟩ : ∃ z, xs ++ [((0 : Nat) : Int)] = z := ⟨_, rfl⟩
    have hz5l := Lib.hid (show z5.length ≤ 100000001 by rw [← hz5e]; have := hL.out; simp; omega)
    have hz5 := Lib.hid hz5e
    obtain ⟨z12, hz12e⟩ : ∃ z, z5 ++ ([] : List Int) = z := ⟨_, rfl⟩
    have hfin := Lib.hid (show z12 = xs ++ amtL a by rw [← hz12e, ← hz5e]; exact hfin2.out)
    have hz12 := Lib.hid hz12e
    clear hz5e hz12e hfin2
    subst hj32
    clear hj hYl hfin1
    go_upto_region 3 with (fail)
    let L : List Sp := [sQ 1 [] [] [] [5, 12] w2.heap.size xs (fun _ => True), sL 4 5 [] 1 #[.int .u8 ((0 : Nat) : Int)], sQ 5 [1] [1, 4] [1, 4] [12] w2.heap.size z5 (fun _ => True), sQ 12 [5, 1] [5, 1, 4] [5] [] w2.heap.size z12 (fun _ => True)]
    refine wp_region_six7 (shs L) (look6 L) (None_) (by kernel_rfl) (by kernel_rfl) (mk_St L [] [] (by kernel_rfl) (by kernel_rfl) ⟨ok_Q ⟨undef, trivial⟩ (by simp), ok_L, ok_Q ⟨undef, trivial⟩ (by simp), ok_Q ⟨undef, trivial⟩ (by simp), trivial⟩ (by simp)) ?_
    intro QQ hQ
    -- 0: t0
    refine stepK rfl (by kernel_rfl) (fun K hK => ?_); go_simp
    apply Exists.intro; apply And.intro; (focus (intro wk hk; go_simp; exact ⟨rfl, rfl⟩)); refine hK _ _ ?_; clear hK K
    -- 1: call F157(t13)
    refine stepS _ rfl (by kernel_rfl) (fun K hK => ?_); go_simp
    refine ⟨?_, ?_⟩
    · intro wk hk hg hu; have hb9 := hb.below hk.undrew.below; go_simp; refine upon_enter ((clone_any u xs wk hb9 hL.out).mono ?_); rintro e w' ⟨v, rfl, ho, hbb⟩; exact ⟨_, rfl, left_Qc rfl rfl ho hbb hk.undrew.size trivial⟩
    rintro ⟨v1, lo1, hi1⟩ - - -
    refine hK _ _ ?_; clear hK K
    -- 2: t5
    refine stepK rfl (by kernel_rfl) (fun K hK => ?_); go_simp
    apply Exists.intro; apply And.intro; (focus (intro wk hk; go_simp; exact ⟨rfl, rfl⟩)); refine hK _ _ ?_; clear hK K
    -- 3: convert<3->5> t15
    refine stepK rfl (by kernel_rfl) (fun K hK => ?_); go_simp
    apply Exists.intro; apply And.intro; (focus (intro wk hk; go_simp; exact ⟨rfl, rfl⟩)); refine hK _ _ ?_; clear hK K
    -- 4: buildSlice<33> len 1 0:t16
    refine stepS _ rfl (by kernel_rfl) (fun K hK => ?_); go_simp
    refine ⟨?_, ?_⟩
    · intro wk hk hg hu; go_simp; exact left_L rfl rfl
    rintro ⟨v4, lo4, hi4⟩ hlo4 hhi4 ⟨e4, f4⟩
    replace e4 : v4 = .slice (some ⟨lo4, 0, none⟩) 1 1 := e4; replace f4 : hi4 = lo4 + 1 := f4; replace hlo4 : _ ≤ lo4 := hlo4; subst e4; subst f4
    refine hK _ _ ?_; clear hK K
    -- 5: call builtin append<33,33>(t14, t17)
    refine stepS _ rfl (by kernel_rfl) (fun K hK => ?_); go_simp
    refine ⟨?_, ?_⟩
    · intro wk hk hg hu; have u1 : OwnF 1 [] w2.heap.size xs _ wk := hu 1 (show 1 ∈ [1, 4] by decide); have u4 := hu 4 (show 4 ∈ [1, 4] by decide); have r4 : Row wk lo4 5 #[.int .u8 ((0 : Nat) : Int)] := And.right (a := lo4 + 1 = lo4 + 1) u4; have o1 : Ob wk w2.heap.size v1 xs := u1.1; obtain ⟨v', w', hrun, ho2, hgb, hw⟩ := append_run o1 (Bs_row1 r4) (by have := hL.out; simp; omega) hk.undrew.size; rw [run_append_op rfl rfl rfl hrun]; exact left_Qa rfl rfl (by decide) u1.2 hgb (by rw [← hz5.out]; exact ho2) hw trivial
    rintro ⟨v5, lo5, hi5⟩ - - -
    refine hK _ _ ?_; clear hK K
    -- 6: t6
    refine stepK rfl (by kernel_rfl) (fun K hK => ?_); go_simp
    apply Exists.intro; apply And.intro; (focus (intro wk hk; go_simp; exact ⟨rfl, rfl⟩)); refine hK _ _ ?_; clear hK K
    -- 7: t6
    refine stepK rfl (by kernel_rfl) (fun K hK => ?_); go_simp
    apply Exists.intro; apply And.intro; (focus (intro wk hk; go_simp; exact ⟨rfl, rfl⟩)); refine hK _ _ ?_; clear hK K
    -- 8: call builtin len<33>(t20)
    refine stepK rfl (by kernel_rfl) (fun K hK => ?_); go_simp
    apply Exists.intro; apply And.intro; (focus (intro wk hk; go_simp; exact ⟨rfl, rfl⟩)); refine hK _ _ ?_; clear hK K
    -- 9: t5
    refine stepK rfl (by kernel_rfl) (fun K hK => ?_); go_simp
    apply Exists.intro; apply And.intro; (focus (intro wk hk; go_simp; exact ⟨rfl, rfl⟩)); refine hK _ _ ?_; clear hK K
    -- 10: sub<3> t21, t22
    refine stepK rfl (by kernel_rfl) (fun K hK => ?_); go_simp
    apply Exists.intro; apply And.intro; (focus (intro wk hk; go_simp; exact ⟨rfl, rfl⟩)); refine hK _ _ ?_; clear hK K
    -- 11: slice<33> t19[t23::]
    refine stepK rfl (by kernel_rfl) (fun K hK => ?_); go_simp
    apply Exists.intro; apply And.intro; (focus (intro wk hk; go_simp; exact ⟨rfl, rfl⟩)); refine hK _ _ ?_; clear hK K
    -- 12: call builtin append<33,33>(t18, t24)
    refine stepS _ rfl (by kernel_rfl) (fun K hK => ?_); go_simp
    refine ⟨?_, ?_⟩
    · intro wk hk hg hu; have u5 : OwnF 5 [1] w2.heap.size z5 _ wk := hu 5 (show 5 ∈ [5] by decide); have o5 : Ob wk w2.heap.size v5 z5 := u5.1; have s9 : Bs wk (.slice (some ⟨g1, 0, none⟩) 0 0) (([] : List Int)) := ⟨_, _, rfl, (fun h => (by cases h)), fun p hp i u hi => by simp [bv] at hi⟩; obtain ⟨v', w', hrun, ho2, hgb, hw⟩ := append_run o5 s9 (by have := hz5l.out; have := hY.out; omega) hk.undrew.size; rw [run_append_op rfl rfl rfl hrun]; exact left_Qa rfl rfl (by decide) u5.2 hgb (by rw [← hz12.out]; exact ho2) hw trivial
    rintro ⟨v12, lo12, hi12⟩ - - -
    refine hK _ _ ?_; clear hK K
    -- 13: assign t25
    refine stepK rfl (by kernel_rfl) (fun K hK => ?_); go_simp
    apply Exists.intro; apply And.intro; (focus (intro wk hk; go_simp; exact ⟨rfl, rfl⟩)); refine hK _ _ ?_; clear hK K
    refine stepN ?_
    refine hQ _ _ ?_
    intro w3 hT hG hF
    have hb3 := hT.undrew.below
    have o12 : OwnF 12 [5, 1] w2.heap.size z12 _ w3 := hF 12 _ rfl rfl (by decide)
    have H := Lib.hid (show _ ∧ _ from ⟨(show Ob w3 w2.heap.size v12 z12 from o12.1).base hl.size, hl.trans (hb3.mono hl.size)⟩)
    clear hT hG hF hb3 hQ QQ L o12 hl hb hY
    go_wp2_with fail
    go_ret
    exact ⟨_, rfl, by rw [← hfin.out]; exact H.out.1, H.out.2⟩
  · have hfin2 := Lib.hid (hfin1.out ((BL32 a).drop j) (by rw [hj]))
    obtain ⟨z5, hz5e⟩ : ∃ z, xs ++ [(k : Int)] = z := ⟨_, rfl⟩
    have hz5l := Lib.hid (show z5.length ≤ 100000001 by rw [← hz5e]; have := hL.out; simp; omega)
    have hz5 := Lib.hid hz5e
    obtain ⟨z12, hz12e⟩ : ∃ z, z5 ++ ((BL32 a).drop j) = z := ⟨_, rfl⟩
    have hfin := Lib.hid (show z12 = xs ++ amtL a by rw [← hz12e, ← hz5e]; exact hfin2.out)
    have hz12 := Lib.hid hz12e
    clear hz5e hz12e hfin2
    have wj : IntKind.i64.wrap (j : Int) = (j : Int) := by rw [IntKind.wrap_i64]; omega
    have hY := Lib.hid (show ((BL32 a).drop j).length ≤ 32 by rw [List.length_drop]; omega)
    have hj33 : j < 32 := by omega
    have hj34 : ¬ 32 = j := by omega
    have hj35 : (j : Int) ≤ 32 := by omega
    clear hYl hfin1 hj
    go_upto_region 3 with (fail)
    let L : List Sp := [sQ 1 [] [] [] [5, 12] w2.heap.size xs (fun _ => True), sL 4 5 [] 1 #[.int .u8 (k : Int)], sQ 5 [1] [1, 4] [1, 4] [12] w2.heap.size z5 (fun _ => True), sQ 12 [5, 1] [5, 1, 4] [5] [] w2.heap.size z12 (fun _ => True)]
    refine wp_region_six7 (shs L) (look6 L) (None_) (by kernel_rfl) (by kernel_rfl) (mk_St L [] [] (by kernel_rfl) (by kernel_rfl) ⟨ok_Q ⟨undef, trivial⟩ (by simp), ok_L, ok_Q ⟨undef, trivial⟩ (by simp), ok_Q ⟨undef, trivial⟩ (by simp), trivial⟩ (by simp)) ?_
    intro QQ hQ
    -- 0: t0
    refine stepK rfl (by kernel_rfl) (fun K hK => ?_); go_simp
    apply Exists.intro; apply And.intro; (focus (intro wk hk; go_simp; exact ⟨rfl, rfl⟩)); refine hK _ _ ?_; clear hK K
    -- 1: call F157(t13)
    refine stepS _ rfl (by kernel_rfl) (fun K hK => ?_); go_simp
    refine ⟨?_, ?_⟩
    · intro wk hk hg hu; have hb9 := hb.below hk.undrew.below; go_simp; refine upon_enter ((clone_any u xs wk hb9 hL.out).mono ?_); rintro e w' ⟨v, rfl, ho, hbb⟩; exact ⟨_, rfl, left_Qc rfl rfl ho hbb hk.undrew.size trivial⟩
    rintro ⟨v1, lo1, hi1⟩ - - -
    refine hK _ _ ?_; clear hK K
    -- 2: t5
    refine stepK rfl (by kernel_rfl) (fun K hK => ?_); go_simp
    apply Exists.intro; apply And.intro; (focus (intro wk hk; go_simp; exact ⟨rfl, rfl⟩)); refine hK _ _ ?_; clear hK K
    -- 3: convert<3->5> t15
    refine stepK rfl (by kernel_rfl) (fun K hK => ?_); go_simp
    apply Exists.intro; apply And.intro; (focus (intro wk hk; go_simp; exact ⟨rfl, rfl⟩)); refine hK _ _ ?_; clear hK K
    -- 4: buildSlice<33> len 1 0:t16
    refine stepS _ rfl (by kernel_rfl) (fun K hK => ?_); go_simp
    refine ⟨?_, ?_⟩
    · intro wk hk hg hu; go_simp; exact left_L rfl rfl
    rintro ⟨v4, lo4, hi4⟩ hlo4 hhi4 ⟨e4, f4⟩
    replace e4 : v4 = .slice (some ⟨lo4, 0, none⟩) 1 1 := e4; replace f4 : hi4 = lo4 + 1 := f4; replace hlo4 : _ ≤ lo4 := hlo4; subst e4; subst f4
    refine hK _ _ ?_; clear hK K
    -- 5: call builtin append<33,33>(t14, t17)
    refine stepS _ rfl (by kernel_rfl) (fun K hK => ?_); go_simp
    refine ⟨?_, ?_⟩
    · intro wk hk hg hu; have u1 : OwnF 1 [] w2.heap.size xs _ wk := hu 1 (show 1 ∈ [1, 4] by decide); have u4 := hu 4 (show 4 ∈ [1, 4] by decide); have r4 : Row wk lo4 5 #[.int .u8 (k : Int)] := And.right (a := lo4 + 1 = lo4 + 1) u4; have o1 : Ob wk w2.heap.size v1 xs := u1.1; obtain ⟨v', w', hrun, ho2, hgb, hw⟩ := append_run o1 (Bs_row1 r4) (by have := hL.out; simp; omega) hk.undrew.size; rw [run_append_op rfl rfl rfl hrun]; exact left_Qa rfl rfl (by decide) u1.2 hgb (by rw [← hz5.out]; exact ho2) hw trivial
    rintro ⟨v5, lo5, hi5⟩ - - -
    refine hK _ _ ?_; clear hK K
    -- 6: t6
    refine stepK rfl (by kernel_rfl) (fun K hK => ?_); go_simp
    apply Exists.intro; apply And.intro; (focus (intro wk hk; go_simp; exact ⟨rfl, rfl⟩)); refine hK _ _ ?_; clear hK K
    -- 7: t6
    refine stepK rfl (by kernel_rfl) (fun K hK => ?_); go_simp
    apply Exists.intro; apply And.intro; (focus (intro wk hk; go_simp; exact ⟨rfl, rfl⟩)); refine hK _ _ ?_; clear hK K
    -- 8: call builtin len<33>(t20)
    refine stepK rfl (by kernel_rfl) (fun K hK => ?_); go_simp
    apply Exists.intro; apply And.intro; (focus (intro wk hk; go_simp; exact ⟨rfl, rfl⟩)); refine hK _ _ ?_; clear hK K
    -- 9: t5
    refine stepK rfl (by kernel_rfl) (fun K hK => ?_); go_simp
    apply Exists.intro; apply And.intro; (focus (intro wk hk; go_simp; exact ⟨rfl, rfl⟩)); refine hK _ _ ?_; clear hK K
    -- 10: sub<3> t21, t22
    refine stepK rfl (by kernel_rfl) (fun K hK => ?_); go_simp
    apply Exists.intro; apply And.intro; (focus (intro wk hk; go_simp; exact ⟨rfl, rfl⟩)); refine hK _ _ ?_; clear hK K
    -- 11: slice<33> t19[t23::]
    refine stepK rfl (by kernel_rfl) (fun K hK => ?_); go_simp
    apply Exists.intro; apply And.intro; (focus (intro wk hk; go_simp; exact ⟨rfl, rfl⟩)); refine hK _ _ ?_; clear hK K
    -- 12: call builtin append<33,33>(t18, t24)
    refine stepS _ rfl (by kernel_rfl) (fun K hK => ?_); go_simp
    refine ⟨?_, ?_⟩
    · intro wk hk hg hu; have u5 : OwnF 5 [1] w2.heap.size z5 _ wk := hu 5 (show 5 ∈ [5] by decide); have o5 : Ob wk w2.heap.size v5 z5 := u5.1; have s9 : Bs wk (.slice (some ⟨g1, j, none⟩) (32 - j) (32 - j)) (((BL32 a).drop j)) := Bs_drop (hY0.below hk.undrew.below) hj33; obtain ⟨v', w', hrun, ho2, hgb, hw⟩ := append_run o5 s9 (by have := hz5l.out; have := hY.out; omega) hk.undrew.size; rw [run_append_op rfl rfl rfl hrun]; exact left_Qa rfl rfl (by decide) u5.2 hgb (by rw [← hz12.out]; exact ho2) hw trivial
    rintro ⟨v12, lo12, hi12⟩ - - -
    refine hK _ _ ?_; clear hK K
    -- 13: assign t25
    refine stepK rfl (by kernel_rfl) (fun K hK => ?_); go_simp
    apply Exists.intro; apply And.intro; (focus (intro wk hk; go_simp; exact ⟨rfl, rfl⟩)); refine hK _ _ ?_; clear hK K
    refine stepN ?_
    refine hQ _ _ ?_
    intro w3 hT hG hF
    have hb3 := hT.undrew.below
    have o12 : OwnF 12 [5, 1] w2.heap.size z12 _ w3 := hF 12 _ rfl rfl (by decide)
    have H := Lib.hid (show _ ∧ _ from ⟨(show Ob w3 w2.heap.size v12 z12 from o12.1).base hl.size, hl.trans (hb3.mono hl.size)⟩)
    clear hT hG hF hb3 hQ QQ L o12 hl hb hY
    go_wp2_with fail
    go_ret
    exact ⟨_, rfl, by rw [← hfin.out]; exact H.out.1, H.out.2⟩
end Go.Proofs.Ytpdenhmkpiafiaa
