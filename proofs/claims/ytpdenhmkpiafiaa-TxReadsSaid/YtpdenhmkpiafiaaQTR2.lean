/-
 What the statement rests on, part 3: OctAmt OctCopy OctPlain RefSrc FrameR EvU EvNew EvSl.
-/
import Derived.Laws.CopyRow
import Derived.Laws.IdiomCopy
import Derived.Deep.SlicePairs
import Derived.Test.YtpdenhmkpiafiaaQTR0
import Derived.Test.YtpdenhmkpiafiaaQTR1
namespace Go.Proofs.Ytpdenhmkpiafiaa
open Go Go.RowKit K6
def BL32 (a : Nat) : List Int := (List.range 32).map fun j => ((byN a (31 - j) : Nat) : Int)
theorem BL32_len (a : Nat) : (BL32 a).length = 32 := by unfold BL32; rw [List.length_map, List.length_range]
def nby (a : Nat) : Nat := (blen a + 7) / 8
theorem nby_le {a : Nat} (ha : a < M) : nby a ≤ 32 := by
 have h : blen a ≤ 256 := blen_le ha
 unfold nby
 omega
def amtL (a : Nat) : List Int := ((nby a : Nat) : Int) :: (BL32 a).drop (32 - nby a)
def S32 (x : GV) : Prop := ∃ g, x.v = .slice (some ⟨g, 0, none⟩) 32 32
theorem s32_some {w : World} : ∃ x : GV, w.heap.size ≤ x.lo ∧ x.lo ≤ x.hi ∧ S32 x := ⟨⟨.slice (some ⟨0, 0, none⟩) 32 32, w.heap.size, w.heap.size⟩, Nat.le_refl _, Nat.le_refl _, 0, rfl⟩
theorem bs82 {a : Nat} (ha : a < M) (w : World) : Calls Try.prog 82 #[.agg (W4 a)] w fun e w' => ∃ g, e = .returned (.slice (some ⟨g, 0, none⟩) 32 32) ∧ Bs w' (.slice (some ⟨g, 0, none⟩) 32 32) (BL32 a) ∧ Below w.heap.size w w' := by
 refine (bytesU ha w).mono ?_
 rintro e w' ⟨g, rfl, hg, hr, hb⟩
 refine ⟨g, rfl, ⟨some ⟨g, 0, none⟩, 32, by rw [BL32_len], (fun h => (by cases h)), fun p hp j u hj => ?_⟩, hb⟩
 cases hp
 rw [add_at]
 unfold bv BL32 at hj
 rw [List.map_map, List.getElem?_map] at hj
 rcases Nat.lt_or_ge j 32 with h | h
 ·rw [List.getElem?_range h] at hj
  cases hj
  rw [Nat.zero_add, hr.at_ j h]
  unfold bytesTo
  rw [if_pos h]
  rfl
 ·rw [List.getElem?_eq_none (by rw [List.length_range]; exact h)] at hj
  cases hj
theorem Bs_drop {w : World} {g j : Nat} {ys : List Int} (h : Bs w (.slice (some ⟨g, 0, none⟩) 32 32) ys) (_hj : j < 32) : Bs w (.slice (some ⟨g, j, none⟩) (32 - j) (32 - j)) (ys.drop j) := by
 obtain ⟨q, c, e, h0, h1⟩ := h
 obtain ⟨e1, e2⟩ : q = some ⟨g, 0, none⟩ ∧ ys.length = 32 := by injection e with e1 e2 e3; exact ⟨e1.symm, e2.symm⟩
 refine ⟨some ⟨g, j, none⟩, 32 - j, by rw [List.length_drop, e2], (fun h => (by cases h)), fun p hp i u hi => ?_⟩
 cases hp
 rw [add_off, ← Nat.zero_add (j + i), ← add_off]
 refine h1 _ e1 (j + i) u ?_
 rw [← hi]
 unfold bv
 rw [List.getElem?_map, List.getElem?_map, List.getElem?_drop]
theorem Bs_row1 {w : World} {b : Nat} {x : Int} (h : Row w b 5 #[.int .u8 x]) : Bs w (.slice (some ⟨b, 0, none⟩) 1 1) [x] := by
 refine ⟨_, _, rfl, (fun h => (by cases h)), fun a ha j u hj => ?_⟩
 cases ha
 match j, hj with
 | 0, hj =>
  cases hj
  rw [add_at]
  exact h.cell 0
set_option maxRecDepth 100000 in
set_option maxHeartbeats 8000000 in
theorem amt_any (u : Value) (xs : List Int) (a : Nat) (w : World) (h : Bs w u xs) (hL0 : xs.length ≤ 10000000) (ha : a < M) :
  Calls Try.prog 40 #[u, .agg (W4 a)] w fun e w' => ∃ v, e = .returned v ∧ Ob w' w.heap.size v (xs ++ amtL a) ∧ Below w.heap.size w w' := by
 have hL := Lib.hid (show xs.length ≤ 100000000 by omega)
 have hk32 := nby_le ha
 have hl256 : blen a ≤ 256 := blen_le ha
 have hYl := BL32_len a
 have hkd : nby a = (blen a + 7) / 8 := rfl
 have hfin0 : ∀ tl : List Int, tl = (BL32 a).drop (32 - nby a) → (xs ++ [((nby a : Nat) : Int)]) ++ tl = xs ++ amtL a := fun tl e => by
  subst e
  unfold amtL
  rw [List.append_assoc]; rfl
 have kb := fun wx => bitsU ha wx
 have k82 := Lib.hid fun wx => bs82 ha wx
 obtain ⟨k, hk⟩ : ∃ k, nby a = k := ⟨_, rfl⟩
 rw [hk] at hk32 hkd hfin0
 obtain ⟨l, hl0⟩ : ∃ l, blen a = l := ⟨_, rfl⟩
 rw [hl0] at kb hl256 hkd
 replace kb := Lib.hid kb
 have hfin1 := Lib.hid hfin0
 clear hfin0 hk hl0
 have w7 : IntKind.i64.wrap ((l : Int) + 7) = (l : Int) + 7 := by rw [IntKind.wrap_i64]; omega
 have t7 : ((l : Int) + 7).tdiv 8 = ((l : Int) + 7) / 8 := Int.tdiv_eq_ediv_of_nonneg (by omega)
 have t8 : IntKind.i64.wrap (((l : Int) + 7) / 8) = (k : Int) := by rw [IntKind.wrap_i64]; omega
 clear hkd
 have hb0 := h
 clear h hL0 ha
 go_enter Try.func40, Try.ntmps40
 apply wp_seq_eq
 focus
  intro J hJ
  go_wp2_with fail
  exact hJ
 refine wp_abs (Mem w [(w.heap.size, 31, W4 a)]) ⟨by go_grown, ?_, trivial⟩ ?_
 ·repeat (first | (refine Row.new_at ?_; simp; done) | refine Row.alloc ?_ _)
 intro w0 hM
 obtain ⟨hl, ra, -⟩ := hM
 go_upto_region 1 with (fail)
 have hb := hb0.below hl
 clear hb0
 let L : List Sp := [sV 1 [] [] (fun u => u = .int .i64 (l : Int))]
 refine wp_region_six0 (shs L) (look6 L) (None_) (by kernel_rfl) (by kernel_rfl) (mk_St L [] [] (by kernel_rfl) (by kernel_rfl) ⟨ok_V ⟨_, rfl⟩, trivial⟩ (by simp)) ?_
 intro QQ hQ
 refine stepK rfl (by kernel_rfl) (fun K hK => ?_); go_simp
 apply Exists.intro; apply And.intro; (focus exact kLoad rfl rfl aggT31 ra rfl id); refine hK _ _ ?_; clear hK K
 refine stepS _ rfl (by kernel_rfl) (fun K hK => ?_); go_simp
 refine ⟨?_, ?_⟩
 ·intro wk hk hg hu; go_simp; refine upon_enter ((kb.out _).mono ?_); rintro e w' ⟨rfl, hb⟩; exact ⟨_, rfl, left_V (p := fun u => u = .int .i64 (l : Int)) rfl (hb) rfl⟩
 rintro ⟨v1, lo1, hi1⟩ - - (rfl : v1 = _)
 refine hK _ _ ?_; clear hK K
 iterate 3 (refine stepK rfl (by kernel_rfl) (fun K hK => ?_); go_simp; apply Exists.intro; apply And.intro; (focus (intro wk hk; go_simp; exact ⟨rfl, rfl⟩)); refine hK _ _ ?_; clear hK K)
 refine stepN ?_
 refine hQ _ _ ?_
 intro w1 hT hG hF
 have hbw1 := hT.below
 replace ra := ra.below hbw1 ra.lt
 replace hl := hl.trans (hbw1.mono hl.size)
 replace hb := hb.below hbw1
 clear hT hG hF hbw1 hQ QQ L kb
 go_upto_region 2 with (fail)
 let L : List Sp := [sF 1 [] [] [] (fun x => S32 x) (fun x w => Bs w x.v (BL32 a))]
 refine wp_region_six0 (shs L) (look6 L) (None_) (by kernel_rfl) (by kernel_rfl) (mk_St L [] [] (by kernel_rfl) (by kernel_rfl) ⟨ok_F s32_some (fun _ _ _ h hb => Bs.below h hb), trivial⟩ (by simp)) ?_
 intro QQ hQ
 refine stepK rfl (by kernel_rfl) (fun K hK => ?_); go_simp
 apply Exists.intro; apply And.intro; (focus exact kLoad rfl rfl aggT31 ra rfl id); refine hK _ _ ?_; clear hK K
 refine stepS _ rfl (by kernel_rfl) (fun K hK => ?_); go_simp
 refine ⟨?_, ?_⟩
 ·intro wk hk hg hu; go_simp; refine upon_enter ((k82.out _).mono ?_); rintro e w' ⟨g, rfl, hv, hb9⟩; exact ⟨_, rfl, left_F rfl rfl hb9 ⟨_, rfl⟩ hv⟩
 rintro ⟨v1, lo1, hi1⟩ - - ⟨g1, (rfl : v1 = _)⟩
 refine hK _ _ ?_; clear hK K
 refine stepK rfl (by kernel_rfl) (fun K hK => ?_); go_simp
 apply Exists.intro; apply And.intro; (focus (intro wk hk; go_simp; exact ⟨rfl, rfl⟩)); refine hK _ _ ?_; clear hK K
 refine stepN ?_
 refine hQ _ _ ?_
 intro w2 hT hG hF
 have hb2 := hT.below
 have hY0 : Bs w2 (.slice (some ⟨g1, 0, none⟩) 32 32) (BL32 a) := hF 1 _ rfl rfl (by decide)
 replace hb := hb.below hb2
 replace hl := hl.trans (hb2.mono hl.size)
 clear hT hG hF hb2 hQ QQ L ra k82 w7 t7 t8
 obtain ⟨j, hj⟩ : ∃ j, 32 - k = j := ⟨_, rfl⟩
 have ej : (32 : Int) - (k : Int) = (j : Int) := by omega
 have wk8 : IntKind.u8.wrap (k : Int) = (k : Int) := by rw [IntKind.wrap_u8]; omega
 by_cases hj32 : j = 32
 ·have hfin2 := Lib.hid (hfin1.out [] (by rw [hj, hj32, List.drop_eq_nil_of_le (by omega)]))
  have hY := Lib.hid (show ([] : List Int).length ≤ 32 by decide)
  obtain rfl : k = 0 := by omega
  obtain ⟨z5, hz5e⟩ : ∃ z, xs ++ [((0 : Nat) : Int)] = z := ⟨_, rfl⟩
  have hz5l := Lib.hid (show z5.length ≤ 100000001 by rw [← hz5e]; have := hL.out; simp; omega)
  have hz5 := Lib.hid hz5e
  obtain ⟨z12, hz12e⟩ : ∃ z, z5 ++ ([] : List Int) = z := ⟨_, rfl⟩
  have hfin := Lib.hid (show z12 = xs ++ amtL a by rw [← hz12e, ← hz5e]; exact hfin2.out)
  have hz12 := Lib.hid hz12e
  clear hz5e hz12e hfin2
  subst hj32
  clear hj hYl hfin1
  go_upto_region 3 with (fail)
  let L : List Sp := [sQ 1 [] [] [] [5, 12] w2.heap.size xs (fun _ => True), sL 4 5 [] 1 #[.int .u8 ((0 : Nat) : Int)], sQ 5 [1] [1, 4] [1, 4] [12] w2.heap.size z5 (fun _ => True), sQ 12 [5, 1] [5, 1, 4] [5] [] w2.heap.size z12 (fun _ => True)]
  refine wp_region_six7 (shs L) (look6 L) (None_) (by kernel_rfl) (by kernel_rfl) (mk_St L [] [] (by kernel_rfl) (by kernel_rfl) ⟨ok_Q ⟨undef, trivial⟩ (by simp), ok_L, ok_Q ⟨undef, trivial⟩ (by simp), ok_Q ⟨undef, trivial⟩ (by simp), trivial⟩ (by simp)) ?_
  intro QQ hQ
  refine stepK rfl (by kernel_rfl) (fun K hK => ?_); go_simp
  apply Exists.intro; apply And.intro; (focus (intro wk hk; go_simp; exact ⟨rfl, rfl⟩)); refine hK _ _ ?_; clear hK K
  refine stepS _ rfl (by kernel_rfl) (fun K hK => ?_); go_simp
  refine ⟨?_, ?_⟩
  ·intro wk hk hg hu; have hb9 := hb.below hk.undrew.below; go_simp; refine upon_enter ((clone_any u xs wk hb9 hL.out).mono ?_); rintro e w' ⟨v, rfl, ho, hbb⟩; exact ⟨_, rfl, left_Qc rfl rfl ho hbb hk.undrew.size trivial⟩
  rintro ⟨v1, lo1, hi1⟩ - - -
  refine hK _ _ ?_; clear hK K
  iterate 2 (refine stepK rfl (by kernel_rfl) (fun K hK => ?_); go_simp; apply Exists.intro; apply And.intro; (focus (intro wk hk; go_simp; exact ⟨rfl, rfl⟩)); refine hK _ _ ?_; clear hK K)
  refine stepS _ rfl (by kernel_rfl) (fun K hK => ?_); go_simp
  refine ⟨?_, ?_⟩
  ·intro wk hk hg hu; go_simp; exact left_L rfl rfl
  rintro ⟨v4, lo4, hi4⟩ hlo4 hhi4 ⟨e4, f4⟩
  replace e4 : v4 = .slice (some ⟨lo4, 0, none⟩) 1 1 := e4; replace f4 : hi4 = lo4 + 1 := f4; replace hlo4 : _ ≤ lo4 := hlo4; subst e4; subst f4
  refine hK _ _ ?_; clear hK K
  refine stepS _ rfl (by kernel_rfl) (fun K hK => ?_); go_simp
  refine ⟨?_, ?_⟩
  ·intro wk hk hg hu; have u1 : OwnF 1 [] w2.heap.size xs _ wk := hu 1 (show 1 ∈ [1, 4] by decide); have u4 := hu 4 (show 4 ∈ [1, 4] by decide); have r4 : Row wk lo4 5 #[.int .u8 ((0 : Nat) : Int)] := And.right (a := lo4 + 1 = lo4 + 1) u4; have o1 : Ob wk w2.heap.size v1 xs := u1.1; obtain ⟨v', w', hrun, ho2, hgb, hw⟩ := append_run o1 (Bs_row1 r4) (by have := hL.out; simp; omega) hk.undrew.size; rw [run_append_op rfl rfl rfl hrun]; exact left_Qa rfl rfl (by decide) u1.2 hgb (by rw [← hz5.out]; exact ho2) hw trivial
  rintro ⟨v5, lo5, hi5⟩ - - -
  refine hK _ _ ?_; clear hK K
  iterate 6 (refine stepK rfl (by kernel_rfl) (fun K hK => ?_); go_simp; apply Exists.intro; apply And.intro; (focus (intro wk hk; go_simp; exact ⟨rfl, rfl⟩)); refine hK _ _ ?_; clear hK K)
  refine stepS _ rfl (by kernel_rfl) (fun K hK => ?_); go_simp
  refine ⟨?_, ?_⟩
  ·intro wk hk hg hu; have u5 : OwnF 5 [1] w2.heap.size z5 _ wk := hu 5 (show 5 ∈ [5] by decide); have o5 : Ob wk w2.heap.size v5 z5 := u5.1; have s9 : Bs wk (.slice (some ⟨g1, 0, none⟩) 0 0) (([] : List Int)) := ⟨_, _, rfl, (fun h => (by cases h)), fun p hp i u hi => by simp [bv] at hi⟩; obtain ⟨v', w', hrun, ho2, hgb, hw⟩ := append_run o5 s9 (by have := hz5l.out; have := hY.out; omega) hk.undrew.size; rw [run_append_op rfl rfl rfl hrun]; exact left_Qa rfl rfl (by decide) u5.2 hgb (by rw [← hz12.out]; exact ho2) hw trivial
  rintro ⟨v12, lo12, hi12⟩ - - -
  refine hK _ _ ?_; clear hK K
  refine stepK rfl (by kernel_rfl) (fun K hK => ?_); go_simp
  apply Exists.intro; apply And.intro; (focus (intro wk hk; go_simp; exact ⟨rfl, rfl⟩)); refine hK _ _ ?_; clear hK K
  refine stepN ?_
  refine hQ _ _ ?_
  intro w3 hT hG hF
  have hb3 := hT.undrew.below
  have o12 : OwnF 12 [5, 1] w2.heap.size z12 _ w3 := hF 12 _ rfl rfl (by decide)
  have H := Lib.hid (show _ ∧ _ from ⟨(show Ob w3 w2.heap.size v12 z12 from o12.1).base hl.size, hl.trans (hb3.mono hl.size)⟩)
  clear hT hG hF hb3 hQ QQ L o12 hl hb hY
  go_wp2_with fail
  go_ret
  exact ⟨_, rfl, by rw [← hfin.out]; exact H.out.1, H.out.2⟩
 ·have hfin2 := Lib.hid (hfin1.out ((BL32 a).drop j) (by rw [hj]))
  obtain ⟨z5, hz5e⟩ : ∃ z, xs ++ [(k : Int)] = z := ⟨_, rfl⟩
  have hz5l := Lib.hid (show z5.length ≤ 100000001 by rw [← hz5e]; have := hL.out; simp; omega)
  have hz5 := Lib.hid hz5e
  obtain ⟨z12, hz12e⟩ : ∃ z, z5 ++ ((BL32 a).drop j) = z := ⟨_, rfl⟩
  have hfin := Lib.hid (show z12 = xs ++ amtL a by rw [← hz12e, ← hz5e]; exact hfin2.out)
  have hz12 := Lib.hid hz12e
  clear hz5e hz12e hfin2
  have wj : IntKind.i64.wrap (j : Int) = (j : Int) := by rw [IntKind.wrap_i64]; omega
  have hY := Lib.hid (show ((BL32 a).drop j).length ≤ 32 by rw [List.length_drop]; omega)
  have hj33 : j < 32 := by omega
  have hj34 : ¬ 32 = j := by omega
  have hj35 : (j : Int) ≤ 32 := by omega
  clear hYl hfin1 hj
  go_upto_region 3 with (fail)
  let L : List Sp := [sQ 1 [] [] [] [5, 12] w2.heap.size xs (fun _ => True), sL 4 5 [] 1 #[.int .u8 (k : Int)], sQ 5 [1] [1, 4] [1, 4] [12] w2.heap.size z5 (fun _ => True), sQ 12 [5, 1] [5, 1, 4] [5] [] w2.heap.size z12 (fun _ => True)]
  refine wp_region_six7 (shs L) (look6 L) (None_) (by kernel_rfl) (by kernel_rfl) (mk_St L [] [] (by kernel_rfl) (by kernel_rfl) ⟨ok_Q ⟨undef, trivial⟩ (by simp), ok_L, ok_Q ⟨undef, trivial⟩ (by simp), ok_Q ⟨undef, trivial⟩ (by simp), trivial⟩ (by simp)) ?_
  intro QQ hQ
  refine stepK rfl (by kernel_rfl) (fun K hK => ?_); go_simp
  apply Exists.intro; apply And.intro; (focus (intro wk hk; go_simp; exact ⟨rfl, rfl⟩)); refine hK _ _ ?_; clear hK K
  refine stepS _ rfl (by kernel_rfl) (fun K hK => ?_); go_simp
  refine ⟨?_, ?_⟩
  ·intro wk hk hg hu; have hb9 := hb.below hk.undrew.below; go_simp; refine upon_enter ((clone_any u xs wk hb9 hL.out).mono ?_); rintro e w' ⟨v, rfl, ho, hbb⟩; exact ⟨_, rfl, left_Qc rfl rfl ho hbb hk.undrew.size trivial⟩
  rintro ⟨v1, lo1, hi1⟩ - - -
  refine hK _ _ ?_; clear hK K
  iterate 2 (refine stepK rfl (by kernel_rfl) (fun K hK => ?_); go_simp; apply Exists.intro; apply And.intro; (focus (intro wk hk; go_simp; exact ⟨rfl, rfl⟩)); refine hK _ _ ?_; clear hK K)
  refine stepS _ rfl (by kernel_rfl) (fun K hK => ?_); go_simp
  refine ⟨?_, ?_⟩
  ·intro wk hk hg hu; go_simp; exact left_L rfl rfl
  rintro ⟨v4, lo4, hi4⟩ hlo4 hhi4 ⟨e4, f4⟩
  replace e4 : v4 = .slice (some ⟨lo4, 0, none⟩) 1 1 := e4; replace f4 : hi4 = lo4 + 1 := f4; replace hlo4 : _ ≤ lo4 := hlo4; subst e4; subst f4
  refine hK _ _ ?_; clear hK K
  refine stepS _ rfl (by kernel_rfl) (fun K hK => ?_); go_simp
  refine ⟨?_, ?_⟩
  ·intro wk hk hg hu; have u1 : OwnF 1 [] w2.heap.size xs _ wk := hu 1 (show 1 ∈ [1, 4] by decide); have u4 := hu 4 (show 4 ∈ [1, 4] by decide); have r4 : Row wk lo4 5 #[.int .u8 (k : Int)] := And.right (a := lo4 + 1 = lo4 + 1) u4; have o1 : Ob wk w2.heap.size v1 xs := u1.1; obtain ⟨v', w', hrun, ho2, hgb, hw⟩ := append_run o1 (Bs_row1 r4) (by have := hL.out; simp; omega) hk.undrew.size; rw [run_append_op rfl rfl rfl hrun]; exact left_Qa rfl rfl (by decide) u1.2 hgb (by rw [← hz5.out]; exact ho2) hw trivial
  rintro ⟨v5, lo5, hi5⟩ - - -
  refine hK _ _ ?_; clear hK K
  iterate 6 (refine stepK rfl (by kernel_rfl) (fun K hK => ?_); go_simp; apply Exists.intro; apply And.intro; (focus (intro wk hk; go_simp; exact ⟨rfl, rfl⟩)); refine hK _ _ ?_; clear hK K)
  refine stepS _ rfl (by kernel_rfl) (fun K hK => ?_); go_simp
  refine ⟨?_, ?_⟩
  ·intro wk hk hg hu; have u5 : OwnF 5 [1] w2.heap.size z5 _ wk := hu 5 (show 5 ∈ [5] by decide); have o5 : Ob wk w2.heap.size v5 z5 := u5.1; have s9 : Bs wk (.slice (some ⟨g1, j, none⟩) (32 - j) (32 - j)) (((BL32 a).drop j)) := Bs_drop (hY0.below hk.undrew.below) hj33; obtain ⟨v', w', hrun, ho2, hgb, hw⟩ := append_run o5 s9 (by have := hz5l.out; have := hY.out; omega) hk.undrew.size; rw [run_append_op rfl rfl rfl hrun]; exact left_Qa rfl rfl (by decide) u5.2 hgb (by rw [← hz12.out]; exact ho2) hw trivial
  rintro ⟨v12, lo12, hi12⟩ - - -
  refine hK _ _ ?_; clear hK K
  refine stepK rfl (by kernel_rfl) (fun K hK => ?_); go_simp
  apply Exists.intro; apply And.intro; (focus (intro wk hk; go_simp; exact ⟨rfl, rfl⟩)); refine hK _ _ ?_; clear hK K
  refine stepN ?_
  refine hQ _ _ ?_
  intro w3 hT hG hF
  have hb3 := hT.undrew.below
  have o12 : OwnF 12 [5, 1] w2.heap.size z12 _ w3 := hF 12 _ rfl rfl (by decide)
  have H := Lib.hid (show _ ∧ _ from ⟨(show Ob w3 w2.heap.size v12 z12 from o12.1).base hl.size, hl.trans (hb3.mono hl.size)⟩)
  clear hT hG hF hb3 hQ QQ L o12 hl hb hY
  go_wp2_with fail
  go_ret
  exact ⟨_, rfl, by rw [← hfin.out]; exact H.out.1, H.out.2⟩
end Go.Proofs.Ytpdenhmkpiafiaa
namespace Go.Proofs.Ytpdenhmkpiafiaa
open Go Go.RowKit K6
theorem K6.Tr.trans_new {X Y : Nat → Prop} {w w1 w2 : World} (h : Tr X w w1) (k : Tr Y w1 w2) (hY : ∀ b, Y b → b < w.heap.size → X b) : Tr X w w2 :=
 ⟨k.os.trans h.os, k.tape.trans h.tape, k.output.trans h.output, Nat.le_trans h.size k.size, fun b hb hx => (k.block b (Nat.lt_of_lt_of_le hb h.size) fun hy => hx (hY b hy hb)).trans (h.block b hb hx)⟩
set_option maxRecDepth 100000 in
theorem copy_none {w : World} {d : Option Addr} {n c : Nat} {ty : TypeId} {u : Value} (hu : Bs w u []) : (Builtin.copy_ #[33, 33] ty #[.slice d n c, u]).run Try.prog w = .ok (goInt 0) w := by
 obtain ⟨q, c', rfl, -, -⟩ := hu
 exact run_copy_none w 33 33 ty 5 d q n c 0 c' rfl rfl (Nat.zero_min _)
set_option maxRecDepth 100000 in
theorem copy_run {w : World} {T t o n c : Nat} {ty : TypeId} {cur : Array Value} {u : Value} {ys : List Int} (hr : Row w T t cur) (hu : Bs w u ys) (hn : ys.length = n) (hfit : o + n ≤ cur.size) :
  ∃ w', (Builtin.copy_ #[33, 33] ty #[.slice (some ⟨T, o, none⟩) n c, u]).run Try.prog w = .ok (goInt n) w' ∧ Row w' T t (cur.toList.take o ++ bv ys ++ cur.toList.drop (o + n)).toArray ∧ Tr (fun b => b = T) w w' := by
 subst hn
 by_cases h0 : ys = []
 ·subst h0
  refine ⟨w, copy_none hu, ?_, Tr.refl _ _⟩
  have : (cur.toList.take o ++ bv [] ++ cur.toList.drop (o + ([] : List Int).length)).toArray = cur := by
   rw [show bv [] = [] from rfl, List.append_nil, List.length_nil, Nat.add_zero, List.take_append_drop]
  rw [this]; exact hr
 ·obtain ⟨q, c', rfl, hq, h1⟩ := hu
  cases q with
  | none => exact absurd (hq rfl).2 h0
  | some a =>
   have hrun := run_copy_row (P := Try.prog) w 33 33 ty 5 T o ys.length c a ys.length c' cur t (bv ys) rfl rfl hr (by rw [bv_len]; exact (Nat.min_self _).symm) (h1 a rfl) (by rw [bv_len]; exact hfit) (fun u hu => by obtain ⟨x, _, rfl⟩ := List.mem_map.1 hu; rfl)
   rw [bv_len] at hrun
   exact ⟨_, hrun, setRow_heap w T cur _ t _ hr, rfl, rfl, rfl, by simp [World.setRow], fun b _ hb => setRow_other w T b _ hb⟩
theorem run_copy_op {P : Program} {o : Oper} {a : Act} {x y : Operand} {t t' : TypeId} {v u v2 : Value} {w w2 : World} (ho : o.op = .call { callee := .builtin .copy, args := #[x, y], argTypes := #[t, t'] }) (hx : a.eval x = v) (hy : a.eval y = u)
  (hrun : (Builtin.copy_ #[t, t'] o.type #[v, u]).run P w = .ok v2 w2) : (execOp a.eval o).run P w = .ok (.value v2) w2 := by
 unfold execOp
 simp only [ho, resolve, invoke, builtin, Sem.run_bind, Sem.run_pure, Result.andThen_ok, List.map_toArray, List.map_cons, List.map_nil, hx, hy, hrun]
def zr32 : Array Value := arr .u8 (fun _ => 0) 32
theorem aggR35 : AggT Try.prog 35 32 := ⟨⟨_, Try.underlying35, rfl⟩, by kernel_rfl⟩
theorem zr32_take (o : Nat) (ho : o ≤ 32) : zr32.toList.take o = bv (List.replicate o 0) := by
 have h : zr32.toList = List.replicate 32 (.int .u8 0) := rfl
 rw [h, List.take_replicate, Nat.min_eq_left ho]
 unfold bv
 rw [List.map_replicate]
theorem zr32_copy {o n : Nat} {ys : List Int} (h : o + n = 32) : (zr32.toList.take o ++ bv ys ++ zr32.toList.drop (o + n)).toArray = (bv (List.replicate o 0 ++ ys)).toArray := by
 rw [zr32_take o (by omega), h, bv_app, List.drop_eq_nil_of_le (show zr32.toList.length ≤ 32 from Nat.le_refl _), List.append_nil]
namespace K6
def sW (i : Nat) (D use kill : List Nat) (G : Nat) (Lo : Nat → Prop) (p : Value → Prop) (f : Value → World → Prop) : Sp := (⟨i, D, use, kill, [], [], false, true, true⟩, ⟨fun _ x => p x.v, fun g w => f (g i).v w, (· = G), Lo⟩)
theorem ok_W {w1 : World} {Z : Nat → Prop} {i : Nat} {D use kill : List Nat} {G : Nat} {Lo : Nat → Prop} {p : Value → Prop} {f : Value → World → Prop} (hp : ∃ v, p v) (hl : ∀ v w w', f v w → Tr (fun b => ¬ Lo b) w w' → f v w') (hG : G < w1.heap.size) (hz : Z G) (hLo : ∀ b, Lo b → b < w1.heap.size) : OpOk w1 Z (sW i D use kill G Lo p f) where
 some_ := fun _ => by obtain ⟨v, hv⟩ := hp; exact ⟨⟨v, w1.heap.size, w1.heap.size⟩, Nat.le_refl _, Nat.le_refl _, hv⟩
 depV := fun _ _ _ _ h => h
 depF := fun g g' hg w h => by show f (g' i).v w; rw [hg i (.inl rfl)]; exact h
 loc := fun g w w' h hT => hl _ w w' h (hT.mono fun b _ hb hx => hb (.inr (.inl hx)))
 xo := fun c hc => by
  have hc' : c = G := hc
  subst hc'; exact ⟨rfl, hz, hG⟩
 lo := fun c hc => ⟨rfl, hLo c hc⟩
theorem left_W {l : List Sp} {i : Nat} {D use kill : List Nat} {G : Nat} {Lo : Nat → Prop} {p : Value → Prop} {f : Value → World → Prop} {s : Sh} (hl : look6 l s.i = (sW i D use kill G Lo p f).2) (hs : s = (sW i D use kill G Lo p f).1) {g : Ghost} {w w' : World} {v : Value}
  (hp : p v) (ht : Tr (fun b => b = G) w w') (hf : f v w') : Left (look6 l) s g w v w' := by
 unfold Left
 rw [hl]
 subst hs
 refine ⟨hp, ht.mono fun b _ hb => ?_, ?_⟩
 ·show XX (look6 l) _ g b
  unfold XX
  rw [hl]
  exact .inl hb
 ·show f (gput g i _ i).v w'
  rw [gput_self]
  exact hf
end K6
def beV (l : List Int) : Nat := l.foldl (fun a c => a * 256 + c.toNat) 0
theorem beV_snoc (l : List Int) (c : Int) : beV (l ++ [c]) = beV l * 256 + c.toNat := by unfold beV; rw [List.foldl_append]; rfl
theorem beV_zeros (k : Nat) (l : List Int) : beV (List.replicate k 0 ++ l) = beV l := by
 unfold beV
 rw [List.foldl_append]
 congr 1
 induction k with
 | zero => rfl
 | succ k ih => exact ih
theorem fromN_beV {L : List Int} (hL : L.length = 32) : ∀ i, i ≤ 32 → fromN (fun j => (L.getD j 0).toNat) i = beV (L.take i) * 256 ^ (32 - i)
 | 0, _ => by rw [List.take_zero]; show 0 = 0 * _; rw [Nat.zero_mul]
 | i + 1, h => by
  have hi : i < L.length := by omega
  rw [List.take_succ_eq_append_getElem hi, beV_snoc, Nat.add_mul]
  show fromN _ i + (L.getD i 0).toNat * 2 ^ (8 * (31 - i)) = _
  rw [fromN_beV hL i (by omega), List.getD_eq_getElem?_getD, List.getElem?_eq_getElem hi, Nat.pow_mul, show 32 - (i + 1) = 31 - i by omega, show 32 - i = (31 - i) + 1 by omega, Nat.pow_succ, Nat.mul_assoc, Nat.mul_comm 256]
  rfl
theorem beV_lt : ∀ (n : Nat) (l : List Int), l.length = n → (∀ x ∈ l, 0 ≤ x ∧ x < 256) → beV l < 256 ^ n
 | 0, l, hn, _ => by rw [List.eq_nil_of_length_eq_zero hn]; decide
 | n + 1, l, hn, h => by
  have hne : l ≠ [] := fun e => by subst e; cases hn
  have hsp := List.dropLast_concat_getLast hne
  have hd := beV_lt n l.dropLast (by rw [List.length_dropLast]; omega) (fun x hx => h x (List.dropLast_subset _ hx))
  have hg := h _ (List.getLast_mem hne)
  rw [← hsp, beV_snoc, Nat.pow_succ]
  omega
theorem beV_M {l : List Int} (hn : l.length ≤ 32) (h : ∀ x ∈ l, 0 ≤ x ∧ x < 256) : beV l < M := by
 have h1 := beV_lt l.length l rfl h
 have h2 : 256 ^ l.length ≤ 256 ^ 32 := Nat.pow_le_pow_right (by decide) hn
 have h3 : (256 : Nat) ^ 32 = M := by unfold M; decide
 omega
theorem from32 {L : List Int} (hL : L.length = 32) (hb : ∀ x ∈ L, 0 ≤ x ∧ x < 256) {w : World} {T t c : Nat} (hr : Row w T t (bv L).toArray) : Calls Try.prog 81 #[.slice (some ⟨T, 0, none⟩) 32 c] w (Ret w (.tuple #[.agg (W4 (beV L)), .bool true])) := by
 have hf : ∀ i, (L.getD i 0).toNat < 256 := fun i => by
  rcases Nat.lt_or_ge i L.length with h | h
  ·rw [List.getD_eq_getElem?_getD, List.getElem?_eq_getElem h]
   have := hb _ (List.getElem_mem h)
   show (L[i]).toNat < 256
   omega
  ·rw [List.getD_eq_getElem?_getD, List.getElem?_eq_none h]; decide
 refine (fromBytes_any (some ⟨T, 0, none⟩) 32 c (fun j => (L.getD j 0).toNat) w hf (fun _ => ⟨T, 0, rfl, hr.lt, fun i hi => ?_⟩)).mono fun _ _ h => ?_
 ·rw [Nat.zero_add, hr.cell]
  have hi2 : i < L.length := by omega
  have h1 := hb _ (List.getElem_mem hi2)
  show (bv L).toArray[i]? = _
  rw [List.getElem?_toArray]
  unfold bv
  rw [List.getElem?_map, List.getElem?_eq_getElem hi2, List.getD_eq_getElem?_getD, List.getElem?_eq_getElem hi2]
  show some (Value.int .u8 L[i]) = some (Value.int .u8 ((L[i].toNat : Nat) : Int))
  rw [Int.toNat_of_nonneg h1.1]
 ·have h2 := pair_ret h
  rw [if_pos rfl, decide_eq_true rfl, fromN_beV hL 32 (Nat.le_refl _), Nat.sub_self, Nat.pow_zero, Nat.mul_one, List.take_of_length_le (by omega)] at h2
  exact h2
end Go.Proofs.Ytpdenhmkpiafiaa
namespace Go.Proofs.Ytpdenhmkpiafiaa
open Go Go.RowKit K6
def By (xs : List Int) : Prop := ∀ x ∈ xs, 0 ≤ x ∧ x < 256
theorem By.nil : By [] := fun _ h => (by cases h)
theorem By.app {xs ys : List Int} (h : By xs) (k : By ys) : By (xs ++ ys) := fun x hx => (List.mem_append.1 hx).elim (h x) (k x)
theorem By.take {xs : List Int} (h : By xs) (n : Nat) : By (xs.take n) := fun x hx => h x (List.mem_of_mem_take hx)
theorem By.drop {xs : List Int} (h : By xs) (n : Nat) : By (xs.drop n) := fun x hx => h x (List.mem_of_mem_drop hx)
theorem By.tail {x : Int} {xs : List Int} (h : By (x :: xs)) : By xs := fun y hy => h y (List.mem_cons_of_mem _ hy)
theorem By.head {x : Int} {xs : List Int} (h : By (x :: xs)) : 0 ≤ x ∧ x < 256 := h x (List.mem_cons_self ..)
theorem By.cons {x : Int} {xs : List Int} (h0 : 0 ≤ x ∧ x < 256) (h : By xs) : By (x :: xs) := fun y hy => (List.mem_cons.1 hy).elim (fun e => e ▸ h0) (h y)
theorem lt63 {m : Nat} (h : m < 9223372036854775808) : m < 128 ^ (8 + 1) := h
theorem enc_len9 {m : Nat} (h : m < 9223372036854775808) : (enc m).length ≤ 9 := enc_len 8 m (lt63 h)
abbrev St := Int × List Int
def gV (most : Int) (s : St) : Nat × St := (svN most s.1 s.2, svE most s.1 s.2, svR most s.1 s.2)
def gA (s : St) : Nat × St :=
 if s.1 = 0 then
  match s.2 with
  | [] => (0, 3, [])
  | c :: cs => if 32 < c ∨ (0 < c ∧ cs.head? = some 0) then (0, 4, []) else if c.toNat ≤ cs.length then (beV (cs.take c.toNat), 0, cs.drop c.toNat) else (0, 3, [])
 else (0, s.1, [])
def gT (n : Nat) (s : St) : List Int × St := (tkO n s.1 s.2, tkE n s.1 s.2, tkR n s.1 s.2)
def gH (s : St) : List Int × St := (if (gT 32 s).2.1 = 0 then (gT 32 s).1 else List.replicate 32 0, (gT 32 s).2)
theorem gV_fault {most : Int} {e : Int} (he : e ≠ 0) : gV most (e, []) = (0, e, []) := by
 unfold gV svN svR svE
 simp only [if_neg he]
theorem gV_lt {most : Int} {s : St} : (gV most s).1 < 9223372036854775808 := by
 unfold gV svN
 simp only
 split
 ·refine gval_63 ?_
  rw [List.length_take]
  rcases grp_spec s.2 0 (by decide) with ⟨-, -, h9, -⟩ | ⟨-, h9⟩ <;> omega
 ·decide
theorem gV_most {most : Int} {s : St} (hm : 0 ≤ most) : ((gV most s).1 : Int) ≤ most := by
 unfold gV svN
 simp only
 split
 ·rename_i h
  unfold svE at h
  split at h
  ·split at h
   ·split at h
    ·cases h
    ·omega
   ·rename_i h1; exact absurd h h1
  ·rename_i h1; exact absurd h h1
 ·omega
theorem gA_lt {s : St} (hb : By s.2) : (gA s).1 < M := by
 unfold gA
 split
 ·split
  ·exact M_pos
  ·rename_i c cs e
   rw [e] at hb
   split
   ·exact M_pos
   ·rename_i h1
    split
    ·rename_i h2
     exact beV_M (by rw [List.length_take]; omega) (hb.tail.take _)
    ·exact M_pos
 ·exact M_pos
end Go.Proofs.Ytpdenhmkpiafiaa
namespace Go.Proofs.Ytpdenhmkpiafiaa
open Go Go.RowKit K6
def SRv (w : World) (q : Option Nat) (v : Value) (xs : List Int) : Prop :=
 (xs = [] ∧ ∃ a, v = .slice a 0 0) ∨
 ∃ b o c, q = some b ∧ v = .slice (some ⟨b, o, none⟩) xs.length c ∧ xs.length ≤ c ∧ 0 < c ∧ ∀ j x, xs[j]? = some x → w.cell? ⟨b, o + j, none⟩ = some (.int .u8 x)
def SR (w : World) (g : Nat) (q : Option Nat) (e : Int) (xs : List Int) : Prop :=
 (e ≠ 0 → xs = []) ∧ By xs ∧ xs.length ≤ 100000000 ∧ q ≠ some g ∧ ∃ v, Row w g 66 #[v, .int .i64 e] ∧ SRv w q v xs
theorem SRv.keep {X : Nat → Prop} {w w' : World} {q : Option Nat} {v : Value} {xs : List Int} (h : SRv w q v xs) (hT : Tr X w w') (hq : ∀ b, q = some b → ¬ X b) : SRv w' q v xs := by
 rcases h with h | ⟨b, o, c, h1, h2, h3, h4, h5⟩
 ·exact .inl h
 ·exact .inr ⟨b, o, c, h1, h2, h3, h4, fun j x hj => (World.cell?_of_block (hT.block b (cell_lt (h5 j x hj)) (hq b h1))).trans (h5 j x hj)⟩
theorem SRv.bs {w : World} {q : Option Nat} {v : Value} {xs : List Int} (h : SRv w q v xs) : Bs w v xs := by
 rcases h with ⟨rfl, a, rfl⟩ | ⟨b, o, c, -, rfl, -, -, h5⟩
 ·exact ⟨a, 0, rfl, fun _ => ⟨rfl, rfl⟩, fun _ _ j u hj => by simp [bv] at hj⟩
 ·refine ⟨_, c, rfl, (fun h => (by cases h)), fun a ha j u hj => ?_⟩
  cases ha
  rw [add_off]
  unfold bv at hj
  rw [List.getElem?_map] at hj
  rcases hx : xs[j]? with _ | x
  ·rw [hx] at hj; cases hj
  ·rw [hx] at hj; cases hj
   exact h5 j x hx
theorem SR.lt {w : World} {g : Nat} {q : Option Nat} {e : Int} {xs : List Int} (h : SR w g q e xs) : g < w.heap.size := by
 obtain ⟨-, -, -, -, v, hs, -⟩ := h
 exact Row.lt hs
theorem SR.keep {X : Nat → Prop} {w w' : World} {g : Nat} {q : Option Nat} {e : Int} {xs : List Int} (h : SR w g q e xs) (hT : Tr X w w') (hg : ¬ X g) (hq : ∀ b, q = some b → ¬ X b) : SR w' g q e xs := by
 obtain ⟨h1, h2, h3, h4, v, hs, hv⟩ := h
 exact ⟨h1, h2, h3, h4, v, Row.tr hs hT hg, hv.keep hT hq⟩
theorem SR.below {w w' : World} {g : Nat} {q : Option Nat} {e : Int} {xs : List Int} (h : SR w g q e xs) (hb : Below w.heap.size w w') : SR w' g q e xs := h.keep (X := None_) (Tr.of hb) id fun _ _ => id
def GotR (w : World) (g : Nat) (q : Option Nat) (v : Value) (s : St) (r : Ending) (w' : World) : Prop := r = .returned v ∧ SR w' g q s.1 s.2 ∧ Tr (fun b => b = g) w w'
set_option maxRecDepth 100000 in
set_option maxHeartbeats 2000000 in
theorem wrong_at {w : World} {g : Nat} {q : Option Nat} {e : Int} {xs : List Int} (c : Int) (h : SR w g q e xs) : Calls Try.prog 183 #[.pointer (some ⟨g, 0, none⟩), .int .i64 c] w fun r w' => (∃ u, r = .returned u) ∧ SR w' g q c [] ∧ Tr (fun b => b = g) w w' := by
 obtain ⟨-, -, -, h4, v, hs, -⟩ := h
 have d0 : w.cell? ⟨g, 0, none⟩ = some v := hs.cell 0
 have d1 : w.cell? ⟨g, 1, none⟩ = some (.int .i64 e) := hs.cell 1
 have f0 := hs.frozen 0
 have f1 := hs.frozen 1
 have H := Lib.hid (show _ ∧ _ from ⟨hs, h4⟩)
 clear hs h4
 go_enter Try.func183, Try.ntmps183
 go_wp2_with fail
 first | (refine bodyPost_ret (results_none rfl _ _ _) rfl ?_) | (refine bodyPost_end (results_none rfl _ _ _) rfl ?_)
 exact ⟨⟨_, rfl⟩, ⟨fun _ => rfl, By.nil, Nat.zero_le _, H.out.2, _, Row.congr ((Row.set H.out.1 0 (.slice none 0 0)).set 1 (.int .i64 c)) rfl, .inl ⟨rfl, none, rfl⟩⟩, (tr_cell (X := fun b => b = g) rfl).trans (tr_cell (X := fun b => b = g) rfl)⟩
theorem SR.drop {w : World} {g n : Nat} {q : Option Nat} {v v' : Value} {xs : List Int} (hs : Row w g 66 #[v, .int .i64 0]) (hb : By xs) (hL : xs.length ≤ 100000000) (hq : q ≠ some g) (hn : n ≤ xs.length)
  (hv : SRv (w.setCell ⟨g, 0, none⟩ v') q v' (xs.drop n)) : SR (w.setCell ⟨g, 0, none⟩ v') g q 0 (xs.drop n) :=
 ⟨fun h => absurd rfl h, hb.drop n, by rw [List.length_drop]; omega, hq, v', Row.congr (Row.set hs 0 v') rfl, hv⟩
theorem SRv.drop {w w' : World} {b o c n m g : Nat} {q : Option Nat} {v' : Value} {xs : List Int} (hq : q = some b) (hqg : q ≠ some g) (hT : Tr (fun b => b = g) w w') (hc : m ≤ c) (hm : xs.length = m) (hn : n ≤ m) (hcell : ∀ j x, xs[j]? = some x → w.cell? ⟨b, o + j, none⟩ = some (.int .u8 x))
  (hv : (n < c ∧ v' = .slice (some ⟨b, o + n, none⟩) (m - n) (c - n)) ∨ (n = c ∧ v' = .slice (some ⟨b, o, none⟩) 0 0)) : SRv w' q v' (xs.drop n) := by
 rcases hv with ⟨hlt, rfl⟩ | ⟨rfl, rfl⟩
 ·refine .inr ⟨b, o + n, c - n, hq, by rw [List.length_drop, hm], by rw [List.length_drop]; omega, by omega, fun j x hj => ?_⟩
  rw [List.getElem?_drop] at hj
  rw [Nat.add_assoc]
  have h5 := hcell _ _ hj
  exact (World.cell?_of_block (hT.block b (cell_lt h5) (fun e => hqg (by rw [hq, e])))).trans h5
 ·exact .inl ⟨List.drop_eq_nil_of_le (by omega), _, rfl⟩
def RTook (w : World) (g n : Nat) (q : Option Nat) (e : Int) (xs : List Int) (r : Ending) (w' : World) : Prop := ∃ v, r = .returned v ∧ Ob w' w.heap.size v (tkO n e xs) ∧ SR w' g q (tkE n e xs) (tkR n e xs) ∧ Tr (fun b => b = g) w w'
set_option maxRecDepth 100000 in
set_option maxHeartbeats 8000000 in
theorem rtake_at {w : World} {g : Nat} {q : Option Nat} {e : Int} {xs : List Int} (n : Nat) (h : SR w g q e xs) : Calls Try.prog 230 #[.pointer (some ⟨g, 0, none⟩), .int .i64 (n : Int)] w (RTook w g n q e xs) := by
 by_cases he : e = 0
 ·subst he
  have wr := wrong_at 3 h
  obtain ⟨-, hb, hL, hqg, v, hs, hv⟩ := id h
  have c1 : w.cell? ⟨g, 1, none⟩ = some (.int .i64 0) := hs.cell 1
  have c0 : w.cell? ⟨g, 0, none⟩ = some v := hs.cell 0
  have c0a : (w.alloc (.cells #[] 5)).cell? ⟨g, 0, none⟩ = some v := (Row.below hs ((Below.refl _ _).alloc (Nat.le_refl _) _ : Below w.heap.size w (w.alloc (.cells #[] 5))) (Row.lt hs)).cell 0
  by_cases hn : n ≤ xs.length
  ·have hE : tkE n 0 xs = 0 := by unfold tkE; rw [if_pos rfl, if_pos hn]
   have hO : tkO n 0 xs = xs.take n := by unfold tkO; rw [if_pos rfl, if_pos hn]
   have hR : tkR n 0 xs = xs.drop n := by unfold tkR; rw [if_pos rfl, if_pos hn]
   clear wr
   rcases hv with ⟨rfl, a, rfl⟩ | ⟨b, o, c, hqb, rfl, hc, hc0, hcell⟩
   ·obtain rfl : n = 0 := Nat.le_zero.1 hn
    have hB9 : Bs w (.slice a 0 0) [] := ⟨a, 0, rfl, fun _ => ⟨rfl, rfl⟩, fun _ _ j u hj => by simp [bv] at hj⟩
    obtain ⟨v2, w2, hrun, ho2, hl2⟩ := fresh_append hB9 (Nat.zero_le _)
    have hs2 := hs.below hl2 hs.lt
    have e0 : w2.cell? ⟨g, 0, none⟩ = some (.slice a 0 0) := hs2.cell 0
    have f0 := hs2.frozen 0
    have hT : ∀ u, Tr (fun b => b = g) w2 (w2.setCell ⟨g, 0, none⟩ u) := fun u => tr_cell (X := fun b => b = g) rfl
    have fin : RTook w g 0 q 0 [] (.returned v2) (w2.setCell ⟨g, 0, none⟩ (.slice a 0 0)) := ⟨v2, rfl, by
      rw [hO]
      refine ho2.keep (hT _) fun b hb2 e2 => ?_
      have := (ho2.lt b hb2).1
      have := hs.lt
      omega, by rw [hE, hR]; exact SR.drop (xs := []) (n := 0) hs2 hb hL hqg hn (.inl ⟨rfl, a, rfl⟩), (Tr.of hl2 : Tr (fun b => b = g) w w2).trans (hT _)⟩
    have H := Lib.hid fin
    clear fin hT ho2 hl2 hs2 hs hE hO hR hb hL hqg hn  h hB9
    cases a with
    | none =>
     go_enter Try.func230, Try.ntmps230
     go_wp2_with (at_builtin; refine wpList_app rfl rfl rfl rfl hrun ?_)
     go_ret
     exact H.out
    | some a =>
     go_enter Try.func230, Try.ntmps230
     go_wp2_with (at_builtin; refine wpList_app rfl rfl rfl rfl hrun ?_)
     go_ret
     exact H.out
   ·obtain ⟨m, hm⟩ : ∃ m, xs.length = m := ⟨_, rfl⟩
    have hB9 : Bs w (.slice (some ⟨b, o, none⟩) n c) (xs.take n) := by
     refine ⟨some ⟨b, o, none⟩, c, by rw [List.length_take, Nat.min_eq_left hn], (fun h => (by cases h)), fun a ha j u hj => ?_⟩
     cases ha
     rw [add_off]
     unfold bv at hj
     rw [List.getElem?_map, List.getElem?_take] at hj
     split at hj
     ·rcases hx9 : xs[j]? with _ | x
      ·rw [hx9] at hj; cases hj
      ·rw [hx9] at hj; cases hj
       exact hcell j x hx9
     ·cases hj
    obtain ⟨v2, w2, hrun, ho2, hl2⟩ := fresh_append hB9 (by rw [List.length_take]; omega)
    have hs2 := hs.below hl2 hs.lt
    have e0 : w2.cell? ⟨g, 0, none⟩ = some (.slice (some ⟨b, o, none⟩) xs.length c) := hs2.cell 0
    have f0 := hs2.frozen 0
    have hT : ∀ u, Tr (fun b => b = g) w2 (w2.setCell ⟨g, 0, none⟩ u) := fun u => tr_cell (X := fun b => b = g) rfl
    have hcell2 : ∀ j x, xs[j]? = some x → w2.cell? ⟨b, o + j, none⟩ = some (.int .u8 x) := fun j x hj => (World.cell?_of_block (hl2.block b (cell_lt (hcell j x hj)))).trans (hcell j x hj)
    rw [hm] at c0 c0a e0 hn hc
    have fin : ∀ v', ((n < c ∧ v' = .slice (some ⟨b, o + n, none⟩) (m - n) (c - n)) ∨ (n = c ∧ v' = .slice (some ⟨b, o, none⟩) 0 0)) → RTook w g n q 0 xs (.returned v2) (w2.setCell ⟨g, 0, none⟩ v') := fun v' hv' => ⟨v2, rfl, by
      rw [hO]
      refine ho2.keep (hT _) fun b hb2 e2 => ?_
      have := (ho2.lt b hb2).1
      have := hs.lt
      omega, by rw [hE, hR]; exact SR.drop hs2 hb hL hqg (by omega) (SRv.drop hqb hqg (hT v') hc hm hn hcell2 hv'), (Tr.of hl2 : Tr (fun b => b = g) w w2).trans (hT _)⟩
    have hm1 : (n : Int) ≤ (m : Int) := by omega
    have hm2 : (n : Int) ≤ (c : Int) := by omega
    have hm3 : (m : Int) ≤ (c : Int) := by omega
    by_cases hcn : c = n
    ·subst hcn
     obtain rfl : m = c := by omega
     have H := Lib.hid (fin _ (.inr ⟨rfl, rfl⟩))
     clear fin hT ho2 hl2 hs2 hs hE hO hR hb hL hqg hcell hcell2 h hB9 hqb hm hc hc0 hn hm2 hm3
     go_enter Try.func230, Try.ntmps230
     go_wp2_with (at_builtin; refine wpList_app rfl rfl rfl rfl hrun ?_)
     all_goals (go_ret; exact H.out)
    ·have H := Lib.hid (fin _ (.inl ⟨by omega, rfl⟩))
     clear fin hT ho2 hl2 hs2 hs hE hO hR hb hL hqg hcell hcell2 h hB9 hqb hm hc0
     go_enter Try.func230, Try.ntmps230
     go_wp2_with (at_builtin; refine wpList_app rfl rfl rfl rfl hrun ?_)
     all_goals (go_ret; exact H.out)
  ·have hE : tkE n 0 xs = 3 := by unfold tkE; rw [if_pos rfl, if_neg hn]
   have hO : tkO n 0 xs = [] := by unfold tkO; rw [if_pos rfl, if_neg hn]
   have hR : tkR n 0 xs = [] := by unfold tkR; rw [if_pos rfl, if_neg hn]
   obtain ⟨a, c, rfl⟩ : ∃ a c, v = .slice a xs.length c := by
    rcases hv with ⟨rfl, a, rfl⟩ | ⟨b, o, c, -, rfl, -⟩
    ·exact ⟨_, _, rfl⟩
    ·exact ⟨_, _, rfl⟩
   have W := Lib.hid wr
   have HH := Lib.hid (show _ ∧ _ ∧ _ from ⟨hE, hO, hR⟩)
   have hm1 : (xs.length : Int) < (n : Int) := by omega
   clear wr hE hO hR hv hs hb hL hqg h hn
   go_enter Try.func230, Try.ntmps230
   go_wp2_with fail
   refine W.out.mono ?_
   rintro r w2 ⟨⟨u, rfl⟩, hs, ht⟩
   have H := Lib.hid (show _ ∧ _ from ⟨hs, ht⟩)
   clear W hs ht
   go_wp2_with fail
   go_ret
   obtain ⟨hE, hO, hR⟩ := HH.out
   exact ⟨_, rfl, by rw [hO]; exact Ob.nil _ _, by rw [hE, hR]; exact H.out.1, H.out.2⟩
 ·have H := Lib.hid (show RTook w g n q e xs (.returned (.slice none 0 0)) w from ⟨_, rfl, by unfold tkO; rw [if_neg he]; exact Ob.nil _ _, by unfold tkE tkR; rw [if_neg he, if_neg he]; rw [h.1 he] at h; exact h, Tr.refl _ _⟩)
  obtain ⟨-, -, -, -, v, hs, -⟩ := h
  have c1 : w.cell? ⟨g, 1, none⟩ = some (.int .i64 e) := hs.cell 1
  have hq : (e != 0) = true := by simpa using he
  clear hs he
  go_enter Try.func230, Try.ntmps230
  go_wp2_with fail
  go_ret
  exact H.out
theorem tkO1_len (e : Int) (xs : List Int) : (tkO 1 e xs).length ≤ 1 := by
 unfold tkO
 split
 ·split
  ·rw [List.length_take]; omega
  ·exact Nat.zero_le _
 ·exact Nat.zero_le _
set_option maxRecDepth 100000 in
set_option maxHeartbeats 2000000 in
theorem rbyte_at {w : World} {g : Nat} {q : Option Nat} {e : Int} {xs : List Int} (h : SR w g q e xs) : Calls Try.prog 182 #[.pointer (some ⟨g, 0, none⟩)] w (GotR w g q (.int .u8 (byO e xs)) (tkE 1 e xs, tkR 1 e xs)) := by
 have tk := Lib.hid (rtake_at 1 h)
 have hlen := tkO1_len e xs
 unfold byO
 obtain ⟨z, hz⟩ : ∃ z, tkO 1 e xs = z := ⟨_, rfl⟩
 rw [hz] at hlen ⊢
 clear h
 go_enter Try.func182, Try.ntmps182
 go_wp2_with fail
 refine tk.out.mono ?_
 rintro r w' ⟨u, rfl, hu, hs, ht⟩
 rw [hz] at hu
 have hu2 := hu.bs
 have H := Lib.hid (show _ ∧ _ from ⟨hs, ht⟩)
 clear tk hs ht hz hu
 obtain ⟨a, c, rfl, hq, hc⟩ := hu2
 rcases z with _ | ⟨y, ys⟩
 ·clear hq hc
  go_wp2_with fail
  go_ret
  exact ⟨rfl, H.out.1, H.out.2⟩
 ·obtain rfl : ys = [] := List.eq_nil_of_length_eq_zero (by simpa using hlen)
  cases a with
  | none => cases (hq rfl).2
  | some a =>
   have k0 := hc a rfl 0 _ rfl
   rw [show a.add 0 = a from by unfold Addr.add; rfl] at k0
   clear hq hc hlen
   go_wp2_with fail
   go_ret
   exact ⟨rfl, H.out.1, H.out.2⟩
set_option maxRecDepth 100000 in
set_option maxHeartbeats 2000000 in
theorem rend_at {w : World} {g : Nat} {q : Option Nat} {e : Int} {xs : List Int} (h : SR w g q e xs) : Calls Try.prog 67 #[.pointer (some ⟨g, 0, none⟩)] w (GotR w g q (.int .i64 (edE e xs)) (edE e xs, [])) := by
 by_cases he : e = 0
 ·subst he
  have wr := wrong_at 4 h
  have h' := Lib.hid h
  obtain ⟨-, -, -, -, v, hs, hv⟩ := h
  have c1 : w.cell? ⟨g, 1, none⟩ = some (.int .i64 0) := hs.cell 1
  have c0 : w.cell? ⟨g, 0, none⟩ = some v := hs.cell 0
  obtain ⟨a, c, rfl⟩ : ∃ a c, v = .slice a xs.length c := by
   rcases hv with ⟨rfl, a, rfl⟩ | ⟨b, o, c, -, rfl, -⟩
   ·exact ⟨_, _, rfl⟩
   ·exact ⟨_, _, rfl⟩
  have W := Lib.hid wr
  clear wr hs hv
  by_cases h0 : 0 < xs.length
  ·have hE : edE 0 xs = 4 := by unfold edE; rw [if_pos h0]
   rw [hE]
   have hm : (0 : Int) < (xs.length : Int) := by omega
   clear hE h0 h'
   go_enter Try.func67, Try.ntmps67
   go_wp2_with fail
   refine W.out.mono ?_
   rintro r w2 ⟨⟨u, rfl⟩, hs, ht⟩
   have c9 : w2.cell? ⟨g, 1, none⟩ = some (.int .i64 4) := by
    obtain ⟨-, -, -, -, v, hs, -⟩ := hs
    exact hs.cell 1
   have H := Lib.hid (show _ ∧ _ from ⟨hs, ht⟩)
   clear W hs ht c0 c1
   go_wp2_with fail
   go_ret
   exact ⟨rfl, H.out.1, H.out.2⟩
  ·have h1 : xs = [] := List.eq_nil_of_length_eq_zero (by omega)
   subst h1
   have hE : edE 0 [] = 0 := by unfold edE; rfl
   rw [hE]
   clear hE h0 W
   go_enter Try.func67, Try.ntmps67
   go_wp2_with fail
   go_ret
   exact ⟨rfl, h'.out, Tr.refl _ _⟩
 ·obtain rfl := h.1 he
  have hE : edE e [] = e := by unfold edE; rw [if_neg (by simp)]
  rw [hE]
  have H := Lib.hid h
  obtain ⟨-, -, -, -, v, hs, -⟩ := h
  have c1 : w.cell? ⟨g, 1, none⟩ = some (.int .i64 e) := hs.cell 1
  have hq : (e == 0) = false := by rw [beq_eq_false_iff_ne]; exact he
  clear hs he hE
  go_enter Try.func67, Try.ntmps67
  go_wp2_with fail
  go_ret
  exact ⟨rfl, H.out, Tr.refl _ _⟩
set_option maxRecDepth 100000 in
set_option maxHeartbeats 16000000 in
theorem rvar_at {w : World} {g : Nat} {q : Option Nat} {e : Int} {xs : List Int} (most : Int) (h : SR w g q e xs) : Calls Try.prog 178 #[.pointer (some ⟨g, 0, none⟩), .int .i64 most] w (GotR w g q (.int .i64 (((gV most (e, xs)).1 : Nat) : Int)) (gV most (e, xs)).2) := by
 by_cases he : e = 0
 ·subst he
  have wr := Lib.hid (fun c => wrong_at c h)
  have hsp := grp_spec xs 0 (by omega)
  obtain ⟨ke, kn, hk⟩ : ∃ ke kn, grp 0 xs = (ke, kn) := ⟨_, _, rfl⟩
  rw [hk] at hsp
  have HB := Lib.hid (show ∀ c w' , ke = c → c ≠ 0 → SR w' g q c [] → Tr (fun b => b = g) w w' → GotR w g q (.int .i64 (((gV most (0, xs)).1 : Nat) : Int)) (gV most (0, xs)).2 (.returned (.int .i64 0)) w' from fun c w' hc h0 h1 h2 => by
   subst hc
   have hE : svE most 0 xs = ke := by unfold svE; rw [if_pos rfl, hk, if_neg h0]
   unfold gV svN svR
   simp only
   rw [hE, if_neg h0, if_neg h0]
   exact ⟨rfl, h1, h2⟩)
  have HR := Lib.hid (show ∀ G w', ke = 0 → gval (xs.take kn) = G → most < (G : Int) → SR w' g q 5 [] → Tr (fun b => b = g) w w' → GotR w g q (.int .i64 (((gV most (0, xs)).1 : Nat) : Int)) (gV most (0, xs)).2 (.returned (.int .i64 0)) w' from fun G w' hc hG hm h1 h2 => by
   subst hc
   have hE : svE most 0 xs = 5 := by unfold svE; rw [if_pos rfl, hk]; simp only; rw [if_pos trivial, hG, if_pos hm]
   unfold gV svN svR
   simp only
   rw [hE, if_neg (by decide), if_neg (by decide)]
   exact ⟨rfl, h1, h2⟩)
  have HG := Lib.hid (show ∀ G w', ke = 0 → gval (xs.take kn) = G → ¬ most < (G : Int) → SR w' g q 0 (xs.drop kn) → Tr (fun b => b = g) w w' → GotR w g q (.int .i64 (((gV most (0, xs)).1 : Nat) : Int)) (gV most (0, xs)).2 (.returned (.int .i64 (G : Int))) w' from fun G w' hc hG hm h1 h2 => by
   subst hc
   have hE : svE most 0 xs = 0 := by unfold svE; rw [if_pos rfl, hk]; simp only; rw [if_pos trivial, hG, if_neg hm]
   unfold gV svN svR
   simp only
   rw [hE, if_pos rfl, if_pos rfl, hk]
   simp only
   rw [hG]
   exact ⟨rfl, h1, h2⟩)
  have hk0 := Lib.hid (show grp 0 (xs.drop 0) = (ke, kn) from hk)
  have H0 := Lib.hid h
  obtain ⟨-, hb, hL, hqg, v, hs, hv⟩ := h
  have c1 : w.cell? ⟨g, 1, none⟩ = some (.int .i64 0) := hs.cell 1
  have c0 : w.cell? ⟨g, 0, none⟩ = some v := hs.cell 0
  have f0 := hs.frozen 0
  rcases hv with ⟨rfl, a, rfl⟩ | ⟨b, o, c, hqb, rfl, hc, hc0, hcell⟩
  ·have e3 : ke = 3 := by
    have : grp 0 [] = (3, 0) := rfl
    rw [hk] at this
    injection this
   have hB := Lib.hid (HB.out 3 · e3 (by decide))
   clear HB HR HG hk hk0 hsp hb hL hqg  hs H0
   go_enter Try.func178, Try.ntmps178
   go_wp2_with fail
   go_loopg [5, 6, 7, 8] 0 (fun gg s5 s6 s7 s8 wr => s6 = .int .i64 0 ∧ wr = w)
   case atStart => exact ⟨rfl, rfl⟩
   case round =>
    obtain ⟨rfl, rfl⟩ := hrel
    go_wp2_with fail
    refine (wr.out 3).mono ?_
    rintro r w' ⟨⟨u, rfl⟩, hs, ht⟩
    have H := Lib.hid (hB.out w' hs ht)
    clear hs ht wr hB
    go_wp2_with fail
    go_ret
    exact H.out
  ·obtain ⟨m, hm⟩ : ∃ m, xs.length = m := ⟨_, rfl⟩
   have hT : ∀ u, Tr (fun b => b = g) w (w.setCell ⟨g, 0, none⟩ u) := fun u => tr_cell (X := fun b => b = g) rfl
   have fin := Lib.hid (show ∀ n v', n ≤ m → ((n < c ∧ v' = .slice (some ⟨b, o + n, none⟩) (m - n) (c - n)) ∨ (n = c ∧ v' = .slice (some ⟨b, o, none⟩) 0 0)) → SR (w.setCell ⟨g, 0, none⟩ v') g q 0 (xs.drop n) ∧ Tr (fun b => b = g) w (w.setCell ⟨g, 0, none⟩ v') from fun n v' hn hv' => ⟨SR.drop hs hb hL hqg (by omega) (SRv.drop hqb hqg (hT v') (by omega) hm hn hcell hv'), hT v'⟩)
   have hf : Hid (∀ i : Nat, i < m → ∃ y : Int, xs.drop i = y :: xs.drop (i + 1) ∧ 0 ≤ y ∧ y < 256 ∧ w.cell? ⟨b, o + i, none⟩ = some (.int .u8 y) ∧ gval (xs.take (i + 1)) = gval (xs.take i) + (y % 128).toNat * 128 ^ i ∧ gval (xs.take i) < 128 ^ i) := Lib.hid fun i hi => by
    have hi2 : i < xs.length := by omega
    have h1 : xs[i]? = some xs[i] := List.getElem?_eq_getElem hi2
    refine ⟨xs[i], List.drop_eq_getElem_cons hi2, (hb _ (List.getElem_mem _)).1, (hb _ (List.getElem_mem _)).2, hcell i _ h1, ?_, ?_⟩
    ·rw [List.take_succ_eq_append_getElem hi2, gval_snoc, List.length_take, Nat.min_eq_left (by omega)]
    ·have := gval_lt (xs.take i)
     rwa [List.length_take, Nat.min_eq_left (by omega)] at this
   have hd : Hid (xs.drop m = []) := Lib.hid (List.drop_eq_nil_of_le (by omega))
   have hg0 : gval (xs.take 0) = 0 := rfl
   rw [hm] at c0 hc hL
   clear hT hk hsp hb hqg hqb hs hcell hm H0 hc0
   go_enter Try.func178, Try.ntmps178
   go_wp2_with fail
   go_loopg [5, 6, 7, 8] m (fun gg s5 s6 s7 s8 wr => ∃ i n : Nat, i + gg = m ∧ i ≤ 9 ∧ s5 = .int .i64 (n : Int) ∧ s6 = .int .i64 (i : Int) ∧ wr = w ∧ Hid (gval (xs.take i) = n) ∧ Hid (grp i (xs.drop i) = (ke, kn)))
   case atStart => exact ⟨0, 0, by omega, by omega, rfl, rfl, rfl, Lib.hid rfl, hk0⟩
   case round =>
    obtain ⟨gk0, rfl⟩ : ∃ m : Nat, m = gk := ⟨_, rfl⟩
    obtain ⟨i, n, hik, hi9, rfl, rfl, hw, hn, hk⟩ := hrel
    replace hw := hw.symm
    subst hw
    by_cases him : i < m
    ·obtain ⟨y, hdr, hy0, hy1, cy, hg1, hg2⟩ := hf.out i him
     have hk2 := hk.out
     rw [hdr] at hk2
     unfold grp at hk2
     have hlt : (i : Int) < (m : Int) := by omega
     by_cases h9 : i = 9
     ·rw [if_pos h9] at hk2
      injection hk2 with e1 e2
      have hB := Lib.hid (HB.out 4 · e1.symm (by decide))
      subst h9
      clear e1 e2
      clear hdr hk hk0 hg1 hg2 HB HR HG fin hf hd hn
      go_wp2_with fail
      refine (wr.out 4).mono ?_
      rintro r w' ⟨⟨u, rfl⟩, hs, ht⟩
      have H := Lib.hid (hB.out w' hs ht)
      clear hs ht wr hB
      go_wp2_with fail
      go_ret
      exact H.out
     ·rw [if_neg h9] at hk2
      have h9' : ¬ (i : Int) = 9 := by omega
      have h9q : ((i : Int) == 9) = false := by rw [beq_eq_false_iff_ne]; omega
      have wi : IntKind.i64.wrap ((i : Int) + 1) = (i : Int) + 1 := by rw [IntKind.wrap_i64]; omega
      obtain ⟨z, hz⟩ : ∃ z, (y % 128).toNat = z := ⟨_, rfl⟩
      have hz2 : y % 128 = (z : Int) := by omega
      have hzt : y.tmod 128 = (z : Int) := by rw [Int.tmod_eq_emod_of_nonneg hy0]; exact hz2
      have wz : IntKind.i64.wrap (z : Int) = (z : Int) := by rw [IntKind.wrap_i64]; omega
      have hz128 : z < 128 := by omega
      rw [hz, hn.out] at hg1
      rw [hn.out] at hg2
      have hpw := Lib.hid (show ∀ j, j ≤ i → z * 128 ^ j < 9223372036854775808 from fun j hj => by
       have h1 : 128 ^ j ≤ 128 ^ 8 := Nat.pow_le_pow_right (by decide) (by omega)
       have h2 : z * 128 ^ j ≤ 127 * 128 ^ 8 := Nat.mul_le_mul (by omega) h1
       omega)
      have hsum : n + z * 128 ^ i < 9223372036854775808 := by
       have h1 : 128 ^ i ≤ 128 ^ 8 := Nat.pow_le_pow_right (by decide) (by omega)
       have h2 : z * 128 ^ i ≤ 127 * 128 ^ 8 := Nat.mul_le_mul (by omega) h1
       have h3 : (128 : Nat) ^ 8 = 72057594037927936 := by decide
       omega
      obtain ⟨S, hS⟩ : ∃ S, z * 128 ^ i = S := ⟨_, rfl⟩
      rw [hS] at hg1 hsum
      have wn : IntKind.i64.wrap ((n : Int) + (S : Int)) = ((n + S : Nat) : Int) := by rw [IntKind.wrap_i64]; omega
      have HN := Lib.hid hg1
      have HD := Lib.hid hdr
      have HS := Lib.hid hS
      clear hg1 hg2 hdr hsum hS hz hz2 hk
      go_wp2_with fail
      go_loopg [7, 8] i (fun gg s7 s8 wr => ∃ j d : Nat, j + gg = i ∧ s7 = .int .i64 (d : Int) ∧ s8 = .int .i64 (j : Int) ∧ wr = w ∧ Hid (z * 128 ^ j = d))
      case atStart => exact ⟨0, z, by omega, rfl, rfl, rfl, Lib.hid (by simp)⟩
      case round =>
       obtain ⟨j, d, hji, rfl, rfl, hw, hd2⟩ := hrel
       replace hw := hw.symm
       subst hw
       by_cases hlt2 : j < i
       ·have hlt3 : (j : Int) < (i : Int) := by omega
        have hb2 := hpw.out (j + 1) (by omega)
        rw [Nat.pow_succ, ← Nat.mul_assoc, hd2.out] at hb2
        have wd : IntKind.i64.wrap ((d : Int) * 128) = ((d * 128 : Nat) : Int) := by rw [IntKind.wrap_i64]; omega
        have wj : IntKind.i64.wrap ((j : Int) + 1) = (j : Int) + 1 := by rw [IntKind.wrap_i64]; omega
        have hn2 := Lib.hid (show z * 128 ^ (j + 1) = d * 128 by rw [Nat.pow_succ, ← Nat.mul_assoc, hd2.out])
        clear hb2
        go_wp2_with fail
        go_roundg (gk - 1)
        case measure => omega
        case rel => exact ⟨j + 1, d * 128, by omega, by go_num, by go_num, rfl, hn2⟩
       ·obtain rfl : j = i := by omega
        obtain rfl : d = S := hd2.out.symm.trans HS.out
        clear hpw hd2
        by_cases hc1 : 128 ≤ y
        ·rw [if_pos hc1] at hk2
         have hn2 := Lib.hid hk2
         have hn3 := Lib.hid HN.out
         clear hk2
         go_wp2_with fail
         go_roundg (gk0 - 1)
         case measure => omega
         case rel => exact ⟨j + 1, n + d, by omega, by omega, by go_num, by go_num, rfl, hn3, hn2⟩
        ·rw [if_neg hc1] at hk2
         have hc2 : y < 128 := by omega
         by_cases h0 : y = 0 ∧ 0 < j
         ·rw [if_pos h0] at hk2
          injection hk2 with e1 e2
          have hB := Lib.hid (HB.out 4 · e1.symm (by decide))
          clear e1 e2
          obtain ⟨rfl, h0⟩ := h0
          have hp : (0 : Int) < (j : Int) := by omega
          clear HB HR HG fin hf hd
          go_wp2_with fail
          refine (wr.out 4).mono ?_
          rintro r w' ⟨⟨u, rfl⟩, hs, ht⟩
          have H := Lib.hid (hB.out w' hs ht)
          clear hs ht wr hB
          go_wp2_with fail
          go_ret
          exact H.out
         ·rw [if_neg h0] at hk2
          injection hk2 with e1 e2
          subst e1
          subst e2
          have hcond : (j : Int) ≤ 0 ∨ (0 : Int) < (j : Int) ∧ (y == 0) = false := by
           rcases Nat.eq_zero_or_pos j with h | h
           ·exact .inl (by omega)
           ·refine .inr ⟨by omega, ?_⟩
            rw [beq_eq_false_iff_ne]
            exact fun e => h0 ⟨e, h⟩
          clear h0
          by_cases hm5 : most < ((n + d : Nat) : Int)
          ·have hR := Lib.hid (HR.out (n + d) · rfl HN.out (by first | exact hm5 | omega))
           have hm6 : most < (n : Int) + (d : Int) := by omega
           clear HB HR HG fin hf hd
           rcases hcond with hcond | ⟨hcond, hcq⟩
           all_goals
            go_wp2_with fail
            refine (wr.out 5).mono ?_
            rintro r w' ⟨⟨u, rfl⟩, hs, ht⟩
            have H := Lib.hid (hR.out w' hs ht)
            clear hs ht wr hR
            go_wp2_with fail
            go_ret
            exact H.out
          ·have hm6 : (n : Int) + (d : Int) ≤ most := by omega
           have hm7 : (j : Int) + 1 ≤ (m : Int) := by omega
           have hm8 : (j : Int) + 1 ≤ (c : Int) := by omega
           have hm9 : (m : Int) ≤ (c : Int) := by omega
           have ht1 : ((j : Int) + 1).toNat = j + 1 := by omega
           by_cases hcn : c = j + 1
           ·subst hcn
            obtain rfl : m = j + 1 := by omega
            obtain ⟨f1, f2⟩ := fin.out (j + 1) _ (by omega) (.inr ⟨rfl, rfl⟩)
            have H := Lib.hid (HG.out (n + d) _ rfl HN.out (by first | exact hm5 | omega) f1 f2)
            clear HB HR HG fin hf hd hm5 f1 f2 wr
            rcases hcond with hcond | ⟨hcond, hcq⟩
            all_goals
             go_wp2_with fail
             all_goals (go_ret; exact H.out)
           ·obtain ⟨f1, f2⟩ := fin.out (j + 1) _ (by omega) (.inl ⟨by omega, rfl⟩)
            have H := Lib.hid (HG.out (n + d) _ rfl HN.out (by first | exact hm5 | omega) f1 f2)
            clear HB HR HG fin hf hd hm5 f1 f2 wr
            rcases hcond with hcond | ⟨hcond, hcq⟩
            all_goals
             go_wp2_with fail
             all_goals (go_ret; exact H.out)
    ·obtain rfl : i = m := by omega
     have hk2 := hk.out
     rw [hd.out] at hk2
     have e : grp i [] = (3, 0) := rfl
     rw [e] at hk2
     injection hk2 with e1 e2
     have hB := Lib.hid (HB.out 3 · e1.symm (by decide))
     clear e1 e2
     clear hk hk0 e hi9 HB HR HG fin hf hd hn
     go_wp2_with fail
     refine (wr.out 3).mono ?_
     rintro r w' ⟨⟨u, rfl⟩, hs, ht⟩
     have H := Lib.hid (hB.out w' hs ht)
     clear hs ht wr hB
     go_wp2_with fail
     go_ret
     exact H.out
 ·obtain rfl := h.1 he
  rw [gV_fault he]
  have H := Lib.hid h
  obtain ⟨-, -, -, -, v, hs, -⟩ := h
  have c1 : w.cell? ⟨g, 1, none⟩ = some (.int .i64 e) := hs.cell 1
  have hq : (e != 0) = true := by simpa using he
  clear hs he
  go_enter Try.func178, Try.ntmps178
  go_wp2_with fail
  go_ret
  exact ⟨rfl, H.out, Tr.refl _ _⟩
end Go.Proofs.Ytpdenhmkpiafiaa
namespace Go.Proofs.Ytpdenhmkpiafiaa
open Go.ChangeShapes Go.WideShapes Go.ChangeAt Go.RowKit K6
theorem spot_noneR {w : World} {a : Addr} {v : Value} (h : w.cell? a = some v) : a.spot = none ∧ a.block < w.heap.size := by
 unfold World.cell? at h
 split at h
 ·rename_i c e f hc
  refine ⟨?_, (Array.getElem?_eq_some_iff.1 hc).1⟩
  cases hs : a.spot with
  | none => rfl
  | some k => rw [hs] at h; simp at h
 ·cases h
theorem add_plainR {a : Addr} (h : a.spot = none) (i : Nat) : a.add i = ⟨a.block, a.off + i, none⟩ := by
 obtain ⟨b, o, s⟩ := a
 simp only at h
 subst h
 unfold Addr.add
 split <;> simp_all
theorem spot_of_add {a : Addr} (h : (a.add 0).spot = none) : a.spot = none := by
 unfold Addr.add at h
 simpa using h
set_option maxRecDepth 100000 in
theorem open_R {H : Type} {enc : TypeId × Value → H} {W : World} {base b0 : Nat} {r : Reach} {held : Bool} {v : Value} {d : DataW H} {p : List MemPlace}
  (hval : Value.okWide Try.prog W r b0 33 v) (h : DataW.Trod enc Try.prog W base (fun _ => true) held 33 v d p) :
  ∃ (q : Option Addr) (c : Nat) (xs : List Int) (qb : Option Nat), v = .slice q xs.length c ∧ Bs W v xs ∧ (∀ x ∈ xs, 0 ≤ x ∧ x < 256) ∧ SRv W qb v xs ∧ (∀ b, qb = some b → b < W.heap.size) := by
 obtain ⟨q, n, c, rfl⟩ := okWide_slice Try.underlying33 hval
 obtain ⟨fuel, hf⟩ := h
 rcases open_ints Try.underlying33 Try.underlying5 cells5' hf with ⟨hc, hx⟩ | ⟨a, len, cap, zs, hc, _, hle, hmax, hlen, hx, hcell, hwf⟩
 ·simp [Value.cells] at hc
  obtain ⟨rfl, rfl, rfl⟩ := hc
  exact ⟨none, 0, [], none, rfl, Bs.nil W, (fun x hx => (by cases hx)), .inl ⟨rfl, _, rfl⟩, fun _ h => (by cases h)⟩
 ·simp [Value.cells] at hc
  obtain ⟨rfl, rfl, rfl⟩ := hc
  have hl2 : zs.length = c := by simpa using hlen
  have e : (zs.take n).length = n := by rw [List.length_take]; omega
  have hB : Bs W (.slice (some a) (zs.take n).length c) (zs.take n) := ⟨some a, c, rfl, (fun h => (by cases h)), fun p hp j u hj => by
   cases hp
   unfold bv at hj
   rw [List.getElem?_map, List.getElem?_take] at hj
   split at hj
   ·rename_i hjn
    have hjl : j < zs.length := by omega
    rw [List.getElem?_eq_getElem hjl] at hj
    cases hj
    rw [hcell j hjl, List.getD_eq_getElem?_getD, List.getElem?_eq_getElem hjl]
    rfl
   ·cases hj⟩
  have hby : ∀ x ∈ zs.take n, 0 ≤ x ∧ x < 256 := fun x hx => bounds8' (hwf x (List.mem_of_mem_take hx))
  rcases Nat.eq_zero_or_pos c with h0 | h0
  ·have hn0 : n = 0 := by omega
   have hz : zs.take n = [] := by rw [hn0, List.take_zero]
   refine ⟨some a, c, zs.take n, none, by rw [e], by rw [e] at hB; exact hB, hby, .inl ⟨hz, some a, by rw [hn0, h0]⟩, fun _ h => (by cases h)⟩
  ·have h1 := hcell 0 (by omega)
   have h2 := spot_noneR h1
   have hs : a.spot = none := spot_of_add h2.1
   rw [add_plainR hs 0] at h2
   refine ⟨some a, c, zs.take n, some a.block, by rw [e], by rw [e] at hB; exact hB, hby, .inr ⟨a.block, a.off, c, rfl, ?_, by omega, h0, fun j x hj => ?_⟩, fun b hb => by injection hb with hb; subst hb; exact h2.2⟩
   ·rw [e]
    congr 2
    obtain ⟨b, o, s⟩ := a
    simp only at hs
    subst hs
    rfl
   ·rw [List.getElem?_take] at hj
    split at hj
    ·rename_i hjn
     have hjl : j < zs.length := by omega
     rw [← add_plainR hs, hcell j hjl, List.getD_eq_getElem?_getD, hj]
     rfl
    ·cases hj
end Go.Proofs.Ytpdenhmkpiafiaa
namespace Go.Proofs.Ytpdenhmkpiafiaa
open Go Go.RowKit K6
def uw (l : List Nat) : List Value := l.flatMap fun a => (W4 a).toList
theorem uw_app (l k : List Nat) : uw (l ++ k) = uw l ++ uw k := List.flatMap_append
theorem uw_get (l : List Nat) (i j : Nat) (hi : i < l.length) (hj : j < 4) : (uw l)[i * 4 + j]? = (W4 (l[i]))[j]? := by
 induction l generalizing i with
 | nil => exact absurd hi (Nat.not_lt_zero _)
 | cons a l ih =>
  have hl4 : (W4 a).toList.length = 4 := rfl
  show ((W4 a).toList ++ uw l)[i * 4 + j]? = _
  match i, hi with
  | 0, _ =>
   rw [List.getElem?_append_left (by rw [hl4]; omega), Nat.zero_mul, Nat.zero_add]
   simp
  | i + 1, hi =>
   rw [List.getElem?_append_right (by rw [hl4]; omega), hl4, show (i + 1) * 4 + j - 4 = i * 4 + j by omega, ih i (by simpa using hi)]
   rfl
def Oe (w : World) (base : Nat) (v : Value) (l : List Nat) : Prop := w.ownsRow base 31 4 v l.length (uw l)
def Us (w : World) (u : Value) (l : List Nat) : Prop := ∃ q c, u = .slice q l.length c ∧ (q = none → c = 0 ∧ l = []) ∧ ∀ a, q = some a → ∀ j v, (uw l)[j]? = some v → w.cell? (a.add j) = some v
theorem Oe.base {w : World} {b b' : Nat} {v : Value} {l : List Nat} (h : Oe w b v l) (hb : b' ≤ b) : Oe w b' v l := by
 refine ⟨h.1, ?_⟩
 rcases h.2 with h0 | ⟨g, cap, cur, rfl, h1, rest⟩
 ·exact .inl h0
 ·exact .inr ⟨g, cap, cur, rfl, Nat.le_trans hb h1, rest⟩
theorem Oe.nil (w : World) (b : Nat) : Oe w b (.slice none 0 0) [] := ⟨rfl, .inl ⟨rfl, rfl⟩⟩
theorem Us.nil (w : World) : Us w (.slice none 0 0) [] := ⟨none, 0, rfl, fun _ => ⟨rfl, rfl⟩, fun _ ha => (by cases ha)⟩
theorem Oe.us {w : World} {b : Nat} {v : Value} {l : List Nat} (h : Oe w b v l) : Us w v l := by
 rcases h.2 with ⟨rfl, h0⟩ | ⟨g, cap, cur, rfl, h1, hg, h2, h3, h4, h5⟩
 ·obtain rfl : l = [] := List.eq_nil_of_length_eq_zero h0
  exact Us.nil w
 ·refine ⟨some ⟨g, 0, none⟩, cap, rfl, (fun h => (by cases h)), fun a ha j u hj => ?_⟩
  cases ha
  exact World.ownsRow.cells h (g := g) rfl j u hj
theorem Us.keep {X : Nat → Prop} {w w' : World} {u : Value} {l : List Nat} (h : Us w u l) (hT : Tr X w w') (hx : ∀ b, u.ownBlock = some b → ¬ X b) : Us w' u l := by
 obtain ⟨q, c, rfl, h0, h1⟩ := h
 refine ⟨q, c, rfl, h0, fun a ha j v hj => ?_⟩
 subst ha
 have h2 := h1 a rfl j v hj
 rw [← h2]
 refine World.cell?_of_block ?_
 rw [add_block]
 have h3 := cell_lt h2
 rw [add_block] at h3
 exact hT.block _ h3 (hx _ rfl)
theorem Us.below {w w' : World} {u : Value} {l : List Nat} (h : Us w u l) (hb : Below w.heap.size w w') : Us w' u l := h.keep (X := None_) (Tr.of hb) (fun _ _ => id)
theorem Oe.keep {X : Nat → Prop} {w w' : World} {b : Nat} {v : Value} {l : List Nat} (h : Oe w b v l) (hT : Tr X w w') (hx : ∀ b, v.ownBlock = some b → ¬ X b) : Oe w' b v l := own_tr h hT hx
theorem Oe.below {w w' : World} {b : Nat} {v : Value} {l : List Nat} (h : Oe w b v l) (hb : Below w.heap.size w w') : Oe w' b v l := own_tr h (X := None_) (Tr.of hb) (fun _ _ => id)
theorem Us.at_ {w : World} {u : Value} {l : List Nat} (h : Us w u l) {i : Nat} (hi : i < l.length) : ∃ g o c, u = .slice (some ⟨g, o, none⟩) l.length c ∧ g < w.heap.size ∧ ∀ i (hi : i < l.length) j v, (W4 (l[i])).toList[j]? = some v → w.cell? ⟨g, o + i * 4 + j, none⟩ = some v := by
 obtain ⟨q, c, rfl, h0, h1⟩ := h
 cases q with
 | none => rw [(h0 rfl).2] at hi; exact absurd hi (Nat.not_lt_zero _)
 | some a =>
  have hc : ∀ i (hi : i < l.length) j v, (W4 (l[i])).toList[j]? = some v → w.cell? (a.add (i * 4 + j)) = some v := fun i hi j v hj => by
   have hj4 : j < 4 := (List.getElem?_eq_some_iff.1 hj).1
   refine h1 a rfl _ _ ?_
   rw [uw_get l i j hi hj4, ← hj]
   simp
  have h2 := hc 0 (by omega) 0 _ rfl
  rw [show a.add (0 * 4 + 0) = a from by unfold Addr.add; rfl] at h2
  have h3 := cell_lt h2
  have hs : a.spot = none := by
   unfold World.cell? at h2
   split at h2
   ·cases hs : a.spot with
    | none => rfl
    | some k => rw [hs] at h2; simp at h2
   ·cases h2
  obtain ⟨g, o, s⟩ := a
  simp only at hs
  subst hs
  refine ⟨g, o, c, rfl, h3, fun i hi j v hj => ?_⟩
  rw [Nat.add_assoc, ← add_off]
  exact hc i hi j v hj
namespace K6
def sPz (i : Nat) (D use : List Nat) (base e z : Nat) (v : Value) (n : Nat) (zs : List Value) : Sp :=
 (⟨i, D, use, [], [], [i], false, true, true⟩, ⟨fun _ x => Grew v x ∧ ∃ q m c, x.v = .slice q m c, fun g w => Grew v (g i) ∧ w.ownsRow base e z (g i).v n zs, fun b => v.ownBlock = some b, fun b => v.ownBlock = some b⟩)
theorem own_trz {X : Nat → Prop} {w w' : World} {base e z n : Nat} {v : Value} {zs : List Value} (h : w.ownsRow base e z v n zs) (hT : Tr X w w') (hx : ∀ b, v.ownBlock = some b → ¬ X b) : w'.ownsRow base e z v n zs := own_tr h hT hx
theorem ok_Pz {w1 : World} {Z : Nat → Prop} {i : Nat} {D use : List Nat} {base e z : Nat} {v : Value} {n : Nat} {zs : List Value} (hsl : ∃ q m c, v = .slice q m c) (hv : ∀ b, v.ownBlock = some b → Z b ∧ b < w1.heap.size) : OpOk w1 Z (sPz i D use base e z v n zs) where
 some_ := fun _ => ⟨⟨v, w1.heap.size, w1.heap.size⟩, Nat.le_refl _, Nat.le_refl _, .inl rfl, hsl⟩
 depV := fun _ _ _ _ h => h
 depF := fun g g' hg w h => by
  show Grew v (g' i) ∧ w.ownsRow base e z (g' i).v n zs
  rw [hg i (.inl rfl)]; exact h
 loc := fun g w w' h hT => by
  refine ⟨h.1, own_trz h.2 hT fun b hb hn => hn ?_⟩
  rcases h.1 with h1 | ⟨h1, h2⟩
  ·rw [h1] at hb; exact .inr (.inl hb)
  ·rw [h1] at hb
   cases hb
   exact .inr (.inr ⟨i, by simp [sPz], Nat.le_refl _, h2⟩)
 xo := fun b hb => ⟨rfl, hv b hb⟩
 lo := fun b hb => ⟨rfl, (hv b hb).2⟩
theorem left_Pz {l : List Sp} {i : Nat} {D use : List Nat} {base e z : Nat} {v : Value} {n : Nat} {zs : List Value} {s : Sh} (hl : look6 l s.i = (sPz i D use base e z v n zs).2) (hs : s = (sPz i D use base e z v n zs).1) {g : Ghost} {w w' : World} {v' : Value}
  (hg : w.grownBy w' v.ownBlock) (ho : w'.ownsRow base e z v' n zs) (hlt : ∀ b, v'.ownBlock = some b → b < w'.heap.size) (hw : v'.ownBlock = v.ownBlock ∨ v'.ownBlock = some w.heap.size) : Left (look6 l) s g w v' w' := by
 have hG : Grew v ⟨v', w.heap.size, w'.heap.size⟩ := by
  rcases hw with h | h
  ·exact .inl h
  ·exact .inr ⟨h, hlt _ h⟩
 unfold Left
 rw [hl]
 subst hs
 have hsl : ∃ q m c, v' = .slice q m c := by
  rcases ho.2 with ⟨rfl, -⟩ | ⟨g, cap, cur, rfl, -⟩
  ·exact ⟨_, _, _, rfl⟩
  ·exact ⟨_, _, _, rfl⟩
 refine ⟨⟨hG, hsl⟩, ⟨hg.os, hg.tape, hg.output, hg.size, fun b hb hx => hg.block b hb fun hn => hx (.inl (by rw [hl]; exact hn.symm))⟩, ?_⟩
 show Grew v (gput g i _ i) ∧ w'.ownsRow base e z (gput g i _ i).v n zs
 rw [gput_self]
 exact ⟨hG, ho⟩
end K6
theorem Oe.lt {w : World} {base : Nat} {v : Value} {l : List Nat} (h : Oe w base v l) (b : Nat) (hb : v.ownBlock = some b) : base ≤ b ∧ b < w.heap.size := by
 rcases h.2 with ⟨rfl, -⟩ | ⟨g, cap, cur, rfl, h1, hg, -⟩
 ·cases hb
 ·have h2 : some g = some b := hb
  injection h2 with h2
  subst h2
  exact ⟨h1, (Array.getElem?_eq_some_iff.1 hg).1⟩
end Go.Proofs.Ytpdenhmkpiafiaa
namespace Go.Proofs.Ytpdenhmkpiafiaa
open Go Go.RowKit K6
def Ns (w : World) (u : Value) (l : List Int) : Prop := ∃ q c, u = .slice q l.length c ∧ (0 < l.length → ∃ g o, q = some ⟨g, o, none⟩ ∧ g < w.heap.size ∧ ∀ i (hi : i < l.length), w.cell? ⟨g, o + i, none⟩ = some (.int .i64 l[i]))
theorem Ns.below {w w' : World} {u : Value} {l : List Int} (h : Ns w u l) (hb : Below w.heap.size w w') : Ns w' u l := by
 obtain ⟨q, c, rfl, h⟩ := h
 refine ⟨q, c, rfl, fun h0 => ?_⟩
 obtain ⟨g, o, rfl, hg, hc⟩ := h h0
 exact ⟨g, o, rfl, Nat.lt_of_lt_of_le hg hb.size, fun i hi => (World.cell?_of_block (hb.block g hg)).trans (hc i hi)⟩
theorem kLoadE {P : Program} {w1 : World} {o : Oper} {a : Act} {X : Nat → Prop} {ty : TypeId} {x : Operand} {b off n : Nat} {cs : List Value} (ho : o.op = .load ty x) (hx : a.eval x = .pointer (some ⟨b, off, none⟩)) (T : AggT P ty n) (hr : ∀ j v, cs[j]? = some v → w1.cell? ⟨b, off + j, none⟩ = some v) (hs : cs.length = n) (hb : b < w1.heap.size) (hX : ¬ X b) : kOut P w1 X o a (.agg cs.toArray) := by
 intro w hw
 obtain ⟨⟨d, hu, hd⟩, hi⟩ := T
 have hc : w.rangeAt b off cs := fun j v hv => (World.cell?_of_block (hw.block b hb hX)).trans (hr j v hv)
 have h := run_loadAt_mid (P := P) w b off ty cs d hc hu (by cases d <;> first | rfl | exact Bool.noConfusion hd) (by rw [hi, ← hs])
 unfold execOp
 simp only [ho, hx, Sem.run_bind, Sem.run_pure, Result.andThen_ok, h]
 exact ⟨by simp, rfl⟩
theorem kLoadA {P : Program} {w1 : World} {o : Oper} {a : Act} {X : Nat → Prop} {ty : TypeId} {x : Operand} {b off n : Nat} {cs : Array Value} (ho : o.op = .load ty x) (hx : a.eval x = .pointer (some ⟨b, off, none⟩)) (T : AggT P ty n) (hr : ∀ j v, cs.toList[j]? = some v → w1.cell? ⟨b, off + j, none⟩ = some v) (hs : cs.size = n) (hb : b < w1.heap.size) (hX : ¬ X b) : kOut P w1 X o a (.agg cs) :=
 kLoadE (cs := cs.toList) ho hx T hr (by rw [Array.length_toList]; exact hs) hb hX
theorem Us.elem {w : World} {u : Value} {l : List Nat} {i x : Nat} (h : Us w u l) (hx : l[i]? = some x) : ∃ g o c, u = .slice (some ⟨g, o, none⟩) l.length c ∧ g < w.heap.size ∧ ∀ j v, (W4 x).toList[j]? = some v → w.cell? ⟨g, o + i * 4 + j, none⟩ = some v := by
 obtain ⟨hi, rfl⟩ := List.getElem?_eq_some_iff.1 hx
 obtain ⟨g, o, c, hu, hg, hc⟩ := h.at_ hi
 exact ⟨g, o, c, hu, hg, fun j v hj => hc i hi j v hj⟩
theorem Oe.one {w : World} {b : Nat} {v : Value} {l : List Nat} (h : Oe w b v l) : v.oneCell' = true := by
 rcases h.2 with ⟨rfl, -⟩ | ⟨g, cap, cur, rfl, -⟩
 ·rfl
 ·rfl
end Go.Proofs.Ytpdenhmkpiafiaa
namespace Go.Proofs.Ytpdenhmkpiafiaa
open Go Go.RowKit K6
structure Ev where
 k : Int
 q : Option Addr
 c : Nat
 l : List Nat
instance : Inhabited Ev := ⟨⟨0, none, 0, []⟩⟩
def Ev.v (e : Ev) : Value := .slice e.q e.l.length e.c
structure EvOk (w : World) (e : Ev) : Prop where
 us : Us w e.v e.l
 lt : ∀ a ∈ e.l, a < M
 lo : -9223372036854775808 ≤ e.k
 hi : e.k < 9223372036854775808
theorem EvOk.below {w w' : World} {e : Ev} (h : EvOk w e) (hb : Below w.heap.size w w') : EvOk w' e := ⟨h.us.below hb, h.lt, h.lo, h.hi⟩
def Es (w : World) (u : Value) (E : List Ev) : Prop := ∃ q c, u = .slice q E.length c ∧ (0 < E.length → ∃ g o, q = some ⟨g, o, none⟩ ∧ g < w.heap.size ∧ ∀ i e, E[i]? = some e → w.cell? ⟨g, o + i * 2, none⟩ = some (.int .i64 e.k) ∧ w.cell? ⟨g, o + i * 2 + 1, none⟩ = some e.v) ∧ ∀ e ∈ E, EvOk w e
theorem Es.below {w w' : World} {u : Value} {E : List Ev} (h : Es w u E) (hb : Below w.heap.size w w') : Es w' u E := by
 obtain ⟨q, c, rfl, h, hk⟩ := h
 refine ⟨q, c, rfl, fun h0 => ?_, fun e he => (hk e he).below hb⟩
 obtain ⟨g, o, rfl, hg, hc⟩ := h h0
 exact ⟨g, o, rfl, Nat.lt_of_lt_of_le hg hb.size, fun i e he => ⟨(World.cell?_of_block (hb.block g hg)).trans (hc i e he).1, (World.cell?_of_block (hb.block g hg)).trans (hc i e he).2⟩⟩
theorem Es.get {w wr : World} {u : Value} {E : List Ev} (h : Es w u E) (hb : Below w.heap.size w wr) {i : Nat} {e : Ev} (he : E[i]? = some e) :
  ∃ g o c, u = .slice (some ⟨g, o, none⟩) E.length c ∧ g < wr.heap.size ∧ EvOk wr e ∧ ∀ j v, [Value.int .i64 e.k, e.v][j]? = some v → wr.cell? ⟨g, o + i * 2 + j, none⟩ = some v := by
 obtain ⟨q, c, rfl, h, hk⟩ := h.below hb
 obtain ⟨g, o, rfl, hg, hc⟩ := h (by have := (List.getElem?_eq_some_iff.1 he).1; omega)
 refine ⟨g, o, c, rfl, hg, hk e (List.mem_of_getElem? he), fun j v hj => ?_⟩
 obtain ⟨h0, h1⟩ := hc i e he
 match j, hj with
 | 0, hj =>
  have hj' : some (Value.int .i64 e.k) = some v := hj
  rw [← hj']
  exact h0
 | 1, hj =>
  have hj' : some e.v = some v := hj
  rw [← hj']
  exact h1
def IdxP (b : Bool) (w : World) (r : Ending) (w' : World) : Prop := ∃ n : Int, r = .returned (.int .i64 n) ∧ (b = true → n = -1) ∧ (b = false → 0 ≤ n) ∧ Below w.heap.size w w'
end Go.Proofs.Ytpdenhmkpiafiaa
