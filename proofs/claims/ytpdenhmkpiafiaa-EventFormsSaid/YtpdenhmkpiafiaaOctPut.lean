/-
  octet.Hash (42); the document's Hash (43) and Amount (41).
-/
import Derived.Test.YtpdenhmkpiafiaaOctAmt
import Derived.Test.YtpdenhmkpiafiaaOctK7
import Derived.Test.YtpdenhmkpiafiaaRefForm2
namespace Go.Proofs.Ytpdenhmkpiafiaa
open Go Go.RowKit K6

theorem Ob_new0 (w : World) : Ob (w.alloc (.cells #[] 5)) w.heap.size (.slice (some ⟨w.heap.size, 0, none⟩) 0 0) [] := ⟨rfl, .inr ⟨w.heap.size, 0, #[], rfl, Nat.le_refl _, Row.new_at (t := 5) (cs := #[]) rfl, Nat.le_refl _, Nat.zero_le _, rfl, rfl⟩⟩
theorem Bs_row {w : World} {b t n : Nat} {ys : List Int} (h : Row w b t (bv ys).toArray) (hn : ys.length = n) : Bs w (.slice (some ⟨b, 0, none⟩) n n) ys := by
  subst hn
  refine ⟨_, _, rfl, (fun h => (by cases h)), fun a ha j u hj => ?_⟩
  cases ha
  rw [add_at, Nat.zero_add, h.cell]
  simpa using hj
set_option maxRecDepth 100000 in
set_option maxHeartbeats 8000000 in
theorem hash_put (u : Value) (xs hs : List Int) (w : World) (h : Bs w u xs) (hL0 : xs.length ≤ 10000000) (hh : hs.length = 32) :
    Calls Try.prog 42 #[u, .agg (bv hs).toArray] w fun e w' => ∃ v, e = .returned v ∧ Ob w' w.heap.size v (xs ++ hs) ∧ Below w.heap.size w w' := by
  have hL := Lib.hid (show xs.length ≤ 100000000 by omega)
  have hH := Lib.hid hh
  obtain ⟨z3, hz3e⟩ : ∃ z, xs ++ hs = z := ⟨_, rfl⟩
  have hz3 := Lib.hid hz3e
  have hfin := Lib.hid hz3e.symm
  clear hz3e
  have hb0 := h
  clear h hL0 hh
  go_enter Try.func42, Try.ntmps42
  apply wp_seq_eq
  focus
    intro J hJ
    go_wp2_with fail
    exact hJ
  refine wp_abs (Mem w [(w.heap.size, 35, (bv hs).toArray)]) ⟨by go_grown, Row.new_at rfl, trivial⟩ ?_
  intro w0 hM
  obtain ⟨hl, rh, -⟩ := hM
  have hb := hb0.below hl
  clear hb0
  go_upto_region 1 with (fail)
  let L : List Sp := [sQ 1 [] [] [] [3] w0.heap.size xs (fun _ => True), sQ 3 [1] [1] [1] [] w0.heap.size z3 (fun _ => True)]
  refine wp_region_six7 (shs L) (look6 L) (None_) (by kernel_rfl) (by kernel_rfl) (mk_St L [] [] (by kernel_rfl) (by kernel_rfl) ⟨ok_Q ⟨undef, trivial⟩ (by simp), ok_Q ⟨undef, trivial⟩ (by simp), trivial⟩ (by simp)) ?_
  intro QQ hQ
  -- 0: t0
  refine stepK rfl (by kernel_rfl) (fun K hK => ?_); go_simp
  apply Exists.intro; apply And.intro; (focus (intro wk hk; go_simp; exact ⟨rfl, rfl⟩)); refine hK _ _ ?_; clear hK K
  -- 1: call F157(t5)
  refine stepS _ rfl (by kernel_rfl) (fun K hK => ?_); go_simp
  refine ⟨?_, ?_⟩
  · intro wk hk hg hu; have hb9 := hb.below hk.undrew.below; go_simp; refine upon_enter ((clone_any u xs wk hb9 hL.out).mono ?_); rintro e w' ⟨v, rfl, ho, hbb⟩; exact ⟨_, rfl, left_Qc rfl rfl ho hbb hk.undrew.size trivial⟩
  rintro ⟨v1, lo1, hi1⟩ - - -
  refine hK _ _ ?_; clear hK K
  -- 2: slice<35> t3[::]
  refine stepK rfl (by kernel_rfl) (fun K hK => ?_); go_simp
  apply Exists.intro; apply And.intro; (focus (intro wk hk; go_simp; exact ⟨rfl, rfl⟩)); refine hK _ _ ?_; clear hK K
  -- 3: call builtin append<33,33>(t6, t7)
  refine stepS _ rfl (by kernel_rfl) (fun K hK => ?_); go_simp
  refine ⟨?_, ?_⟩
  · intro wk hk hg hu; have u1 := hu 1 (show 1 ∈ [1] by decide); have o1 : OwnF 1 [] w0.heap.size (xs) _ wk := u1; have p1 : Ob wk w0.heap.size v1 (xs) := o1.1; have s9 := (Bs_row (K6.Row.tr rh hk.undrew id) hH.out); obtain ⟨v', w', hrun, ho2, hgb, hw⟩ := append_run p1 s9 (by have := hL.out; have := hH.out; omega) hk.undrew.size; rw [run_append_op rfl rfl rfl hrun]; exact left_Qa rfl rfl (by decide) o1.2 hgb (by rw [← hz3.out]; exact ho2) hw trivial
  rintro ⟨v3, lo3, hi3⟩ - - -
  refine hK _ _ ?_; clear hK K
  -- 4: assign t8
  refine stepK rfl (by kernel_rfl) (fun K hK => ?_); go_simp
  apply Exists.intro; apply And.intro; (focus (intro wk hk; go_simp; exact ⟨rfl, rfl⟩)); refine hK _ _ ?_; clear hK K
  refine stepN ?_
  refine hQ _ _ ?_
  intro w3 hT hG hF
  have hb3 := hT.undrew.below
  have o9 : OwnF 3 [1] w0.heap.size z3 _ w3 := hF 3 _ rfl rfl (by decide)
  have H := Lib.hid (show _ ∧ _ from ⟨(show Ob w3 w0.heap.size v3 z3 from o9.1).base hl.size, hl.trans (hb3.mono hl.size)⟩)
  clear hT hG hF hb3 hQ QQ L o9 hl hb
  go_wp2_with fail
  go_ret
  exact ⟨_, rfl, by rw [← hfin.out]; exact H.out.1, H.out.2⟩
set_option maxRecDepth 100000 in
set_option maxHeartbeats 8000000 in
theorem refhash_put (u : Value) (xs hs : List Int) (w : World) (h : Bs w u xs) (hL0 : xs.length ≤ 10000000) (hh : hs.length = 32) :
    Calls Try.prog 43 #[u, .agg (bv hs).toArray] w fun e w' => ∃ v, e = .returned v ∧ Ob w' w.heap.size v (xs ++ hs) ∧ Below w.heap.size w w' := by
  have hL := Lib.hid (show xs.length ≤ 100000000 by omega)
  have hH := Lib.hid hh
  obtain ⟨z0, hz0e⟩ : ∃ z, ([] : List Int) = z := ⟨_, rfl⟩
  have hz2e : z0 ++ xs = xs := by rw [← hz0e]; rfl
  have hz0l := Lib.hid (show z0.length = 0 by rw [← hz0e]; rfl)
  have hz0 := Lib.hid hz0e
  have hxs := Lib.hid hz2e
  obtain ⟨z4, hz4e⟩ : ∃ z, xs ++ hs = z := ⟨_, rfl⟩
  have hz4 := Lib.hid hz4e
  have hfin := Lib.hid hz4e.symm
  clear hz4e hz0e hz2e
  have hb0 := h
  clear h hL0 hh
  go_enter Try.func43, Try.ntmps43
  apply wp_seq_eq
  focus
    intro J hJ
    go_wp2_with fail
    exact hJ
  refine wp_abs (Mem w [(w.heap.size, 35, (bv hs).toArray)]) ⟨by go_grown, Row.new_at rfl, trivial⟩ ?_
  intro w0 hM
  obtain ⟨hl, rh, -⟩ := hM
  have hb := hb0.below hl
  clear hb0
  go_upto_region 1 with (fail)
  let L : List Sp := [sQ 0 [] [] [] [2, 4] w0.heap.size z0 (fun _ => True), sQ 2 [0] [0] [0] [4] w0.heap.size xs (fun _ => True), sQ 4 [2, 0] [2, 0] [2] [] w0.heap.size z4 (fun _ => True)]
  refine wp_region_six7 (shs L) (look6 L) (None_) (by kernel_rfl) (by kernel_rfl) (mk_St L [] [] (by kernel_rfl) (by kernel_rfl) ⟨ok_Q ⟨undef, trivial⟩ (by simp), ok_Q ⟨undef, trivial⟩ (by simp), ok_Q ⟨undef, trivial⟩ (by simp), trivial⟩ (by simp)) ?_
  intro QQ hQ
  -- 0: buildSlice<33> len 0 
  refine stepS _ rfl (by kernel_rfl) (fun K hK => ?_); go_simp
  refine ⟨?_, ?_⟩
  · intro wk hk hg hu; go_simp; exact left_Qc rfl rfl (hz0.out ▸ Ob_new0 wk) ((Below.refl _ _).alloc (Nat.le_refl _) _) hk.undrew.size trivial
  rintro ⟨v0, lo0, hi0⟩ - - -
  refine hK _ _ ?_; clear hK K
  -- 1: t0
  refine stepK rfl (by kernel_rfl) (fun K hK => ?_); go_simp
  apply Exists.intro; apply And.intro; (focus (intro wk hk; go_simp; exact ⟨rfl, rfl⟩)); refine hK _ _ ?_; clear hK K
  -- 2: call builtin append<33,33>(t5, t6)
  refine stepS _ rfl (by kernel_rfl) (fun K hK => ?_); go_simp
  refine ⟨?_, ?_⟩
  · intro wk hk hg hu; have u0 := hu 0 (show 0 ∈ [0] by decide); have o0 : OwnF 0 [] w0.heap.size (z0) _ wk := u0; have p0 : Ob wk w0.heap.size v0 (z0) := o0.1; have s9 := (hb.below hk.undrew.below); obtain ⟨v', w', hrun, ho2, hgb, hw⟩ := append_run p0 s9 (by have := hL.out; have := hz0l.out; omega) hk.undrew.size; rw [run_append_op rfl rfl rfl hrun]; exact left_Qa rfl rfl (by decide) o0.2 hgb (by rw [← hxs.out]; exact ho2) hw trivial
  rintro ⟨v2, lo2, hi2⟩ - - -
  refine hK _ _ ?_; clear hK K
  -- 3: slice<35> t3[::]
  refine stepK rfl (by kernel_rfl) (fun K hK => ?_); go_simp
  apply Exists.intro; apply And.intro; (focus (intro wk hk; go_simp; exact ⟨rfl, rfl⟩)); refine hK _ _ ?_; clear hK K
  -- 4: call builtin append<33,33>(t7, t8)
  refine stepS _ rfl (by kernel_rfl) (fun K hK => ?_); go_simp
  refine ⟨?_, ?_⟩
  · intro wk hk hg hu; have u2 := hu 2 (show 2 ∈ [2] by decide); have o2 : OwnF 2 [0] w0.heap.size (xs) _ wk := u2; have p2 : Ob wk w0.heap.size v2 (xs) := o2.1; have s9 := (Bs_row (K6.Row.tr rh hk.undrew id) hH.out); obtain ⟨v', w', hrun, ho2, hgb, hw⟩ := append_run p2 s9 (by have := hL.out; have := hH.out; omega) hk.undrew.size; rw [run_append_op rfl rfl rfl hrun]; exact left_Qa rfl rfl (by decide) o2.2 hgb (by rw [← hz4.out]; exact ho2) hw trivial
  rintro ⟨v4, lo4, hi4⟩ - - -
  refine hK _ _ ?_; clear hK K
  -- 5: assign t9
  refine stepK rfl (by kernel_rfl) (fun K hK => ?_); go_simp
  apply Exists.intro; apply And.intro; (focus (intro wk hk; go_simp; exact ⟨rfl, rfl⟩)); refine hK _ _ ?_; clear hK K
  refine stepN ?_
  refine hQ _ _ ?_
  intro w3 hT hG hF
  have hb3 := hT.undrew.below
  have o9 : OwnF 4 [2, 0] w0.heap.size z4 _ w3 := hF 4 _ rfl rfl (by decide)
  have H := Lib.hid (show _ ∧ _ from ⟨(show Ob w3 w0.heap.size v4 z4 from o9.1).base hl.size, hl.trans (hb3.mono hl.size)⟩)
  clear hT hG hF hb3 hQ QQ L o9 hl hb
  go_wp2_with fail
  go_ret
  exact ⟨_, rfl, by rw [← hfin.out]; exact H.out.1, H.out.2⟩
/-! ### the document's Amount -/
theorem nby_of {a k : Nat} (hk : k < 32) (h1 : a < 2 ^ (8 * (32 - k))) (h2 : byN a (31 - k) ≠ 0) : nby a = 32 - k := by
  have h3 : blen a ≤ 8 * (32 - k) := blen_le h1
  have h4 : 8 * (31 - k) < blen a := by
    rcases Nat.lt_or_ge (8 * (31 - k)) (blen a) with h | h
    · exact h
    · exfalso
      have h5 : a < 2 ^ (8 * (31 - k)) := Nat.lt_of_lt_of_le (lt_blen a) (Nat.pow_le_pow_right (by decide) h)
      apply h2
      unfold byN
      rw [Nat.div_eq_of_lt h5]
  unfold nby
  omega
theorem nby_zero {a : Nat} (h : a < 2 ^ (8 * (32 - 32))) : nby a = 0 := by
  have : a = 0 := by simpa using h
  subst this
  rfl
theorem byte_zero {a k : Nat} (hk : k < 32) (h1 : a < 2 ^ (8 * (32 - k))) (h2 : byN a (31 - k) = 0) : a < 2 ^ (8 * (32 - (k + 1))) := by
  have e : 8 * (32 - k) = 8 * (31 - k) + 8 := by omega
  rw [e, Nat.pow_add] at h1
  rw [show 32 - (k + 1) = 31 - k by omega]
  have h3 : a / 2 ^ (8 * (31 - k)) < 2 ^ 8 := by rw [Nat.div_lt_iff_lt_mul (Nat.pow_pos (by decide)), Nat.mul_comm]; exact h1
  unfold byN at h2
  have h4 : a / 2 ^ (8 * (31 - k)) = 0 := by
    obtain ⟨q, hq⟩ : ∃ q, a / 2 ^ (8 * (31 - k)) = q := ⟨_, rfl⟩
    rw [hq] at h2 h3 ⊢
    omega
  rcases Nat.lt_or_ge a (2 ^ (8 * (31 - k))) with h | h
  · exact h
  · have := Nat.div_pos h (Nat.pow_pos (by decide)); omega
def SX (x : GV) : Prop := ∃ g c, 32 ≤ c ∧ x.v = .slice (some ⟨g, 0, none⟩) 32 c
theorem sx_some {w : World} : ∃ x : GV, w.heap.size ≤ x.lo ∧ x.lo ≤ x.hi ∧ SX x := ⟨⟨.slice (some ⟨0, 0, none⟩) 32 32, w.heap.size, w.heap.size⟩, Nat.le_refl _, Nat.le_refl _, 0, 32, Nat.le_refl _, rfl⟩
theorem bs100 {a : Nat} (ha : a < M) (w : World) : Calls Try.prog 100 #[.agg (W4 a)] w fun e w' => ∃ g c, e = .returned (.slice (some ⟨g, 0, none⟩) 32 c) ∧ 32 ≤ c ∧ Bs w' (.slice (some ⟨g, 0, none⟩) 32 c) (BL32 a) ∧ Below w.heap.size w w' := by
  refine (refBytes_any a ha w).mono ?_
  rintro e w' ⟨v, rfl, h, hb⟩
  have ho : Ob w' (w.heap.size + 1) v (BL32 a) := by
    unfold Ob
    rw [BL32_len]
    exact h
  rcases h.2 with ⟨rfl, h0⟩ | ⟨g, cap, cur, rfl, h1, h2, h3, -⟩
  · exact absurd h0 (by decide)
  · exact ⟨g, cap, rfl, h3, ho.bs, hb⟩
theorem Bs_dropc {w : World} {g j c : Nat} {ys : List Int} (h : Bs w (.slice (some ⟨g, 0, none⟩) 32 c) ys) (_hj : j ≤ 32) : Bs w (.slice (some ⟨g, j, none⟩) (32 - j) (c - j)) (ys.drop j) := by
  obtain ⟨q, c', e, h0, h1⟩ := h
  obtain ⟨e1, e2⟩ : q = some ⟨g, 0, none⟩ ∧ ys.length = 32 := by injection e with e1 e2 e3; exact ⟨e1.symm, e2.symm⟩
  refine ⟨some ⟨g, j, none⟩, c - j, by rw [List.length_drop, e2], (fun h => (by cases h)), fun p hp i u hi => ?_⟩
  cases hp
  rw [add_off, ← Nat.zero_add (j + i), ← add_off]
  refine h1 _ e1 (j + i) u ?_
  rw [← hi]
  unfold bv
  rw [List.getElem?_map, List.getElem?_map, List.getElem?_drop]
theorem Bs_cell {w : World} {g c i a : Nat} (h : Bs w (.slice (some ⟨g, 0, none⟩) 32 c) (BL32 a)) (hi : i < 32) : w.cell? ⟨g, i, none⟩ = some (.int .u8 ((byN a (31 - i) : Nat) : Int)) := by
  obtain ⟨q, c', e, h0, h1⟩ := h
  obtain e1 : q = some ⟨g, 0, none⟩ := by injection e with e1 e2 e3; exact e1.symm
  have := h1 _ e1 i (.int .u8 ((byN a (31 - i) : Nat) : Int)) (by unfold bv BL32; rw [List.map_map, List.getElem?_map, List.getElem?_range hi]; rfl)
  rw [add_at, Nat.zero_add] at this
  exact this
set_option maxRecDepth 100000 in
set_option maxHeartbeats 16000000 in
theorem refamt_any (u : Value) (xs : List Int) (a : Nat) (w : World) (h : Bs w u xs) (hL0 : xs.length ≤ 10000000) (ha : a < M) :
    Calls Try.prog 41 #[u, .agg (W4 a)] w fun e w' => ∃ v, e = .returned v ∧ Ob w' w.heap.size v (xs ++ amtL a) ∧ Below w.heap.size w w' := by
  have hL := Lib.hid (show xs.length ≤ 100000000 by omega)
  have k100 := Lib.hid fun wx => bs100 ha wx
  have hfin0 : ∀ n k : Nat, nby a = n → 32 - n = k → (xs ++ [(n : Int)]) ++ (BL32 a).drop k = xs ++ amtL a := fun n k e1 e2 => by
    subst e1; subst e2
    unfold amtL
    rw [List.append_assoc]; rfl
  obtain ⟨z0, hz0e⟩ : ∃ z, ([] : List Int) = z := ⟨_, rfl⟩
  have hz2e : z0 ++ xs = xs := by rw [← hz0e]; rfl
  have hz0l := Lib.hid (show z0.length = 0 by rw [← hz0e]; rfl)
  have hz0 := Lib.hid hz0e
  have hxs := Lib.hid hz2e
  clear hz0e hz2e
  have HA := Lib.hid (show a < 2 ^ (8 * (32 - 0)) from ha)
  have hb0 := h
  clear h hL0 ha
  go_enter Try.func41, Try.ntmps41
  apply wp_seq_eq
  focus
    intro J hJ
    go_wp2_with fail
    exact hJ
  refine wp_abs (Mem w [(w.heap.size, 31, W4 a)]) ⟨by go_grown, ?_, trivial⟩ ?_
  · repeat (first | (refine Row.new_at ?_; simp; done) | refine Row.alloc ?_ _)
  intro w0 hM
  obtain ⟨hl, ra, -⟩ := hM
  go_upto_region 1 with (fail)
  have hb := hb0.below hl
  clear hb0
  let L : List Sp := [sF 1 [] [] [] (fun x => SX x) (fun x w => Bs w x.v (BL32 a))]
  refine wp_region_six0 (shs L) (look6 L) (None_) (by kernel_rfl) (by kernel_rfl) (mk_St L [] [] (by kernel_rfl) (by kernel_rfl) ⟨ok_F sx_some (fun _ _ _ h hb => Bs.below h hb), trivial⟩ (by simp)) ?_
  intro QQ hQ
  -- 0: load<31> *t3
  refine stepK rfl (by kernel_rfl) (fun K hK => ?_); go_simp
  apply Exists.intro; apply And.intro; (focus exact kLoad rfl rfl aggT31 ra rfl id); refine hK _ _ ?_; clear hK K
  -- 1: call F100(t7)
  refine stepS _ rfl (by kernel_rfl) (fun K hK => ?_); go_simp
  refine ⟨?_, ?_⟩
  · intro wk hk hg hu; go_simp; refine upon_enter ((k100.out _).mono ?_); rintro e w' ⟨g, c, rfl, hc9, hv, hb9⟩; exact ⟨_, rfl, left_F rfl rfl hb9 ⟨_, _, hc9, rfl⟩ hv⟩
  rintro ⟨v1, lo1, hi1⟩ - - ⟨g1, c1, hc1, (rfl : v1 = _)⟩
  refine hK _ _ ?_; clear hK K
  -- 2: assign t8
  refine stepK rfl (by kernel_rfl) (fun K hK => ?_); go_simp
  apply Exists.intro; apply And.intro; (focus (intro wk hk; go_simp; exact ⟨rfl, rfl⟩)); refine hK _ _ ?_; clear hK K
  refine stepN ?_
  refine hQ _ _ ?_
  intro w1 hT hG hF
  have hb1 := hT.below
  have hX : Bs w1 (.slice (some ⟨g1, 0, none⟩) 32 c1) (BL32 a) := hF 1 _ rfl rfl (by decide)
  replace hb := hb.below hb1
  replace hl := hl.trans (hb1.mono hl.size)
  clear hT hG hF hb1 hQ QQ L ra k100
  have H0 := Lib.hid (show _ ∧ _ ∧ _ from ⟨hl, hb, hX⟩)
  have HF := Lib.hid hfin0
  clear hl hb hX hfin0
  go_wp2_with fail
  go_loopg [6] 32 (fun gg s6 wr => ∃ k : Nat, k + gg = 32 ∧ s6 = .int .i64 (k : Int) ∧ wr = w1 ∧ a < 2 ^ (8 * (32 - k)))
  case atStart => exact ⟨0, rfl, rfl, rfl, HA.out⟩
  case round =>
    obtain ⟨k, hk, rfl, rfl, hak⟩ := hrel
    by_cases hk32 : k < 32
    · have hlt : (k : Int) < 32 := by omega
      have cx := Bs_cell H0.out.2.2 hk32
      obtain ⟨y, hy⟩ : ∃ y, byN a (31 - k) = y := ⟨_, rfl⟩
      rw [hy] at cx
      by_cases hy0 : y = 0
      · subst hy0
        have hn := Lib.hid (byte_zero hk32 hak hy)
        clear hak hy
        go_wp2_with fail
        go_roundg (gk - 1)
        case measure => omega
        case rel => exact ⟨k + 1, by omega, by go_num, rfl, hn.out⟩
      · have hq : (((y : Nat) : Int) == 0) = false := by rw [beq_eq_false_iff_ne]; omega
        have hnb := nby_of hk32 hak (by rw [hy]; exact hy0)
        obtain ⟨n, hn⟩ : ∃ n, 32 - k = n := ⟨_, rfl⟩
        rw [hn] at hnb
        have hfin0 := Lib.hid (HF.out n k hnb (by omega))
        have ek : (32 : Int) - (k : Int) = (n : Int) := by omega
        have wk8 : IntKind.u8.wrap (n : Int) = (n : Int) := by rw [IntKind.wrap_u8]; omega
        have wk6 : IntKind.i64.wrap (n : Int) = (n : Int) := by rw [IntKind.wrap_i64]; omega
        have hT9 := Lib.hid (show ((BL32 a).drop k).length ≤ 32 by rw [List.length_drop, BL32_len]; omega)
        have g5 : (k : Int) ≤ 32 := by omega
        have g6 : (32 : Int) ≤ (c1 : Int) := by omega
        have g7 : ¬ c1 = k := by omega
        have hk33 : k ≤ 32 := by omega
        clear hak hy hy0 hnb HF
        obtain ⟨z7, hz7e⟩ : ∃ z, xs ++ [(n : Int)] = z := ⟨_, rfl⟩
        have hz7l := Lib.hid (show z7.length ≤ 100000001 by rw [← hz7e, List.length_append]; have := hL.out; have : ([(n : Int)] : List Int).length = 1 := rfl; omega)
        have hz7 := Lib.hid hz7e
        obtain ⟨z11, hz11e⟩ : ∃ z, z7 ++ ((BL32 a).drop k) = z := ⟨_, rfl⟩
        have hfin := Lib.hid (show z11 = xs ++ amtL a by rw [← hz11e, ← hz7e]; exact hfin0.out)
        have hz11 := Lib.hid hz11e
        clear hz7e hz11e hfin0
        go_upto_region 5 with (fail)
        obtain ⟨hl, hb, hX⟩ := H0.out
        refine wp_abs (fun wx => Below w.heap.size w wx ∧ Bs wx u xs ∧ Bs wx (.slice (some ⟨g1, 0, none⟩) 32 c1) (BL32 a)) ⟨hl, hb, hX⟩ ?_
        clear hl hb hX H0
        rintro wo ⟨hl, hb, hX⟩
        let L : List Sp := [sQ 0 [] [] [] [2, 7, 11] wo.heap.size z0 (fun _ => True), sQ 2 [0] [0] [0] [7, 11] wo.heap.size xs (fun _ => True), sL 6 5 [] 1 #[.int .u8 (n : Int)], sQ 7 [2, 0] [2, 0, 6] [2, 6] [11] wo.heap.size z7 (fun _ => True), sQ 11 [7, 2, 0] [7, 2, 0, 6] [7] [] wo.heap.size z11 (fun _ => True)]
        refine wp_region_six7 (shs L) (look6 L) (None_) (by kernel_rfl) (by kernel_rfl) (mk_St L [] [] (by kernel_rfl) (by kernel_rfl) ⟨ok_Q ⟨undef, trivial⟩ (by simp), ok_Q ⟨undef, trivial⟩ (by simp), ok_L, ok_Q ⟨undef, trivial⟩ (by simp), ok_Q ⟨undef, trivial⟩ (by simp), trivial⟩ (by simp)) ?_
        intro QQ hQ
        -- 0: buildSlice<33> len 0 
        refine stepS _ rfl (by kernel_rfl) (fun K hK => ?_); go_simp
        refine ⟨?_, ?_⟩
        · intro wk hk hg hu; go_simp; exact left_Qc rfl rfl (hz0.out ▸ Ob_new0 wk) ((Below.refl _ _).alloc (Nat.le_refl _) _) hk.undrew.size trivial
        rintro ⟨v0, lo0, hi0⟩ - - -
        refine hK _ _ ?_; clear hK K
        -- 1: t0
        refine stepK rfl (by kernel_rfl) (fun K hK => ?_); go_simp
        apply Exists.intro; apply And.intro; (focus (intro wk hk; go_simp; exact ⟨rfl, rfl⟩)); refine hK _ _ ?_; clear hK K
        -- 2: call builtin append<33,33>(t20, t21)
        refine stepS _ rfl (by kernel_rfl) (fun K hK => ?_); go_simp
        refine ⟨?_, ?_⟩
        · intro wk hk hg hu; have u0 := hu 0 (show 0 ∈ [0] by decide); have o0 : OwnF 0 [] wo.heap.size (z0) _ wk := u0; have p0 : Ob wk wo.heap.size v0 (z0) := o0.1; have s9 := (hb.below hk.undrew.below); obtain ⟨v', w', hrun, ho2, hgb, hw⟩ := append_run p0 s9 (by have := hL.out; have := hz0l.out; omega) hk.undrew.size; rw [run_append_op rfl rfl rfl hrun]; exact left_Qa rfl rfl (by decide) o0.2 hgb (by rw [← hxs.out]; exact ho2) hw trivial
        rintro ⟨v2, lo2, hi2⟩ - - -
        refine hK _ _ ?_; clear hK K
        -- 3: t6
        refine stepK rfl (by kernel_rfl) (fun K hK => ?_); go_simp
        apply Exists.intro; apply And.intro; (focus (intro wk hk; go_simp; exact ⟨rfl, rfl⟩)); refine hK _ _ ?_; clear hK K
        -- 4: sub<3> 32, t23
        refine stepK rfl (by kernel_rfl) (fun K hK => ?_); go_simp
        apply Exists.intro; apply And.intro; (focus (intro wk hk; go_simp; exact ⟨rfl, rfl⟩)); refine hK _ _ ?_; clear hK K
        -- 5: convert<3->5> t24
        refine stepK rfl (by kernel_rfl) (fun K hK => ?_); go_simp
        apply Exists.intro; apply And.intro; (focus (intro wk hk; go_simp; exact ⟨rfl, rfl⟩)); refine hK _ _ ?_; clear hK K
        -- 6: buildSlice<33> len 1 0:t25
        refine stepS _ rfl (by kernel_rfl) (fun K hK => ?_); go_simp
        refine ⟨?_, ?_⟩
        · intro wk hk hg hu; go_simp; exact left_L rfl rfl
        rintro ⟨v6, lo6, hi6⟩ hlo6 hhi6 ⟨e6, f6⟩
        replace e6 : v6 = .slice (some ⟨lo6, 0, none⟩) 1 1 := e6; replace f6 : hi6 = lo6 + 1 := f6; replace hlo6 : _ ≤ lo6 := hlo6; subst e6; subst f6
        refine hK _ _ ?_; clear hK K
        -- 7: call builtin append<33,33>(t22, t26)
        refine stepS _ rfl (by kernel_rfl) (fun K hK => ?_); go_simp
        refine ⟨?_, ?_⟩
        · intro wk hk hg hu; have u2 := hu 2 (show 2 ∈ [2, 6] by decide); have u6 := hu 6 (show 6 ∈ [2, 6] by decide); have o2 : OwnF 2 [0] wo.heap.size (xs) _ wk := u2; have p2 : Ob wk wo.heap.size v2 (xs) := o2.1; have s9 := (Bs_row1 (show Row wk lo6 5 #[.int .u8 (n : Int)] from And.right (a := lo6 + 1 = lo6 + 1) u6)); obtain ⟨v', w', hrun, ho2, hgb, hw⟩ := append_run p2 s9 (by have := hL.out; have : ([(n : Int)] : List Int).length = 1 := rfl; omega) hk.undrew.size; rw [run_append_op rfl rfl rfl hrun]; exact left_Qa rfl rfl (by decide) o2.2 hgb (by rw [← hz7.out]; exact ho2) hw trivial
        rintro ⟨v7, lo7, hi7⟩ - - -
        refine hK _ _ ?_; clear hK K
        -- 8: t5
        refine stepK rfl (by kernel_rfl) (fun K hK => ?_); go_simp
        apply Exists.intro; apply And.intro; (focus (intro wk hk; go_simp; exact ⟨rfl, rfl⟩)); refine hK _ _ ?_; clear hK K
        -- 9: t6
        refine stepK rfl (by kernel_rfl) (fun K hK => ?_); go_simp
        apply Exists.intro; apply And.intro; (focus (intro wk hk; go_simp; exact ⟨rfl, rfl⟩)); refine hK _ _ ?_; clear hK K
        -- 10: slice<33> t28[t29::]
        refine stepK rfl (by kernel_rfl) (fun K hK => ?_); go_simp
        apply Exists.intro; apply And.intro; (focus (intro wk hk; go_simp; exact ⟨rfl, rfl⟩)); refine hK _ _ ?_; clear hK K
        -- 11: call builtin append<33,33>(t27, t30)
        refine stepS _ rfl (by kernel_rfl) (fun K hK => ?_); go_simp
        refine ⟨?_, ?_⟩
        · intro wk hk hg hu; have u7 := hu 7 (show 7 ∈ [7] by decide); have o7 : OwnF 7 [2, 0] wo.heap.size (z7) _ wk := u7; have p7 : Ob wk wo.heap.size v7 (z7) := o7.1; have s9 := (hn ▸ Bs_dropc (hX.below hk.undrew.below) hk33); obtain ⟨v', w', hrun, ho2, hgb, hw⟩ := append_run p7 s9 (by have := hz7l.out; have := hT9.out; omega) hk.undrew.size; rw [run_append_op rfl rfl rfl hrun]; exact left_Qa rfl rfl (by decide) o7.2 hgb (by rw [← hz11.out]; exact ho2) hw trivial
        rintro ⟨v11, lo11, hi11⟩ - - -
        refine hK _ _ ?_; clear hK K
        -- 12: assign t31
        refine stepK rfl (by kernel_rfl) (fun K hK => ?_); go_simp
        apply Exists.intro; apply And.intro; (focus (intro wk hk; go_simp; exact ⟨rfl, rfl⟩)); refine hK _ _ ?_; clear hK K
        refine stepN ?_
        refine hQ _ _ ?_
        intro w3 hT hG hF
        have hb3 := hT.undrew.below
        have o9 : OwnF 11 [7, 2, 0] wo.heap.size z11 _ w3 := hF 11 _ rfl rfl (by decide)
        have H := Lib.hid (show _ ∧ _ from ⟨(show Ob w3 wo.heap.size v11 z11 from o9.1).base hl.size, hl.trans (hb3.mono hl.size)⟩)
        clear hT hG hF hb3 hQ QQ L o9 hl hb
        go_wp2_with fail
        go_ret
        exact ⟨_, rfl, by rw [← hfin.out]; exact H.out.1, H.out.2⟩
    · obtain rfl : k = 32 := by omega
      have hlt : ¬ ((32 : Nat) : Int) < 32 := by omega
      have hnb := nby_zero hak
      have hfin0 := Lib.hid (HF.out 0 32 hnb (by omega))
      have hT9 := Lib.hid (show ((BL32 a).drop 32).length ≤ 32 by rw [List.length_drop, BL32_len]; omega)
      have g6 : (32 : Int) ≤ (c1 : Int) := by omega
      clear hak hnb HF hk32
      by_cases hc32 : c1 = 32
      · subst hc32
        obtain ⟨z7, hz7e⟩ : ∃ z, xs ++ [((0 : Nat) : Int)] = z := ⟨_, rfl⟩
        have hz7l := Lib.hid (show z7.length ≤ 100000001 by rw [← hz7e, List.length_append]; have := hL.out; have : ([((0 : Nat) : Int)] : List Int).length = 1 := rfl; omega)
        have hz7 := Lib.hid hz7e
        obtain ⟨z11, hz11e⟩ : ∃ z, z7 ++ ((BL32 a).drop 32) = z := ⟨_, rfl⟩
        have hfin := Lib.hid (show z11 = xs ++ amtL a by rw [← hz11e, ← hz7e]; exact hfin0.out)
        have hz11 := Lib.hid hz11e
        clear hz7e hz11e hfin0
        go_upto_region 5 with (fail)
        obtain ⟨hl, hb, hX⟩ := H0.out
        refine wp_abs (fun wx => Below w.heap.size w wx ∧ Bs wx u xs ∧ Bs wx (.slice (some ⟨g1, 0, none⟩) 32 32) (BL32 a)) ⟨hl, hb, hX⟩ ?_
        clear hl hb hX H0
        rintro wo ⟨hl, hb, hX⟩
        let L : List Sp := [sQ 0 [] [] [] [2, 7, 11] wo.heap.size z0 (fun _ => True), sQ 2 [0] [0] [0] [7, 11] wo.heap.size xs (fun _ => True), sL 6 5 [] 1 #[.int .u8 ((0 : Nat) : Int)], sQ 7 [2, 0] [2, 0, 6] [2, 6] [11] wo.heap.size z7 (fun _ => True), sQ 11 [7, 2, 0] [7, 2, 0, 6] [7] [] wo.heap.size z11 (fun _ => True)]
        refine wp_region_six7 (shs L) (look6 L) (None_) (by kernel_rfl) (by kernel_rfl) (mk_St L [] [] (by kernel_rfl) (by kernel_rfl) ⟨ok_Q ⟨undef, trivial⟩ (by simp), ok_Q ⟨undef, trivial⟩ (by simp), ok_L, ok_Q ⟨undef, trivial⟩ (by simp), ok_Q ⟨undef, trivial⟩ (by simp), trivial⟩ (by simp)) ?_
        intro QQ hQ
        -- 0: buildSlice<33> len 0 
        refine stepS _ rfl (by kernel_rfl) (fun K hK => ?_); go_simp
        refine ⟨?_, ?_⟩
        · intro wk hk hg hu; go_simp; exact left_Qc rfl rfl (hz0.out ▸ Ob_new0 wk) ((Below.refl _ _).alloc (Nat.le_refl _) _) hk.undrew.size trivial
        rintro ⟨v0, lo0, hi0⟩ - - -
        refine hK _ _ ?_; clear hK K
        -- 1: t0
        refine stepK rfl (by kernel_rfl) (fun K hK => ?_); go_simp
        apply Exists.intro; apply And.intro; (focus (intro wk hk; go_simp; exact ⟨rfl, rfl⟩)); refine hK _ _ ?_; clear hK K
        -- 2: call builtin append<33,33>(t20, t21)
        refine stepS _ rfl (by kernel_rfl) (fun K hK => ?_); go_simp
        refine ⟨?_, ?_⟩
        · intro wk hk hg hu; have u0 := hu 0 (show 0 ∈ [0] by decide); have o0 : OwnF 0 [] wo.heap.size (z0) _ wk := u0; have p0 : Ob wk wo.heap.size v0 (z0) := o0.1; have s9 := (hb.below hk.undrew.below); obtain ⟨v', w', hrun, ho2, hgb, hw⟩ := append_run p0 s9 (by have := hL.out; have := hz0l.out; omega) hk.undrew.size; rw [run_append_op rfl rfl rfl hrun]; exact left_Qa rfl rfl (by decide) o0.2 hgb (by rw [← hxs.out]; exact ho2) hw trivial
        rintro ⟨v2, lo2, hi2⟩ - - -
        refine hK _ _ ?_; clear hK K
        -- 3: t6
        refine stepK rfl (by kernel_rfl) (fun K hK => ?_); go_simp
        apply Exists.intro; apply And.intro; (focus (intro wk hk; go_simp; exact ⟨rfl, rfl⟩)); refine hK _ _ ?_; clear hK K
        -- 4: sub<3> 32, t23
        refine stepK rfl (by kernel_rfl) (fun K hK => ?_); go_simp
        apply Exists.intro; apply And.intro; (focus (intro wk hk; go_simp; exact ⟨rfl, rfl⟩)); refine hK _ _ ?_; clear hK K
        -- 5: convert<3->5> t24
        refine stepK rfl (by kernel_rfl) (fun K hK => ?_); go_simp
        apply Exists.intro; apply And.intro; (focus (intro wk hk; go_simp; exact ⟨rfl, rfl⟩)); refine hK _ _ ?_; clear hK K
        -- 6: buildSlice<33> len 1 0:t25
        refine stepS _ rfl (by kernel_rfl) (fun K hK => ?_); go_simp
        refine ⟨?_, ?_⟩
        · intro wk hk hg hu; go_simp; exact left_L rfl rfl
        rintro ⟨v6, lo6, hi6⟩ hlo6 hhi6 ⟨e6, f6⟩
        replace e6 : v6 = .slice (some ⟨lo6, 0, none⟩) 1 1 := e6; replace f6 : hi6 = lo6 + 1 := f6; replace hlo6 : _ ≤ lo6 := hlo6; subst e6; subst f6
        refine hK _ _ ?_; clear hK K
        -- 7: call builtin append<33,33>(t22, t26)
        refine stepS _ rfl (by kernel_rfl) (fun K hK => ?_); go_simp
        refine ⟨?_, ?_⟩
        · intro wk hk hg hu; have u2 := hu 2 (show 2 ∈ [2, 6] by decide); have u6 := hu 6 (show 6 ∈ [2, 6] by decide); have o2 : OwnF 2 [0] wo.heap.size (xs) _ wk := u2; have p2 : Ob wk wo.heap.size v2 (xs) := o2.1; have s9 := (Bs_row1 (show Row wk lo6 5 #[.int .u8 ((0 : Nat) : Int)] from And.right (a := lo6 + 1 = lo6 + 1) u6)); obtain ⟨v', w', hrun, ho2, hgb, hw⟩ := append_run p2 s9 (by have := hL.out; have : ([((0 : Nat) : Int)] : List Int).length = 1 := rfl; omega) hk.undrew.size; rw [run_append_op rfl rfl rfl hrun]; exact left_Qa rfl rfl (by decide) o2.2 hgb (by rw [← hz7.out]; exact ho2) hw trivial
        rintro ⟨v7, lo7, hi7⟩ - - -
        refine hK _ _ ?_; clear hK K
        -- 8: t5
        refine stepK rfl (by kernel_rfl) (fun K hK => ?_); go_simp
        apply Exists.intro; apply And.intro; (focus (intro wk hk; go_simp; exact ⟨rfl, rfl⟩)); refine hK _ _ ?_; clear hK K
        -- 9: t6
        refine stepK rfl (by kernel_rfl) (fun K hK => ?_); go_simp
        apply Exists.intro; apply And.intro; (focus (intro wk hk; go_simp; exact ⟨rfl, rfl⟩)); refine hK _ _ ?_; clear hK K
        -- 10: slice<33> t28[t29::]
        refine stepK rfl (by kernel_rfl) (fun K hK => ?_); go_simp
        apply Exists.intro; apply And.intro; (focus (intro wk hk; go_simp; exact ⟨rfl, rfl⟩)); refine hK _ _ ?_; clear hK K
        -- 11: call builtin append<33,33>(t27, t30)
        refine stepS _ rfl (by kernel_rfl) (fun K hK => ?_); go_simp
        refine ⟨?_, ?_⟩
        · intro wk hk hg hu; have u7 := hu 7 (show 7 ∈ [7] by decide); have o7 : OwnF 7 [2, 0] wo.heap.size (z7) _ wk := u7; have p7 : Ob wk wo.heap.size v7 (z7) := o7.1; have s9 := (show Bs wk (.slice (some ⟨g1, 0, none⟩) 0 0) ((BL32 a).drop 32) from by rw [List.drop_eq_nil_of_le (by rw [BL32_len]; exact Nat.le_refl _)]; exact ⟨_, _, rfl, (fun h => (by cases h)), fun p hp i u hi => by simp [bv] at hi⟩); obtain ⟨v', w', hrun, ho2, hgb, hw⟩ := append_run p7 s9 (by have := hz7l.out; have := hT9.out; omega) hk.undrew.size; rw [run_append_op rfl rfl rfl hrun]; exact left_Qa rfl rfl (by decide) o7.2 hgb (by rw [← hz11.out]; exact ho2) hw trivial
        rintro ⟨v11, lo11, hi11⟩ - - -
        refine hK _ _ ?_; clear hK K
        -- 12: assign t31
        refine stepK rfl (by kernel_rfl) (fun K hK => ?_); go_simp
        apply Exists.intro; apply And.intro; (focus (intro wk hk; go_simp; exact ⟨rfl, rfl⟩)); refine hK _ _ ?_; clear hK K
        refine stepN ?_
        refine hQ _ _ ?_
        intro w3 hT hG hF
        have hb3 := hT.undrew.below
        have o9 : OwnF 11 [7, 2, 0] wo.heap.size z11 _ w3 := hF 11 _ rfl rfl (by decide)
        have H := Lib.hid (show _ ∧ _ from ⟨(show Ob w3 wo.heap.size v11 z11 from o9.1).base hl.size, hl.trans (hb3.mono hl.size)⟩)
        clear hT hG hF hb3 hQ QQ L o9 hl hb
        go_wp2_with fail
        go_ret
        exact ⟨_, rfl, by rw [← hfin.out]; exact H.out.1, H.out.2⟩
      · skip
        obtain ⟨z7, hz7e⟩ : ∃ z, xs ++ [((0 : Nat) : Int)] = z := ⟨_, rfl⟩
        have hz7l := Lib.hid (show z7.length ≤ 100000001 by rw [← hz7e, List.length_append]; have := hL.out; have : ([((0 : Nat) : Int)] : List Int).length = 1 := rfl; omega)
        have hz7 := Lib.hid hz7e
        obtain ⟨z11, hz11e⟩ : ∃ z, z7 ++ ((BL32 a).drop 32) = z := ⟨_, rfl⟩
        have hfin := Lib.hid (show z11 = xs ++ amtL a by rw [← hz11e, ← hz7e]; exact hfin0.out)
        have hz11 := Lib.hid hz11e
        clear hz7e hz11e hfin0
        go_upto_region 5 with (fail)
        obtain ⟨hl, hb, hX⟩ := H0.out
        refine wp_abs (fun wx => Below w.heap.size w wx ∧ Bs wx u xs ∧ Bs wx (.slice (some ⟨g1, 0, none⟩) 32 c1) (BL32 a)) ⟨hl, hb, hX⟩ ?_
        clear hl hb hX H0
        rintro wo ⟨hl, hb, hX⟩
        let L : List Sp := [sQ 0 [] [] [] [2, 7, 11] wo.heap.size z0 (fun _ => True), sQ 2 [0] [0] [0] [7, 11] wo.heap.size xs (fun _ => True), sL 6 5 [] 1 #[.int .u8 ((0 : Nat) : Int)], sQ 7 [2, 0] [2, 0, 6] [2, 6] [11] wo.heap.size z7 (fun _ => True), sQ 11 [7, 2, 0] [7, 2, 0, 6] [7] [] wo.heap.size z11 (fun _ => True)]
        refine wp_region_six7 (shs L) (look6 L) (None_) (by kernel_rfl) (by kernel_rfl) (mk_St L [] [] (by kernel_rfl) (by kernel_rfl) ⟨ok_Q ⟨undef, trivial⟩ (by simp), ok_Q ⟨undef, trivial⟩ (by simp), ok_L, ok_Q ⟨undef, trivial⟩ (by simp), ok_Q ⟨undef, trivial⟩ (by simp), trivial⟩ (by simp)) ?_
        intro QQ hQ
        -- 0: buildSlice<33> len 0 
        refine stepS _ rfl (by kernel_rfl) (fun K hK => ?_); go_simp
        refine ⟨?_, ?_⟩
        · intro wk hk hg hu; go_simp; exact left_Qc rfl rfl (hz0.out ▸ Ob_new0 wk) ((Below.refl _ _).alloc (Nat.le_refl _) _) hk.undrew.size trivial
        rintro ⟨v0, lo0, hi0⟩ - - -
        refine hK _ _ ?_; clear hK K
        -- 1: t0
        refine stepK rfl (by kernel_rfl) (fun K hK => ?_); go_simp
        apply Exists.intro; apply And.intro; (focus (intro wk hk; go_simp; exact ⟨rfl, rfl⟩)); refine hK _ _ ?_; clear hK K
        -- 2: call builtin append<33,33>(t20, t21)
        refine stepS _ rfl (by kernel_rfl) (fun K hK => ?_); go_simp
        refine ⟨?_, ?_⟩
        · intro wk hk hg hu; have u0 := hu 0 (show 0 ∈ [0] by decide); have o0 : OwnF 0 [] wo.heap.size (z0) _ wk := u0; have p0 : Ob wk wo.heap.size v0 (z0) := o0.1; have s9 := (hb.below hk.undrew.below); obtain ⟨v', w', hrun, ho2, hgb, hw⟩ := append_run p0 s9 (by have := hL.out; have := hz0l.out; omega) hk.undrew.size; rw [run_append_op rfl rfl rfl hrun]; exact left_Qa rfl rfl (by decide) o0.2 hgb (by rw [← hxs.out]; exact ho2) hw trivial
        rintro ⟨v2, lo2, hi2⟩ - - -
        refine hK _ _ ?_; clear hK K
        -- 3: t6
        refine stepK rfl (by kernel_rfl) (fun K hK => ?_); go_simp
        apply Exists.intro; apply And.intro; (focus (intro wk hk; go_simp; exact ⟨rfl, rfl⟩)); refine hK _ _ ?_; clear hK K
        -- 4: sub<3> 32, t23
        refine stepK rfl (by kernel_rfl) (fun K hK => ?_); go_simp
        apply Exists.intro; apply And.intro; (focus (intro wk hk; go_simp; exact ⟨rfl, rfl⟩)); refine hK _ _ ?_; clear hK K
        -- 5: convert<3->5> t24
        refine stepK rfl (by kernel_rfl) (fun K hK => ?_); go_simp
        apply Exists.intro; apply And.intro; (focus (intro wk hk; go_simp; exact ⟨rfl, rfl⟩)); refine hK _ _ ?_; clear hK K
        -- 6: buildSlice<33> len 1 0:t25
        refine stepS _ rfl (by kernel_rfl) (fun K hK => ?_); go_simp
        refine ⟨?_, ?_⟩
        · intro wk hk hg hu; go_simp; exact left_L rfl rfl
        rintro ⟨v6, lo6, hi6⟩ hlo6 hhi6 ⟨e6, f6⟩
        replace e6 : v6 = .slice (some ⟨lo6, 0, none⟩) 1 1 := e6; replace f6 : hi6 = lo6 + 1 := f6; replace hlo6 : _ ≤ lo6 := hlo6; subst e6; subst f6
        refine hK _ _ ?_; clear hK K
        -- 7: call builtin append<33,33>(t22, t26)
        refine stepS _ rfl (by kernel_rfl) (fun K hK => ?_); go_simp
        refine ⟨?_, ?_⟩
        · intro wk hk hg hu; have u2 := hu 2 (show 2 ∈ [2, 6] by decide); have u6 := hu 6 (show 6 ∈ [2, 6] by decide); have o2 : OwnF 2 [0] wo.heap.size (xs) _ wk := u2; have p2 : Ob wk wo.heap.size v2 (xs) := o2.1; have s9 := (Bs_row1 (show Row wk lo6 5 #[.int .u8 ((0 : Nat) : Int)] from And.right (a := lo6 + 1 = lo6 + 1) u6)); obtain ⟨v', w', hrun, ho2, hgb, hw⟩ := append_run p2 s9 (by have := hL.out; have : ([((0 : Nat) : Int)] : List Int).length = 1 := rfl; omega) hk.undrew.size; rw [run_append_op rfl rfl rfl hrun]; exact left_Qa rfl rfl (by decide) o2.2 hgb (by rw [← hz7.out]; exact ho2) hw trivial
        rintro ⟨v7, lo7, hi7⟩ - - -
        refine hK _ _ ?_; clear hK K
        -- 8: t5
        refine stepK rfl (by kernel_rfl) (fun K hK => ?_); go_simp
        apply Exists.intro; apply And.intro; (focus (intro wk hk; go_simp; exact ⟨rfl, rfl⟩)); refine hK _ _ ?_; clear hK K
        -- 9: t6
        refine stepK rfl (by kernel_rfl) (fun K hK => ?_); go_simp
        apply Exists.intro; apply And.intro; (focus (intro wk hk; go_simp; exact ⟨rfl, rfl⟩)); refine hK _ _ ?_; clear hK K
        -- 10: slice<33> t28[t29::]
        refine stepK rfl (by kernel_rfl) (fun K hK => ?_); go_simp
        apply Exists.intro; apply And.intro; (focus (intro wk hk; go_simp; exact ⟨rfl, rfl⟩)); refine hK _ _ ?_; clear hK K
        -- 11: call builtin append<33,33>(t27, t30)
        refine stepS _ rfl (by kernel_rfl) (fun K hK => ?_); go_simp
        refine ⟨?_, ?_⟩
        · intro wk hk hg hu; have u7 := hu 7 (show 7 ∈ [7] by decide); have o7 : OwnF 7 [2, 0] wo.heap.size (z7) _ wk := u7; have p7 : Ob wk wo.heap.size v7 (z7) := o7.1; have s9 := (Bs_dropc (hX.below hk.undrew.below) (Nat.le_refl _)); obtain ⟨v', w', hrun, ho2, hgb, hw⟩ := append_run p7 s9 (by have := hz7l.out; have := hT9.out; omega) hk.undrew.size; rw [run_append_op rfl rfl rfl hrun]; exact left_Qa rfl rfl (by decide) o7.2 hgb (by rw [← hz11.out]; exact ho2) hw trivial
        rintro ⟨v11, lo11, hi11⟩ - - -
        refine hK _ _ ?_; clear hK K
        -- 12: assign t31
        refine stepK rfl (by kernel_rfl) (fun K hK => ?_); go_simp
        apply Exists.intro; apply And.intro; (focus (intro wk hk; go_simp; exact ⟨rfl, rfl⟩)); refine hK _ _ ?_; clear hK K
        refine stepN ?_
        refine hQ _ _ ?_
        intro w3 hT hG hF
        have hb3 := hT.undrew.below
        have o9 : OwnF 11 [7, 2, 0] wo.heap.size z11 _ w3 := hF 11 _ rfl rfl (by decide)
        have H := Lib.hid (show _ ∧ _ from ⟨(show Ob w3 wo.heap.size v11 z11 from o9.1).base hl.size, hl.trans (hb3.mono hl.size)⟩)
        clear hT hG hF hb3 hQ QQ L o9 hl hb
        go_wp2_with fail
        go_ret
        exact ⟨_, rfl, by rw [← hfin.out]; exact H.out.1, H.out.2⟩
end Go.Proofs.Ytpdenhmkpiafiaa
