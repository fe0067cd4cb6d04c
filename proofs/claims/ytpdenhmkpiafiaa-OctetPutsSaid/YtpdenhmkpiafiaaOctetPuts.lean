/-
  tallagelaw04.OctetPuts: WHATEVER THE BYTES, THE NUMBER AND THE AMOUNT: it returns true, and they stay as they were. The walk is in the text OctPutsW; here is the step of the row.
-/
import Derived.Test.YtpdenhmkpiafiaaFrame
import Derived.Test.YtpdenhmkpiafiaaOctK
import Derived.ChangeSlices
import Derived.Test.YtpdenhmkpiafiaaOctAmt
import Derived.Test.YtpdenhmkpiafiaaOctK7
import Derived.Test.YtpdenhmkpiafiaaRefForm2
import Derived.Test.YtpdenhmkpiafiaaOctLives
import Derived.Lib.AppendStr
import Derived.Lib.JoinLaws
import Derived.Test.YtpdenhmkpiafiaaRows
import Derived.WalkKit
import Derived.ProofKit
import Derived.OpenShut
import Derived.Test.YtpdenhmkpiafiaaHead
namespace Go.Proofs.Ytpdenhmkpiafiaa
open Go.ChangeShapes Go.WideShapes Go.ChangeAt Go.RowKit

theorem int_hi {m : Int} (h : (Lit.int .i64 m).wf = true) : m < 9223372036854775808 := by
  have h1 : IntKind.i64.min = -9223372036854775808 := by decide
  have h2 : IntKind.i64.max = 9223372036854775807 := by decide
  simp [Lit.wf, h1, h2] at h
  omega
theorem int_lo {m : Int} (h : (Lit.int .i64 m).wf = true) : -9223372036854775808 ≤ m := by
  have h1 : IntKind.i64.min = -9223372036854775808 := by decide
  have h2 : IntKind.i64.max = 9223372036854775807 := by decide
  simp [Lit.wf, h1, h2] at h
  omega
theorem cells5' : Try.prog.cellsOf 5 = 1 := by kernel_rfl
theorem bounds8' {x : Int} (h : (Lit.int .u8 x).wf = true) : 0 ≤ x ∧ x < 256 := by
  have h1 : IntKind.u8.min = 0 := by decide
  have h2 : IntKind.u8.max = 255 := by decide
  simp [Lit.wf, h1, h2] at h
  omega
set_option maxRecDepth 100000 in
theorem open_S {H : Type} {enc : TypeId × Value → H} {W : World} {base b0 : Nat} {r : Reach} {held : Bool} {v : Value} {d : DataW H} {p : List MemPlace}
    (hval : Value.okWide Try.prog W r b0 33 v) (h : DataW.Trod enc Try.prog W base (fun _ => true) held 33 v d p) :
    ∃ (q : Option Addr) (c : Nat) (xs : List Int), v = .slice q xs.length c ∧ Bs W v xs ∧ (∀ x ∈ xs, 0 ≤ x ∧ x < 256) := by
  obtain ⟨q, n, c, rfl⟩ := okWide_slice Try.underlying33 hval
  obtain ⟨fuel, hf⟩ := h
  rcases open_ints Try.underlying33 Try.underlying5 cells5' hf with ⟨hc, hx⟩ | ⟨a, len, cap, zs, hc, _, hle, hmax, hlen, hx, hcell, hwf⟩
  · simp [Value.cells] at hc
    obtain ⟨rfl, rfl, rfl⟩ := hc
    exact ⟨none, 0, [], rfl, Bs.nil W, fun x hx => (by cases hx)⟩
  · simp [Value.cells] at hc
    obtain ⟨rfl, rfl, rfl⟩ := hc
    have hl2 : zs.length = c := by simpa using hlen
    have e : (zs.take n).length = n := by rw [List.length_take]; omega
    refine ⟨some a, c, zs.take n, by rw [e], ⟨some a, c, by rw [e], (fun h => (by cases h)), fun p hp j u hj => ?_⟩, fun x hx => bounds8' (hwf x (List.mem_of_mem_take hx))⟩
    cases hp
    unfold bv at hj
    rw [List.getElem?_map, List.getElem?_take] at hj
    split at hj
    · rename_i hjn
      have hjl : j < zs.length := by omega
      rw [List.getElem?_eq_getElem hjl] at hj
      cases hj
      rw [hcell j hjl, List.getD_eq_getElem?_getD, List.getElem?_eq_getElem hjl]
      rfl
    · cases hj
end Go.Proofs.Ytpdenhmkpiafiaa
namespace Go.Proofs.Ytpdenhmkpiafiaa
open Go Go.RowKit K6

theorem Ob_new0 (w : World) : Ob (w.alloc (.cells #[] 5)) w.heap.size (.slice (some ⟨w.heap.size, 0, none⟩) 0 0) [] := ⟨rfl, .inr ⟨w.heap.size, 0, #[], rfl, Nat.le_refl _, Row.new_at (t := 5) (cs := #[]) rfl, Nat.le_refl _, Nat.zero_le _, rfl, rfl⟩⟩
theorem Bs_row {w : World} {b t n : Nat} {ys : List Int} (h : Row w b t (bv ys).toArray) (hn : ys.length = n) : Bs w (.slice (some ⟨b, 0, none⟩) n n) ys := by
  subst hn
  refine ⟨_, _, rfl, (fun h => (by cases h)), fun a ha j u hj => ?_⟩
  cases ha
  rw [add_at, Nat.zero_add, h.cell]
  simpa using hj
set_option maxRecDepth 100000 in
set_option maxHeartbeats 8000000 in
theorem hash_put (u : Value) (xs hs : List Int) (w : World) (h : Bs w u xs) (hL0 : xs.length ≤ 10000000) (hh : hs.length = 32) :
    Calls Try.prog 42 #[u, .agg (bv hs).toArray] w fun e w' => ∃ v, e = .returned v ∧ Ob w' w.heap.size v (xs ++ hs) ∧ Below w.heap.size w w' := by
  have hL := Lib.hid (show xs.length ≤ 100000000 by omega)
  have hH := Lib.hid hh
  obtain ⟨z3, hz3e⟩ : ∃ z, xs ++ hs = z := ⟨_, rfl⟩
  have hz3 := Lib.hid hz3e
  have hfin := Lib.hid hz3e.symm
  clear hz3e
  have hb0 := h
  clear h hL0 hh
  go_enter Try.func42, Try.ntmps42
  apply wp_seq_eq
  focus
    intro J hJ
    go_wp2_with fail
    exact hJ
  refine wp_abs (Mem w [(w.heap.size, 35, (bv hs).toArray)]) ⟨by go_grown, Row.new_at rfl, trivial⟩ ?_
  intro w0 hM
  obtain ⟨hl, rh, -⟩ := hM
  have hb := hb0.below hl
  clear hb0
  go_upto_region 1 with (fail)
  let L : List Sp := [sQ 1 [] [] [] [3] w0.heap.size xs (fun _ => True), sQ 3 [1] [1] [1] [] w0.heap.size z3 (fun _ => True)]
  refine wp_region_six7 (shs L) (look6 L) (None_) (by kernel_rfl) (by kernel_rfl) (mk_St L [] [] (by kernel_rfl) (by kernel_rfl) ⟨ok_Q ⟨undef, trivial⟩ (by simp), ok_Q ⟨undef, trivial⟩ (by simp), trivial⟩ (by simp)) ?_
  intro QQ hQ
  -- 0: t0
  refine stepK rfl (by kernel_rfl) (fun K hK => ?_); go_simp
  apply Exists.intro; apply And.intro; (focus (intro wk hk; go_simp; exact ⟨rfl, rfl⟩)); refine hK _ _ ?_; clear hK K
  -- 1: call F157(t5)
  refine stepS _ rfl (by kernel_rfl) (fun K hK => ?_); go_simp
  refine ⟨?_, ?_⟩
  · intro wk hk hg hu; have hb9 := hb.below hk.undrew.below; go_simp; refine upon_enter ((clone_any u xs wk hb9 hL.out).mono ?_); rintro e w' ⟨v, rfl, ho, hbb⟩; exact ⟨_, rfl, left_Qc rfl rfl ho hbb hk.undrew.size trivial⟩
  rintro ⟨v1, lo1, hi1⟩ - - -
  refine hK _ _ ?_; clear hK K
  -- 2: slice<35> t3[::]
  refine stepK rfl (by kernel_rfl) (fun K hK => ?_); go_simp
  apply Exists.intro; apply And.intro; (focus (intro wk hk; go_simp; exact ⟨rfl, rfl⟩)); refine hK _ _ ?_; clear hK K
  -- 3: call builtin append<33,33>(t6, t7)
  refine stepS _ rfl (by kernel_rfl) (fun K hK => ?_); go_simp
  refine ⟨?_, ?_⟩
  · intro wk hk hg hu; have u1 := hu 1 (show 1 ∈ [1] by decide); have o1 : OwnF 1 [] w0.heap.size (xs) _ wk := u1; have p1 : Ob wk w0.heap.size v1 (xs) := o1.1; have s9 := (Bs_row (K6.Row.tr rh hk.undrew id) hH.out); obtain ⟨v', w', hrun, ho2, hgb, hw⟩ := append_run p1 s9 (by have := hL.out; have := hH.out; omega) hk.undrew.size; rw [run_append_op rfl rfl rfl hrun]; exact left_Qa rfl rfl (by decide) o1.2 hgb (by rw [← hz3.out]; exact ho2) hw trivial
  rintro ⟨v3, lo3, hi3⟩ - - -
  refine hK _ _ ?_; clear hK K
  -- 4: assign t8
  refine stepK rfl (by kernel_rfl) (fun K hK => ?_); go_simp
  apply Exists.intro; apply And.intro; (focus (intro wk hk; go_simp; exact ⟨rfl, rfl⟩)); refine hK _ _ ?_; clear hK K
  refine stepN ?_
  refine hQ _ _ ?_
  intro w3 hT hG hF
  have hb3 := hT.undrew.below
  have o9 : OwnF 3 [1] w0.heap.size z3 _ w3 := hF 3 _ rfl rfl (by decide)
  have H := Lib.hid (show _ ∧ _ from ⟨(show Ob w3 w0.heap.size v3 z3 from o9.1).base hl.size, hl.trans (hb3.mono hl.size)⟩)
  clear hT hG hF hb3 hQ QQ L o9 hl hb
  go_wp2_with fail
  go_ret
  exact ⟨_, rfl, by rw [← hfin.out]; exact H.out.1, H.out.2⟩
set_option maxRecDepth 100000 in
set_option maxHeartbeats 8000000 in
theorem refhash_put (u : Value) (xs hs : List Int) (w : World) (h : Bs w u xs) (hL0 : xs.length ≤ 10000000) (hh : hs.length = 32) :
    Calls Try.prog 43 #[u, .agg (bv hs).toArray] w fun e w' => ∃ v, e = .returned v ∧ Ob w' w.heap.size v (xs ++ hs) ∧ Below w.heap.size w w' := by
  have hL := Lib.hid (show xs.length ≤ 100000000 by omega)
  have hH := Lib.hid hh
  obtain ⟨z0, hz0e⟩ : ∃ z, ([] : List Int) = z := ⟨_, rfl⟩
  have hz2e : z0 ++ xs = xs := by rw [← hz0e]; rfl
  have hz0l := Lib.hid (show z0.length = 0 by rw [← hz0e]; rfl)
  have hz0 := Lib.hid hz0e
  have hxs := Lib.hid hz2e
  obtain ⟨z4, hz4e⟩ : ∃ z, xs ++ hs = z := ⟨_, rfl⟩
  have hz4 := Lib.hid hz4e
  have hfin := Lib.hid hz4e.symm
  clear hz4e hz0e hz2e
  have hb0 := h
  clear h hL0 hh
  go_enter Try.func43, Try.ntmps43
  apply wp_seq_eq
  focus
    intro J hJ
    go_wp2_with fail
    exact hJ
  refine wp_abs (Mem w [(w.heap.size, 35, (bv hs).toArray)]) ⟨by go_grown, Row.new_at rfl, trivial⟩ ?_
  intro w0 hM
  obtain ⟨hl, rh, -⟩ := hM
  have hb := hb0.below hl
  clear hb0
  go_upto_region 1 with (fail)
  let L : List Sp := [sQ 0 [] [] [] [2, 4] w0.heap.size z0 (fun _ => True), sQ 2 [0] [0] [0] [4] w0.heap.size xs (fun _ => True), sQ 4 [2, 0] [2, 0] [2] [] w0.heap.size z4 (fun _ => True)]
  refine wp_region_six7 (shs L) (look6 L) (None_) (by kernel_rfl) (by kernel_rfl) (mk_St L [] [] (by kernel_rfl) (by kernel_rfl) ⟨ok_Q ⟨undef, trivial⟩ (by simp), ok_Q ⟨undef, trivial⟩ (by simp), ok_Q ⟨undef, trivial⟩ (by simp), trivial⟩ (by simp)) ?_
  intro QQ hQ
  -- 0: buildSlice<33> len 0 
  refine stepS _ rfl (by kernel_rfl) (fun K hK => ?_); go_simp
  refine ⟨?_, ?_⟩
  · intro wk hk hg hu; go_simp; exact left_Qc rfl rfl (hz0.out ▸ Ob_new0 wk) ((Below.refl _ _).alloc (Nat.le_refl _) _) hk.undrew.size trivial
  rintro ⟨v0, lo0, hi0⟩ - - -
  refine hK _ _ ?_; clear hK K
  -- 1: t0
  refine stepK rfl (by kernel_rfl) (fun K hK => ?_); go_simp
  apply Exists.intro; apply And.intro; (focus (intro wk hk; go_simp; exact ⟨rfl, rfl⟩)); refine hK _ _ ?_; clear hK K
  -- 2: call builtin append<33,33>(t5, t6)
  refine stepS _ rfl (by kernel_rfl) (fun K hK => ?_); go_simp
  refine ⟨?_, ?_⟩
  · intro wk hk hg hu; have u0 := hu 0 (show 0 ∈ [0] by decide); have o0 : OwnF 0 [] w0.heap.size (z0) _ wk := u0; have p0 : Ob wk w0.heap.size v0 (z0) := o0.1; have s9 := (hb.below hk.undrew.below); obtain ⟨v', w', hrun, ho2, hgb, hw⟩ := append_run p0 s9 (by have := hL.out; have := hz0l.out; omega) hk.undrew.size; rw [run_append_op rfl rfl rfl hrun]; exact left_Qa rfl rfl (by decide) o0.2 hgb (by rw [← hxs.out]; exact ho2) hw trivial
  rintro ⟨v2, lo2, hi2⟩ - - -
  refine hK _ _ ?_; clear hK K
  -- 3: slice<35> t3[::]
  refine stepK rfl (by kernel_rfl) (fun K hK => ?_); go_simp
  apply Exists.intro; apply And.intro; (focus (intro wk hk; go_simp; exact ⟨rfl, rfl⟩)); refine hK _ _ ?_; clear hK K
  -- 4: call builtin append<33,33>(t7, t8)
  refine stepS _ rfl (by kernel_rfl) (fun K hK => ?_); go_simp
  refine ⟨?_, ?_⟩
  · intro wk hk hg hu; have u2 := hu 2 (show 2 ∈ [2] by decide); have o2 : OwnF 2 [0] w0.heap.size (xs) _ wk := u2; have p2 : Ob wk w0.heap.size v2 (xs) := o2.1; have s9 := (Bs_row (K6.Row.tr rh hk.undrew id) hH.out); obtain ⟨v', w', hrun, ho2, hgb, hw⟩ := append_run p2 s9 (by have := hL.out; have := hH.out; omega) hk.undrew.size; rw [run_append_op rfl rfl rfl hrun]; exact left_Qa rfl rfl (by decide) o2.2 hgb (by rw [← hz4.out]; exact ho2) hw trivial
  rintro ⟨v4, lo4, hi4⟩ - - -
  refine hK _ _ ?_; clear hK K
  -- 5: assign t9
  refine stepK rfl (by kernel_rfl) (fun K hK => ?_); go_simp
  apply Exists.intro; apply And.intro; (focus (intro wk hk; go_simp; exact ⟨rfl, rfl⟩)); refine hK _ _ ?_; clear hK K
  refine stepN ?_
  refine hQ _ _ ?_
  intro w3 hT hG hF
  have hb3 := hT.undrew.below
  have o9 : OwnF 4 [2, 0] w0.heap.size z4 _ w3 := hF 4 _ rfl rfl (by decide)
  have H := Lib.hid (show _ ∧ _ from ⟨(show Ob w3 w0.heap.size v4 z4 from o9.1).base hl.size, hl.trans (hb3.mono hl.size)⟩)
  clear hT hG hF hb3 hQ QQ L o9 hl hb
  go_wp2_with fail
  go_ret
  exact ⟨_, rfl, by rw [← hfin.out]; exact H.out.1, H.out.2⟩
/-! ### the document's Amount -/
theorem nby_of {a k : Nat} (hk : k < 32) (h1 : a < 2 ^ (8 * (32 - k))) (h2 : byN a (31 - k) ≠ 0) : nby a = 32 - k := by
  have h3 : blen a ≤ 8 * (32 - k) := blen_le h1
  have h4 : 8 * (31 - k) < blen a := by
    rcases Nat.lt_or_ge (8 * (31 - k)) (blen a) with h | h
    · exact h
    · exfalso
      have h5 : a < 2 ^ (8 * (31 - k)) := Nat.lt_of_lt_of_le (lt_blen a) (Nat.pow_le_pow_right (by decide) h)
      apply h2
      unfold byN
      rw [Nat.div_eq_of_lt h5]
  unfold nby
  omega
theorem nby_zero {a : Nat} (h : a < 2 ^ (8 * (32 - 32))) : nby a = 0 := by
  have : a = 0 := by simpa using h
  subst this
  rfl
theorem byte_zero {a k : Nat} (hk : k < 32) (h1 : a < 2 ^ (8 * (32 - k))) (h2 : byN a (31 - k) = 0) : a < 2 ^ (8 * (32 - (k + 1))) := by
  have e : 8 * (32 - k) = 8 * (31 - k) + 8 := by omega
  rw [e, Nat.pow_add] at h1
  rw [show 32 - (k + 1) = 31 - k by omega]
  have h3 : a / 2 ^ (8 * (31 - k)) < 2 ^ 8 := by rw [Nat.div_lt_iff_lt_mul (Nat.pow_pos (by decide)), Nat.mul_comm]; exact h1
  unfold byN at h2
  have h4 : a / 2 ^ (8 * (31 - k)) = 0 := by
    obtain ⟨q, hq⟩ : ∃ q, a / 2 ^ (8 * (31 - k)) = q := ⟨_, rfl⟩
    rw [hq] at h2 h3 ⊢
    omega
  rcases Nat.lt_or_ge a (2 ^ (8 * (31 - k))) with h | h
  · exact h
  · have := Nat.div_pos h (Nat.pow_pos (by decide)); omega
def SX (x : GV) : Prop := ∃ g c, 32 ≤ c ∧ x.v = .slice (some ⟨g, 0, none⟩) 32 c
theorem sx_some {w : World} : ∃ x : GV, w.heap.size ≤ x.lo ∧ x.lo ≤ x.hi ∧ SX x := ⟨⟨.slice (some ⟨0, 0, none⟩) 32 32, w.heap.size, w.heap.size⟩, Nat.le_refl _, Nat.le_refl _, 0, 32, Nat.le_refl _, rfl⟩
theorem bs100 {a : Nat} (ha : a < M) (w : World) : Calls Try.prog 100 #[.agg (W4 a)] w fun e w' => ∃ g c, e = .returned (.slice (some ⟨g, 0, none⟩) 32 c) ∧ 32 ≤ c ∧ Bs w' (.slice (some ⟨g, 0, none⟩) 32 c) (BL32 a) ∧ Below w.heap.size w w' := by
  refine (refBytes_any a ha w).mono ?_
  rintro e w' ⟨v, rfl, h, hb⟩
  have ho : Ob w' (w.heap.size + 1) v (BL32 a) := by
    unfold Ob
    rw [BL32_len]
    exact h
  rcases h.2 with ⟨rfl, h0⟩ | ⟨g, cap, cur, rfl, h1, h2, h3, -⟩
  · exact absurd h0 (by decide)
  · exact ⟨g, cap, rfl, h3, ho.bs, hb⟩
theorem Bs_dropc {w : World} {g j c : Nat} {ys : List Int} (h : Bs w (.slice (some ⟨g, 0, none⟩) 32 c) ys) (_hj : j ≤ 32) : Bs w (.slice (some ⟨g, j, none⟩) (32 - j) (c - j)) (ys.drop j) := by
  obtain ⟨q, c', e, h0, h1⟩ := h
  obtain ⟨e1, e2⟩ : q = some ⟨g, 0, none⟩ ∧ ys.length = 32 := by injection e with e1 e2 e3; exact ⟨e1.symm, e2.symm⟩
  refine ⟨some ⟨g, j, none⟩, c - j, by rw [List.length_drop, e2], (fun h => (by cases h)), fun p hp i u hi => ?_⟩
  cases hp
  rw [add_off, ← Nat.zero_add (j + i), ← add_off]
  refine h1 _ e1 (j + i) u ?_
  rw [← hi]
  unfold bv
  rw [List.getElem?_map, List.getElem?_map, List.getElem?_drop]
theorem Bs_cell {w : World} {g c i a : Nat} (h : Bs w (.slice (some ⟨g, 0, none⟩) 32 c) (BL32 a)) (hi : i < 32) : w.cell? ⟨g, i, none⟩ = some (.int .u8 ((byN a (31 - i) : Nat) : Int)) := by
  obtain ⟨q, c', e, h0, h1⟩ := h
  obtain e1 : q = some ⟨g, 0, none⟩ := by injection e with e1 e2 e3; exact e1.symm
  have := h1 _ e1 i (.int .u8 ((byN a (31 - i) : Nat) : Int)) (by unfold bv BL32; rw [List.map_map, List.getElem?_map, List.getElem?_range hi]; rfl)
  rw [add_at, Nat.zero_add] at this
  exact this
set_option maxRecDepth 100000 in
set_option maxHeartbeats 16000000 in
theorem refamt_any (u : Value) (xs : List Int) (a : Nat) (w : World) (h : Bs w u xs) (hL0 : xs.length ≤ 10000000) (ha : a < M) :
    Calls Try.prog 41 #[u, .agg (W4 a)] w fun e w' => ∃ v, e = .returned v ∧ Ob w' w.heap.size v (xs ++ amtL a) ∧ Below w.heap.size w w' := by
  have hL := Lib.hid (show xs.length ≤ 100000000 by omega)
  have k100 := Lib.hid fun wx => bs100 ha wx
  have hfin0 : ∀ n k : Nat, nby a = n → 32 - n = k → (xs ++ [(n : Int)]) ++ (BL32 a).drop k = xs ++ amtL a := fun n k e1 e2 => by
    subst e1; subst e2
    unfold amtL
    rw [List.append_assoc]; rfl
  obtain ⟨z0, hz0e⟩ : ∃ z, ([] : List Int) = z := ⟨_, rfl⟩
  have hz2e : z0 ++ xs = xs := by rw [← hz0e]; rfl
  have hz0l := Lib.hid (show z0.length = 0 by rw [← hz0e]; rfl)
  have hz0 := Lib.hid hz0e
  have hxs := Lib.hid hz2e
  clear hz0e hz2e
  have HA := Lib.hid (show a < 2 ^ (8 * (32 - 0)) from ha)
  have hb0 := h
  clear h hL0 ha
  go_enter Try.func41, Try.ntmps41
  apply wp_seq_eq
  focus
    intro J hJ
    go_wp2_with fail
    exact hJ
  refine wp_abs (Mem w [(w.heap.size, 31, W4 a)]) ⟨by go_grown, ?_, trivial⟩ ?_
  · repeat (first | (refine Row.new_at ?_; simp; done) | refine Row.alloc ?_ _)
  intro w0 hM
  obtain ⟨hl, ra, -⟩ := hM
  go_upto_region 1 with (fail)
  have hb := hb0.below hl
  clear hb0
  let L : List Sp := [sF 1 [] [] [] (fun x => SX x) (fun x w => Bs w x.v (BL32 a))]
  refine wp_region_six0 (shs L) (look6 L) (None_) (by kernel_rfl) (by kernel_rfl) (mk_St L [] [] (by kernel_rfl) (by kernel_rfl) ⟨ok_F sx_some (fun _ _ _ h hb => Bs.below h hb), trivial⟩ (by simp)) ?_
  intro QQ hQ
  -- 0: load<31> *t3
  refine stepK rfl (by kernel_rfl) (fun K hK => ?_); go_simp
  apply Exists.intro; apply And.intro; (focus exact kLoad rfl rfl aggT31 ra rfl id); refine hK _ _ ?_; clear hK K
  -- 1: call F100(t7)
  refine stepS _ rfl (by kernel_rfl) (fun K hK => ?_); go_simp
  refine ⟨?_, ?_⟩
  · intro wk hk hg hu; go_simp; refine upon_enter ((k100.out _).mono ?_); rintro e w' ⟨g, c, rfl, hc9, hv, hb9⟩; exact ⟨_, rfl, left_F rfl rfl hb9 ⟨_, _, hc9, rfl⟩ hv⟩
  rintro ⟨v1, lo1, hi1⟩ - - ⟨g1, c1, hc1, (rfl : v1 = _)⟩
  refine hK _ _ ?_; clear hK K
  -- 2: assign t8
  refine stepK rfl (by kernel_rfl) (fun K hK => ?_); go_simp
  apply Exists.intro; apply And.intro; (focus (intro wk hk; go_simp; exact ⟨rfl, rfl⟩)); refine hK _ _ ?_; clear hK K
  refine stepN ?_
  refine hQ _ _ ?_
  intro w1 hT hG hF
  have hb1 := hT.below
  have hX : Bs w1 (.slice (some ⟨g1, 0, none⟩) 32 c1) (BL32 a) := hF 1 _ rfl rfl (by decide)
  replace hb := hb.below hb1
  replace hl := hl.trans (hb1.mono hl.size)
  clear hT hG hF hb1 hQ QQ L ra k100
  have H0 := Lib.hid (show _ ∧ _ ∧ _ from ⟨hl, hb, hX⟩)
  have HF := Lib.hid hfin0
  clear hl hb hX hfin0
  go_wp2_with fail
  go_loopg [6] 32 (fun gg s6 wr => ∃ k : Nat, k + gg = 32 ∧ s6 = .int .i64 (k : Int) ∧ wr = w1 ∧ a < 2 ^ (8 * (32 - k)))
  case atStart => exact ⟨0, rfl, rfl, rfl, HA.out⟩
  case round =>
    obtain ⟨k, hk, rfl, rfl, hak⟩ := hrel
    by_cases hk32 : k < 32
    · have hlt : (k : Int) < 32 := by omega
      have cx := Bs_cell H0.out.2.2 hk32
      obtain ⟨y, hy⟩ : ∃ y, byN a (31 - k) = y := ⟨_, rfl⟩
      rw [hy] at cx
      by_cases hy0 : y = 0
      · subst hy0
        have hn := Lib.hid (byte_zero hk32 hak hy)
        clear hak hy
        go_wp2_with fail
        go_roundg (gk - 1)
        case measure => omega
        case rel => exact ⟨k + 1, by omega, by go_num, rfl, hn.out⟩
      · have hq : (((y : Nat) : Int) == 0) = false := by rw [beq_eq_false_iff_ne]; omega
        have hnb := nby_of hk32 hak (by rw [hy]; exact hy0)
        obtain ⟨n, hn⟩ : ∃ n, 32 - k = n := ⟨_, rfl⟩
        rw [hn] at hnb
        have hfin0 := Lib.hid (HF.out n k hnb (by omega))
        have ek : (32 : Int) - (k : Int) = (n : Int) := by omega
        have wk8 : IntKind.u8.wrap (n : Int) = (n : Int) := by rw [IntKind.wrap_u8]; omega
        have wk6 : IntKind.i64.wrap (n : Int) = (n : Int) := by rw [IntKind.wrap_i64]; omega
        have hT9 := Lib.hid (show ((BL32 a).drop k).length ≤ 32 by rw [List.length_drop, BL32_len]; omega)
        have g5 : (k : Int) ≤ 32 := by omega
        have g6 : (32 : Int) ≤ (c1 : Int) := by omega
        have g7 : ¬ c1 = k := by omega
        have hk33 : k ≤ 32 := by omega
        clear hak hy hy0 hnb HF
        obtain ⟨z7, hz7e⟩ : ∃ z, xs ++ [(n : Int)] = z := ⟨_, rfl⟩
        have hz7l := Lib.hid (show z7.length ≤ 100000001 by rw [← hz7e, List.length_append]; have := hL.out; have : ([(n : Int)] : List Int).length = 1 := rfl; omega)
        have hz7 := Lib.hid hz7e
        obtain ⟨z11, hz11e⟩ : ∃ z, z7 ++ ((BL32 a).drop k) = z := ⟨_, rfl⟩
        have hfin := Lib.hid (show z11 = xs ++ amtL a by rw [← hz11e, ← hz7e]; exact hfin0.out)
        have hz11 := Lib.hid hz11e
        clear hz7e hz11e hfin0
        go_upto_region 5 with (fail)
        obtain ⟨hl, hb, hX⟩ := H0.out
        refine wp_abs (fun wx => Below w.heap.size w wx ∧ Bs wx u xs ∧ Bs wx (.slice (some ⟨g1, 0, none⟩) 32 c1) (BL32 a)) ⟨hl, hb, hX⟩ ?_
        clear hl hb hX H0
        rintro wo ⟨hl, hb, hX⟩
        let L : List Sp := [sQ 0 [] [] [] [2, 7, 11] wo.heap.size z0 (fun _ => True), sQ 2 [0] [0] [0] [7, 11] wo.heap.size xs (fun _ => True), sL 6 5 [] 1 #[.int .u8 (n : Int)], sQ 7 [2, 0] [2, 0, 6] [2, 6] [11] wo.heap.size z7 (fun _ => True), sQ 11 [7, 2, 0] [7, 2, 0, 6] [7] [] wo.heap.size z11 (fun _ => True)]
        refine wp_region_six7 (shs L) (look6 L) (None_) (by kernel_rfl) (by kernel_rfl) (mk_St L [] [] (by kernel_rfl) (by kernel_rfl) ⟨ok_Q ⟨undef, trivial⟩ (by simp), ok_Q ⟨undef, trivial⟩ (by simp), ok_L, ok_Q ⟨undef, trivial⟩ (by simp), ok_Q ⟨undef, trivial⟩ (by simp), trivial⟩ (by simp)) ?_
        intro QQ hQ
        -- 0: buildSlice<33> len 0 
        refine stepS _ rfl (by kernel_rfl) (fun K hK => ?_); go_simp
        refine ⟨?_, ?_⟩
        · intro wk hk hg hu; go_simp; exact left_Qc rfl rfl (hz0.out ▸ Ob_new0 wk) ((Below.refl _ _).alloc (Nat.le_refl _) _) hk.undrew.size trivial
        rintro ⟨v0, lo0, hi0⟩ - - -
        refine hK _ _ ?_; clear hK K
        -- 1: t0
        refine stepK rfl (by kernel_rfl) (fun K hK => ?_); go_simp
        apply Exists.intro; apply And.intro; (focus (intro wk hk; go_simp; exact ⟨rfl, rfl⟩)); refine hK _ _ ?_; clear hK K
        -- 2: call builtin append<33,33>(t20, t21)
        refine stepS _ rfl (by kernel_rfl) (fun K hK => ?_); go_simp
        refine ⟨?_, ?_⟩
        · intro wk hk hg hu; have u0 := hu 0 (show 0 ∈ [0] by decide); have o0 : OwnF 0 [] wo.heap.size (z0) _ wk := u0; have p0 : Ob wk wo.heap.size v0 (z0) := o0.1; have s9 := (hb.below hk.undrew.below); obtain ⟨v', w', hrun, ho2, hgb, hw⟩ := append_run p0 s9 (by have := hL.out; have := hz0l.out; omega) hk.undrew.size; rw [run_append_op rfl rfl rfl hrun]; exact left_Qa rfl rfl (by decide) o0.2 hgb (by rw [← hxs.out]; exact ho2) hw trivial
        rintro ⟨v2, lo2, hi2⟩ - - -
        refine hK _ _ ?_; clear hK K
        -- 3: t6
        refine stepK rfl (by kernel_rfl) (fun K hK => ?_); go_simp
        apply Exists.intro; apply And.intro; (focus (intro wk hk; go_simp; exact ⟨rfl, rfl⟩)); refine hK _ _ ?_; clear hK K
        -- 4: sub<3> 32, t23
        refine stepK rfl (by kernel_rfl) (fun K hK => ?_); go_simp
        apply Exists.intro; apply And.intro; (focus (intro wk hk; go_simp; exact ⟨rfl, rfl⟩)); refine hK _ _ ?_; clear hK K
        -- 5: convert<3->5> t24
        refine stepK rfl (by kernel_rfl) (fun K hK => ?_); go_simp
        apply Exists.intro; apply And.intro; (focus (intro wk hk; go_simp; exact ⟨rfl, rfl⟩)); refine hK _ _ ?_; clear hK K
        -- 6: buildSlice<33> len 1 0:t25
        refine stepS _ rfl (by kernel_rfl) (fun K hK => ?_); go_simp
        refine ⟨?_, ?_⟩
        · intro wk hk hg hu; go_simp; exact left_L rfl rfl
        rintro ⟨v6, lo6, hi6⟩ hlo6 hhi6 ⟨e6, f6⟩
        replace e6 : v6 = .slice (some ⟨lo6, 0, none⟩) 1 1 := e6; replace f6 : hi6 = lo6 + 1 := f6; replace hlo6 : _ ≤ lo6 := hlo6; subst e6; subst f6
        refine hK _ _ ?_; clear hK K
        -- 7: call builtin append<33,33>(t22, t26)
        refine stepS _ rfl (by kernel_rfl) (fun K hK => ?_); go_simp
        refine ⟨?_, ?_⟩
        · intro wk hk hg hu; have u2 := hu 2 (show 2 ∈ [2, 6] by decide); have u6 := hu 6 (show 6 ∈ [2, 6] by decide); have o2 : OwnF 2 [0] wo.heap.size (xs) _ wk := u2; have p2 : Ob wk wo.heap.size v2 (xs) := o2.1; have s9 := (Bs_row1 (show Row wk lo6 5 #[.int .u8 (n : Int)] from And.right (a := lo6 + 1 = lo6 + 1) u6)); obtain ⟨v', w', hrun, ho2, hgb, hw⟩ := append_run p2 s9 (by have := hL.out; have : ([(n : Int)] : List Int).length = 1 := rfl; omega) hk.undrew.size; rw [run_append_op rfl rfl rfl hrun]; exact left_Qa rfl rfl (by decide) o2.2 hgb (by rw [← hz7.out]; exact ho2) hw trivial
        rintro ⟨v7, lo7, hi7⟩ - - -
        refine hK _ _ ?_; clear hK K
        -- 8: t5
        refine stepK rfl (by kernel_rfl) (fun K hK => ?_); go_simp
        apply Exists.intro; apply And.intro; (focus (intro wk hk; go_simp; exact ⟨rfl, rfl⟩)); refine hK _ _ ?_; clear hK K
        -- 9: t6
        refine stepK rfl (by kernel_rfl) (fun K hK => ?_); go_simp
        apply Exists.intro; apply And.intro; (focus (intro wk hk; go_simp; exact ⟨rfl, rfl⟩)); refine hK _ _ ?_; clear hK K
        -- 10: slice<33> t28[t29::]
        refine stepK rfl (by kernel_rfl) (fun K hK => ?_); go_simp
        apply Exists.intro; apply And.intro; (focus (intro wk hk; go_simp; exact ⟨rfl, rfl⟩)); refine hK _ _ ?_; clear hK K
        -- 11: call builtin append<33,33>(t27, t30)
        refine stepS _ rfl (by kernel_rfl) (fun K hK => ?_); go_simp
        refine ⟨?_, ?_⟩
        · intro wk hk hg hu; have u7 := hu 7 (show 7 ∈ [7] by decide); have o7 : OwnF 7 [2, 0] wo.heap.size (z7) _ wk := u7; have p7 : Ob wk wo.heap.size v7 (z7) := o7.1; have s9 := (hn ▸ Bs_dropc (hX.below hk.undrew.below) hk33); obtain ⟨v', w', hrun, ho2, hgb, hw⟩ := append_run p7 s9 (by have := hz7l.out; have := hT9.out; omega) hk.undrew.size; rw [run_append_op rfl rfl rfl hrun]; exact left_Qa rfl rfl (by decide) o7.2 hgb (by rw [← hz11.out]; exact ho2) hw trivial
        rintro ⟨v11, lo11, hi11⟩ - - -
        refine hK _ _ ?_; clear hK K
        -- 12: assign t31
        refine stepK rfl (by kernel_rfl) (fun K hK => ?_); go_simp
        apply Exists.intro; apply And.intro; (focus (intro wk hk; go_simp; exact ⟨rfl, rfl⟩)); refine hK _ _ ?_; clear hK K
        refine stepN ?_
        refine hQ _ _ ?_
        intro w3 hT hG hF
        have hb3 := hT.undrew.below
        have o9 : OwnF 11 [7, 2, 0] wo.heap.size z11 _ w3 := hF 11 _ rfl rfl (by decide)
        have H := Lib.hid (show _ ∧ _ from ⟨(show Ob w3 wo.heap.size v11 z11 from o9.1).base hl.size, hl.trans (hb3.mono hl.size)⟩)
        clear hT hG hF hb3 hQ QQ L o9 hl hb
        go_wp2_with fail
        go_ret
        exact ⟨_, rfl, by rw [← hfin.out]; exact H.out.1, H.out.2⟩
    · obtain rfl : k = 32 := by omega
      have hlt : ¬ ((32 : Nat) : Int) < 32 := by omega
      have hnb := nby_zero hak
      have hfin0 := Lib.hid (HF.out 0 32 hnb (by omega))
      have hT9 := Lib.hid (show ((BL32 a).drop 32).length ≤ 32 by rw [List.length_drop, BL32_len]; omega)
      have g6 : (32 : Int) ≤ (c1 : Int) := by omega
      clear hak hnb HF hk32
      by_cases hc32 : c1 = 32
      · subst hc32
        obtain ⟨z7, hz7e⟩ : ∃ z, xs ++ [((0 : Nat) : Int)] = z := ⟨_, rfl⟩
        have hz7l := Lib.hid (show z7.length ≤ 100000001 by rw [← hz7e, List.length_append]; have := hL.out; have : ([((0 : Nat) : Int)] : List Int).length = 1 := rfl; omega)
        have hz7 := Lib.hid hz7e
        obtain ⟨z11, hz11e⟩ : ∃ z, z7 ++ ((BL32 a).drop 32) = z := ⟨_, rfl⟩
        have hfin := Lib.hid (show z11 = xs ++ amtL a by rw [← hz11e, ← hz7e]; exact hfin0.out)
        have hz11 := Lib.hid hz11e
        clear hz7e hz11e hfin0
        go_upto_region 5 with (fail)
        obtain ⟨hl, hb, hX⟩ := H0.out
        refine wp_abs (fun wx => Below w.heap.size w wx ∧ Bs wx u xs ∧ Bs wx (.slice (some ⟨g1, 0, none⟩) 32 32) (BL32 a)) ⟨hl, hb, hX⟩ ?_
        clear hl hb hX H0
        rintro wo ⟨hl, hb, hX⟩
        let L : List Sp := [sQ 0 [] [] [] [2, 7, 11] wo.heap.size z0 (fun _ => True), sQ 2 [0] [0] [0] [7, 11] wo.heap.size xs (fun _ => True), sL 6 5 [] 1 #[.int .u8 ((0 : Nat) : Int)], sQ 7 [2, 0] [2, 0, 6] [2, 6] [11] wo.heap.size z7 (fun _ => True), sQ 11 [7, 2, 0] [7, 2, 0, 6] [7] [] wo.heap.size z11 (fun _ => True)]
        refine wp_region_six7 (shs L) (look6 L) (None_) (by kernel_rfl) (by kernel_rfl) (mk_St L [] [] (by kernel_rfl) (by kernel_rfl) ⟨ok_Q ⟨undef, trivial⟩ (by simp), ok_Q ⟨undef, trivial⟩ (by simp), ok_L, ok_Q ⟨undef, trivial⟩ (by simp), ok_Q ⟨undef, trivial⟩ (by simp), trivial⟩ (by simp)) ?_
        intro QQ hQ
        -- 0: buildSlice<33> len 0 
        refine stepS _ rfl (by kernel_rfl) (fun K hK => ?_); go_simp
        refine ⟨?_, ?_⟩
        · intro wk hk hg hu; go_simp; exact left_Qc rfl rfl (hz0.out ▸ Ob_new0 wk) ((Below.refl _ _).alloc (Nat.le_refl _) _) hk.undrew.size trivial
        rintro ⟨v0, lo0, hi0⟩ - - -
        refine hK _ _ ?_; clear hK K
        -- 1: t0
        refine stepK rfl (by kernel_rfl) (fun K hK => ?_); go_simp
        apply Exists.intro; apply And.intro; (focus (intro wk hk; go_simp; exact ⟨rfl, rfl⟩)); refine hK _ _ ?_; clear hK K
        -- 2: call builtin append<33,33>(t20, t21)
        refine stepS _ rfl (by kernel_rfl) (fun K hK => ?_); go_simp
        refine ⟨?_, ?_⟩
        · intro wk hk hg hu; have u0 := hu 0 (show 0 ∈ [0] by decide); have o0 : OwnF 0 [] wo.heap.size (z0) _ wk := u0; have p0 : Ob wk wo.heap.size v0 (z0) := o0.1; have s9 := (hb.below hk.undrew.below); obtain ⟨v', w', hrun, ho2, hgb, hw⟩ := append_run p0 s9 (by have := hL.out; have := hz0l.out; omega) hk.undrew.size; rw [run_append_op rfl rfl rfl hrun]; exact left_Qa rfl rfl (by decide) o0.2 hgb (by rw [← hxs.out]; exact ho2) hw trivial
        rintro ⟨v2, lo2, hi2⟩ - - -
        refine hK _ _ ?_; clear hK K
        -- 3: t6
        refine stepK rfl (by kernel_rfl) (fun K hK => ?_); go_simp
        apply Exists.intro; apply And.intro; (focus (intro wk hk; go_simp; exact ⟨rfl, rfl⟩)); refine hK _ _ ?_; clear hK K
        -- 4: sub<3> 32, t23
        refine stepK rfl (by kernel_rfl) (fun K hK => ?_); go_simp
        apply Exists.intro; apply And.intro; (focus (intro wk hk; go_simp; exact ⟨rfl, rfl⟩)); refine hK _ _ ?_; clear hK K
        -- 5: convert<3->5> t24
        refine stepK rfl (by kernel_rfl) (fun K hK => ?_); go_simp
        apply Exists.intro; apply And.intro; (focus (intro wk hk; go_simp; exact ⟨rfl, rfl⟩)); refine hK _ _ ?_; clear hK K
        -- 6: buildSlice<33> len 1 0:t25
        refine stepS _ rfl (by kernel_rfl) (fun K hK => ?_); go_simp
        refine ⟨?_, ?_⟩
        · intro wk hk hg hu; go_simp; exact left_L rfl rfl
        rintro ⟨v6, lo6, hi6⟩ hlo6 hhi6 ⟨e6, f6⟩
        replace e6 : v6 = .slice (some ⟨lo6, 0, none⟩) 1 1 := e6; replace f6 : hi6 = lo6 + 1 := f6; replace hlo6 : _ ≤ lo6 := hlo6; subst e6; subst f6
        refine hK _ _ ?_; clear hK K
        -- 7: call builtin append<33,33>(t22, t26)
        refine stepS _ rfl (by kernel_rfl) (fun K hK => ?_); go_simp
        refine ⟨?_, ?_⟩
        · intro wk hk hg hu; have u2 := hu 2 (show 2 ∈ [2, 6] by decide); have u6 := hu 6 (show 6 ∈ [2, 6] by decide); have o2 : OwnF 2 [0] wo.heap.size (xs) _ wk := u2; have p2 : Ob wk wo.heap.size v2 (xs) := o2.1; have s9 := (Bs_row1 (show Row wk lo6 5 #[.int .u8 ((0 : Nat) : Int)] from And.right (a := lo6 + 1 = lo6 + 1) u6)); obtain ⟨v', w', hrun, ho2, hgb, hw⟩ := append_run p2 s9 (by have := hL.out; have : ([((0 : Nat) : Int)] : List Int).length = 1 := rfl; omega) hk.undrew.size; rw [run_append_op rfl rfl rfl hrun]; exact left_Qa rfl rfl (by decide) o2.2 hgb (by rw [← hz7.out]; exact ho2) hw trivial
        rintro ⟨v7, lo7, hi7⟩ - - -
        refine hK _ _ ?_; clear hK K
        -- 8: t5
        refine stepK rfl (by kernel_rfl) (fun K hK => ?_); go_simp
        apply Exists.intro; apply And.intro; (focus (intro wk hk; go_simp; exact ⟨rfl, rfl⟩)); refine hK _ _ ?_; clear hK K
        -- 9: t6
        refine stepK rfl (by kernel_rfl) (fun K hK => ?_); go_simp
        apply Exists.intro; apply And.intro; (focus (intro wk hk; go_simp; exact ⟨rfl, rfl⟩)); refine hK _ _ ?_; clear hK K
        -- 10: slice<33> t28[t29::]
        refine stepK rfl (by kernel_rfl) (fun K hK => ?_); go_simp
        apply Exists.intro; apply And.intro; (focus (intro wk hk; go_simp; exact ⟨rfl, rfl⟩)); refine hK _ _ ?_; clear hK K
        -- 11: call builtin append<33,33>(t27, t30)
        refine stepS _ rfl (by kernel_rfl) (fun K hK => ?_); go_simp
        refine ⟨?_, ?_⟩
        · intro wk hk hg hu; have u7 := hu 7 (show 7 ∈ [7] by decide); have o7 : OwnF 7 [2, 0] wo.heap.size (z7) _ wk := u7; have p7 : Ob wk wo.heap.size v7 (z7) := o7.1; have s9 := (show Bs wk (.slice (some ⟨g1, 0, none⟩) 0 0) ((BL32 a).drop 32) from by rw [List.drop_eq_nil_of_le (by rw [BL32_len]; exact Nat.le_refl _)]; exact ⟨_, _, rfl, (fun h => (by cases h)), fun p hp i u hi => by simp [bv] at hi⟩); obtain ⟨v', w', hrun, ho2, hgb, hw⟩ := append_run p7 s9 (by have := hz7l.out; have := hT9.out; omega) hk.undrew.size; rw [run_append_op rfl rfl rfl hrun]; exact left_Qa rfl rfl (by decide) o7.2 hgb (by rw [← hz11.out]; exact ho2) hw trivial
        rintro ⟨v11, lo11, hi11⟩ - - -
        refine hK _ _ ?_; clear hK K
        -- 12: assign t31
        refine stepK rfl (by kernel_rfl) (fun K hK => ?_); go_simp
        apply Exists.intro; apply And.intro; (focus (intro wk hk; go_simp; exact ⟨rfl, rfl⟩)); refine hK _ _ ?_; clear hK K
        refine stepN ?_
        refine hQ _ _ ?_
        intro w3 hT hG hF
        have hb3 := hT.undrew.below
        have o9 : OwnF 11 [7, 2, 0] wo.heap.size z11 _ w3 := hF 11 _ rfl rfl (by decide)
        have H := Lib.hid (show _ ∧ _ from ⟨(show Ob w3 wo.heap.size v11 z11 from o9.1).base hl.size, hl.trans (hb3.mono hl.size)⟩)
        clear hT hG hF hb3 hQ QQ L o9 hl hb
        go_wp2_with fail
        go_ret
        exact ⟨_, rfl, by rw [← hfin.out]; exact H.out.1, H.out.2⟩
      · skip
        obtain ⟨z7, hz7e⟩ : ∃ z, xs ++ [((0 : Nat) : Int)] = z := ⟨_, rfl⟩
        have hz7l := Lib.hid (show z7.length ≤ 100000001 by rw [← hz7e, List.length_append]; have := hL.out; have : ([((0 : Nat) : Int)] : List Int).length = 1 := rfl; omega)
        have hz7 := Lib.hid hz7e
        obtain ⟨z11, hz11e⟩ : ∃ z, z7 ++ ((BL32 a).drop 32) = z := ⟨_, rfl⟩
        have hfin := Lib.hid (show z11 = xs ++ amtL a by rw [← hz11e, ← hz7e]; exact hfin0.out)
        have hz11 := Lib.hid hz11e
        clear hz7e hz11e hfin0
        go_upto_region 5 with (fail)
        obtain ⟨hl, hb, hX⟩ := H0.out
        refine wp_abs (fun wx => Below w.heap.size w wx ∧ Bs wx u xs ∧ Bs wx (.slice (some ⟨g1, 0, none⟩) 32 c1) (BL32 a)) ⟨hl, hb, hX⟩ ?_
        clear hl hb hX H0
        rintro wo ⟨hl, hb, hX⟩
        let L : List Sp := [sQ 0 [] [] [] [2, 7, 11] wo.heap.size z0 (fun _ => True), sQ 2 [0] [0] [0] [7, 11] wo.heap.size xs (fun _ => True), sL 6 5 [] 1 #[.int .u8 ((0 : Nat) : Int)], sQ 7 [2, 0] [2, 0, 6] [2, 6] [11] wo.heap.size z7 (fun _ => True), sQ 11 [7, 2, 0] [7, 2, 0, 6] [7] [] wo.heap.size z11 (fun _ => True)]
        refine wp_region_six7 (shs L) (look6 L) (None_) (by kernel_rfl) (by kernel_rfl) (mk_St L [] [] (by kernel_rfl) (by kernel_rfl) ⟨ok_Q ⟨undef, trivial⟩ (by simp), ok_Q ⟨undef, trivial⟩ (by simp), ok_L, ok_Q ⟨undef, trivial⟩ (by simp), ok_Q ⟨undef, trivial⟩ (by simp), trivial⟩ (by simp)) ?_
        intro QQ hQ
        -- 0: buildSlice<33> len 0 
        refine stepS _ rfl (by kernel_rfl) (fun K hK => ?_); go_simp
        refine ⟨?_, ?_⟩
        · intro wk hk hg hu; go_simp; exact left_Qc rfl rfl (hz0.out ▸ Ob_new0 wk) ((Below.refl _ _).alloc (Nat.le_refl _) _) hk.undrew.size trivial
        rintro ⟨v0, lo0, hi0⟩ - - -
        refine hK _ _ ?_; clear hK K
        -- 1: t0
        refine stepK rfl (by kernel_rfl) (fun K hK => ?_); go_simp
        apply Exists.intro; apply And.intro; (focus (intro wk hk; go_simp; exact ⟨rfl, rfl⟩)); refine hK _ _ ?_; clear hK K
        -- 2: call builtin append<33,33>(t20, t21)
        refine stepS _ rfl (by kernel_rfl) (fun K hK => ?_); go_simp
        refine ⟨?_, ?_⟩
        · intro wk hk hg hu; have u0 := hu 0 (show 0 ∈ [0] by decide); have o0 : OwnF 0 [] wo.heap.size (z0) _ wk := u0; have p0 : Ob wk wo.heap.size v0 (z0) := o0.1; have s9 := (hb.below hk.undrew.below); obtain ⟨v', w', hrun, ho2, hgb, hw⟩ := append_run p0 s9 (by have := hL.out; have := hz0l.out; omega) hk.undrew.size; rw [run_append_op rfl rfl rfl hrun]; exact left_Qa rfl rfl (by decide) o0.2 hgb (by rw [← hxs.out]; exact ho2) hw trivial
        rintro ⟨v2, lo2, hi2⟩ - - -
        refine hK _ _ ?_; clear hK K
        -- 3: t6
        refine stepK rfl (by kernel_rfl) (fun K hK => ?_); go_simp
        apply Exists.intro; apply And.intro; (focus (intro wk hk; go_simp; exact ⟨rfl, rfl⟩)); refine hK _ _ ?_; clear hK K
        -- 4: sub<3> 32, t23
        refine stepK rfl (by kernel_rfl) (fun K hK => ?_); go_simp
        apply Exists.intro; apply And.intro; (focus (intro wk hk; go_simp; exact ⟨rfl, rfl⟩)); refine hK _ _ ?_; clear hK K
        -- 5: convert<3->5> t24
        refine stepK rfl (by kernel_rfl) (fun K hK => ?_); go_simp
        apply Exists.intro; apply And.intro; (focus (intro wk hk; go_simp; exact ⟨rfl, rfl⟩)); refine hK _ _ ?_; clear hK K
        -- 6: buildSlice<33> len 1 0:t25
        refine stepS _ rfl (by kernel_rfl) (fun K hK => ?_); go_simp
        refine ⟨?_, ?_⟩
        · intro wk hk hg hu; go_simp; exact left_L rfl rfl
        rintro ⟨v6, lo6, hi6⟩ hlo6 hhi6 ⟨e6, f6⟩
        replace e6 : v6 = .slice (some ⟨lo6, 0, none⟩) 1 1 := e6; replace f6 : hi6 = lo6 + 1 := f6; replace hlo6 : _ ≤ lo6 := hlo6; subst e6; subst f6
        refine hK _ _ ?_; clear hK K
        -- 7: call builtin append<33,33>(t22, t26)
        refine stepS _ rfl (by kernel_rfl) (fun K hK => ?_); go_simp
        refine ⟨?_, ?_⟩
        · intro wk hk hg hu; have u2 := hu 2 (show 2 ∈ [2, 6] by decide); have u6 := hu 6 (show 6 ∈ [2, 6] by decide); have o2 : OwnF 2 [0] wo.heap.size (xs) _ wk := u2; have p2 : Ob wk wo.heap.size v2 (xs) := o2.1; have s9 := (Bs_row1 (show Row wk lo6 5 #[.int .u8 ((0 : Nat) : Int)] from And.right (a := lo6 + 1 = lo6 + 1) u6)); obtain ⟨v', w', hrun, ho2, hgb, hw⟩ := append_run p2 s9 (by have := hL.out; have : ([((0 : Nat) : Int)] : List Int).length = 1 := rfl; omega) hk.undrew.size; rw [run_append_op rfl rfl rfl hrun]; exact left_Qa rfl rfl (by decide) o2.2 hgb (by rw [← hz7.out]; exact ho2) hw trivial
        rintro ⟨v7, lo7, hi7⟩ - - -
        refine hK _ _ ?_; clear hK K
        -- 8: t5
        refine stepK rfl (by kernel_rfl) (fun K hK => ?_); go_simp
        apply Exists.intro; apply And.intro; (focus (intro wk hk; go_simp; exact ⟨rfl, rfl⟩)); refine hK _ _ ?_; clear hK K
        -- 9: t6
        refine stepK rfl (by kernel_rfl) (fun K hK => ?_); go_simp
        apply Exists.intro; apply And.intro; (focus (intro wk hk; go_simp; exact ⟨rfl, rfl⟩)); refine hK _ _ ?_; clear hK K
        -- 10: slice<33> t28[t29::]
        refine stepK rfl (by kernel_rfl) (fun K hK => ?_); go_simp
        apply Exists.intro; apply And.intro; (focus (intro wk hk; go_simp; exact ⟨rfl, rfl⟩)); refine hK _ _ ?_; clear hK K
        -- 11: call builtin append<33,33>(t27, t30)
        refine stepS _ rfl (by kernel_rfl) (fun K hK => ?_); go_simp
        refine ⟨?_, ?_⟩
        · intro wk hk hg hu; have u7 := hu 7 (show 7 ∈ [7] by decide); have o7 : OwnF 7 [2, 0] wo.heap.size (z7) _ wk := u7; have p7 : Ob wk wo.heap.size v7 (z7) := o7.1; have s9 := (Bs_dropc (hX.below hk.undrew.below) (Nat.le_refl _)); obtain ⟨v', w', hrun, ho2, hgb, hw⟩ := append_run p7 s9 (by have := hz7l.out; have := hT9.out; omega) hk.undrew.size; rw [run_append_op rfl rfl rfl hrun]; exact left_Qa rfl rfl (by decide) o7.2 hgb (by rw [← hz11.out]; exact ho2) hw trivial
        rintro ⟨v11, lo11, hi11⟩ - - -
        refine hK _ _ ?_; clear hK K
        -- 12: assign t31
        refine stepK rfl (by kernel_rfl) (fun K hK => ?_); go_simp
        apply Exists.intro; apply And.intro; (focus (intro wk hk; go_simp; exact ⟨rfl, rfl⟩)); refine hK _ _ ?_; clear hK K
        refine stepN ?_
        refine hQ _ _ ?_
        intro w3 hT hG hF
        have hb3 := hT.undrew.below
        have o9 : OwnF 11 [7, 2, 0] wo.heap.size z11 _ w3 := hF 11 _ rfl rfl (by decide)
        have H := Lib.hid (show _ ∧ _ from ⟨(show Ob w3 wo.heap.size v11 z11 from o9.1).base hl.size, hl.trans (hb3.mono hl.size)⟩)
        clear hT hG hF hb3 hQ QQ L o9 hl hb
        go_wp2_with fail
        go_ret
        exact ⟨_, rfl, by rw [← hfin.out]; exact H.out.1, H.out.2⟩
end Go.Proofs.Ytpdenhmkpiafiaa
namespace Go.Proofs.Ytpdenhmkpiafiaa
open Go Go.RowKit K6

def spare : List Int := [115, 112, 97, 114, 101]
def spareS : ByteArray := ByteArray.mk #[115, 112, 97, 114, 101]
set_option maxRecDepth 100000 in
/-- append of "spare" -/
theorem spare_run {w : World} {base : Nat} {v : Value} {xs : List Int} (h : Ob w base v xs) (hL : xs.length ≤ 1000000000) (hb : base ≤ w.heap.size) :
    ∃ v' w', (Builtin.append_ #[33, 9] 33 #[v, .string (ByteArray.mk #[115, 112, 97, 114, 101])]).run Try.prog w = .ok v' w' ∧ Ob w' base v' (xs ++ spare) ∧ w.grownBy w' v.ownBlock := by
  obtain ⟨v', w', hrun, ho, hg, -⟩ := Go.Lib.run_append_own_string (P := Try.prog) w base 33 9 33 5 _ Try.underlying33 Try.underlying9 rfl rfl rfl rfl v xs.length (bv xs) h spareS (by show xs.length + 5 ≤ _; simp only [maxLen]; omega) (by show xs.length + 5 ≤ _; omega) hb
  refine ⟨v', w', hrun, ?_, hg⟩
  unfold Ob
  rw [List.length_append, bv_app]
  exact ho
theorem make_room8 (c : Nat) (hc : c < 1000000) (w : World) : (Instr.makeSlice 33 (.int .i64 0) (.int .i64 (c : Int))).run Try.prog w = .ok (.slice (some ⟨w.heap.size, 0, none⟩) 0 c) (w.alloc (.cells (madeCells #[.int .u8 0] c) 5)) :=
  Go.run_make_room 33 5 (.int .u8 0) 1 Try.underlying33 (by kernel_rfl) rfl .i64 .i64 c (by omega) (by omega) w
theorem enc_ne {m : Nat} : enc m ≠ [] := by
  by_cases h : m < 128
  · rw [enc_low h]; simp
  · rw [enc_high h]; simp
theorem str_app (xs ys : List Int) : strOfNums xs ++ strOfNums ys = strOfNums (xs ++ ys) := by
  apply ByteArray.ext
  simp [strOfNums, ByteArray.data_append]
theorem conv_empty (a : Addr) (c : Nat) (w : World) : (convert 33 9 (.slice (some a) 0 c)).run Try.prog w = .ok (.string (strOfNums [])) w := by
  kernel_rfl
theorem Bs.conv' {w : World} {u : Value} {xs : List Int} (h : Bs w u xs) : (convert 33 9 u).run Try.prog w = .ok (.string (strOfNums xs)) w := by
  by_cases h0 : xs = []
  · obtain ⟨q, c, rfl, hn, h1⟩ := h
    subst h0
    cases q with
    | none => kernel_rfl
    | some a => exact conv_empty a c w
  · exact h.conv h0
set_option maxRecDepth 100000 in
set_option maxHeartbeats 32000000 in
theorem puts_walk (q : Option Addr) (c : Nat) (xs : List Int) (m : Int) (a : Nat) (hm : m < 9223372036854775808) (ha : a < M) (w : World) (hb0 : Bs w (.slice q xs.length c) xs) :
    Calls Try.prog 4 #[.slice q xs.length c, .int .i64 m, .agg (W4 a)] w (Ret w (.bool true)) := by
  have lv := Lib.hid lives4U
  obtain ⟨n, hn⟩ : ∃ n, xs.length = n := ⟨_, rfl⟩
  rw [hn] at hb0 ⊢
  by_cases h300 : 300 < n
  · have hn1 : (300 : Int) < (n : Int) := by omega
    clear hb0 h300
    go_enter Try.func4, Try.ntmps4
    go_wp2_with fail
    refine (lv.out _).mono ?_
    rintro e w1 ⟨rfl, hb⟩
    have H := Lib.hid hb
    clear hb
    go_wp2_with fail
    go_ret
    exact ⟨rfl, (show Below w.heap.size w (w.alloc (.cells (W4 a) 31)) from (Below.refl _ _).alloc (Nat.le_refl _) _).trans (H.out.mono (by simp))⟩
  · have hn1 : (n : Int) ≤ 300 := by omega
    go_enter Try.func4, Try.ntmps4
    apply wp_seq_eq
    focus
      intro J hJ
      go_wp2_with fail
      exact hJ
    refine wp_abs (Mem w [(w.heap.size, 31, W4 a)]) ⟨by go_grown, Row.new_at rfl, trivial⟩ ?_
    intro w0 hM
    obtain ⟨hl, ra, -⟩ := hM
    have sb := hb0.below hl
    have mk := fun wx => make_room8 (n + 50) (by omega) wx
    rw [Int.natCast_add, show ((50 : Nat) : Int) = 50 from rfl] at mk
    have hz : Below w0.heap.size w0 (w0.alloc (.cells (madeCells #[.int .u8 0] (n + 50)) 5)) := (Below.refl _ _).alloc (Nat.le_refl _) _
    have ho0 : Ob (w0.alloc (.cells (madeCells #[.int .u8 0] (n + 50)) 5)) w0.heap.size (.slice (some ⟨w0.heap.size, 0, none⟩) 0 (n + 50)) [] := ⟨rfl, .inr ⟨w0.heap.size, n + 50, _, rfl, Nat.le_refl _, Row.new_at (t := 5) rfl, Nat.zero_le _, by simp only [maxLen]; omega, by simp [madeCells], rfl⟩⟩
    obtain ⟨v1, w1, hrun1, ho1, hg1, -⟩ := append_run ho0 (sb.below hz) (by simp; omega) hz.size
    rw [List.nil_append] at ho1
    have hl1 : Below w0.heap.size w0 w1 := hz.trans ⟨hg1.os, hg1.tape, hg1.output, hg1.size, fun k hk => hg1.block k (Nat.lt_of_lt_of_le hk hz.size) (fun e => by have : k = w0.heap.size := Option.some.inj e; omega)⟩
    obtain ⟨v2, w2, hrun2, ho2, hg2⟩ := spare_run ho1 (by omega) hl1.size
    have hl2 : Below w0.heap.size w0 w2 := hl1.trans ⟨hg2.os, hg2.tape, hg2.output, hg2.size, fun k hk => hg2.block k (Nat.lt_of_lt_of_le hk hl1.size) (fun e => by have := (ho1.lt k e.symm).1; omega)⟩
    have hsl : (xs ++ spare).length = n + 5 := by rw [List.length_append, hn]; rfl
    obtain ⟨g, cap, rfl, hcap⟩ : ∃ g cap, v2 = .slice (some ⟨g, 0, none⟩) (n + 5) cap ∧ n + 5 ≤ cap := by
      rcases ho2.2 with ⟨-, h0⟩ | ⟨g, cap, cur, rfl, -, -, h3, -⟩
      · rw [hsl] at h0; omega
      · rw [hsl] at h3 ⊢; exact ⟨g, cap, rfl, h3⟩
    have sall := ho2.bs
    have sg : Bs w2 (.slice (some ⟨g, 0, none⟩) n cap) xs := by
      obtain ⟨q', c', e, -, h1⟩ := sall
      obtain e1 : q' = some ⟨g, 0, none⟩ := by injection e with e1 e2 e3; exact e1.symm
      refine ⟨some ⟨g, 0, none⟩, cap, by rw [hn], (fun h => (by cases h)), fun p hp j u hj => ?_⟩
      cases hp
      refine h1 _ e1 j u ?_
      have hj9 := (List.getElem?_eq_some_iff.1 hj).1
      rw [bv_app, List.getElem?_append_left hj9]
      exact hj
    have H0 := Lib.hid (show _ ∧ _ ∧ _ ∧ _ ∧ _ from ⟨hl.trans (hl2.mono hl.size), ra.below hl2 ra.lt, sb.below hl2, sg, sall⟩)
    have g1 : (n : Int) ≤ (cap : Int) := by omega
    have g2 : (n : Int) + 5 ≤ (cap : Int) := by omega
    clear hl ra sb hz ho0 ho1 hg1 hl1 ho2 hg2 hl2 sg sall hb0
    go_upto_region 4 with (at_builtin; first | refine wpList_app rfl rfl rfl rfl hrun1 ?_ | refine wpList_app rfl rfl rfl rfl hrun2 ?_)
    obtain ⟨hl, ra, sb, sg, sall⟩ := H0.out
    refine wp_abs (fun wx => Below w.heap.size w wx ∧ Row wx w.heap.size 31 (W4 a) ∧ Bs wx (.slice q n c) xs ∧ Bs wx (.slice (some ⟨g, 0, none⟩) n cap) xs ∧ Bs wx (.slice (some ⟨g, 0, none⟩) (n + 5) cap) (xs ++ spare)) ⟨hl, ra, sb, sg, sall⟩ ?_
    clear hl ra sb sg sall H0 mk hrun1 hrun2
    rintro w3 ⟨hl, ra, sb, sg, sall⟩
    obtain ⟨m8, hm8⟩ : ∃ x, IntKind.u8.wrap m = x := ⟨_, rfl⟩
    have n8 : ∃ x, IntKind.u8.wrap (n : Int) = x := ⟨_, rfl⟩
    obtain ⟨n8, hn8⟩ := n8
    have hs0 : ∃ hs : List Int, hs = [m8, 0, 0, 0, 0, 0, 0, 0, 0, 0, 0, 0, 0, 0, 0, 0, 0, 0, 0, 0, 0, 0, 0, 0, 0, 0, 0, 0, 0, 0, 0, n8] := ⟨_, rfl⟩
    obtain ⟨hs, hhs⟩ := hs0
    have hs32 : hs.length = 32 := by rw [hhs]; rfl
    have hsz35 := Lib.hid (show (bv hs).toArray.size = 32 by rw [List.size_toArray, bv_len]; exact hs32)
    have hcells : (bv hs).toArray = #[.int .u8 m8, .int .u8 0, .int .u8 0, .int .u8 0, .int .u8 0, .int .u8 0, .int .u8 0, .int .u8 0, .int .u8 0, .int .u8 0, .int .u8 0, .int .u8 0, .int .u8 0, .int .u8 0, .int .u8 0, .int .u8 0, .int .u8 0, .int .u8 0, .int .u8 0, .int .u8 0, .int .u8 0, .int .u8 0, .int .u8 0, .int .u8 0, .int .u8 0, .int .u8 0, .int .u8 0, .int .u8 0, .int .u8 0, .int .u8 0, .int .u8 0, .int .u8 n8] := by rw [hhs]; rfl
    clear hhs
    let L : List Sp := [sV 5 [] [] (fun u => u = .agg #[.int .u8 m8, .int .u8 0, .int .u8 0, .int .u8 0, .int .u8 0, .int .u8 0, .int .u8 0, .int .u8 0, .int .u8 0, .int .u8 0, .int .u8 0, .int .u8 0, .int .u8 0, .int .u8 0, .int .u8 0, .int .u8 0, .int .u8 0, .int .u8 0, .int .u8 0, .int .u8 0, .int .u8 0, .int .u8 0, .int .u8 0, .int .u8 0, .int .u8 0, .int .u8 0, .int .u8 0, .int .u8 0, .int .u8 0, .int .u8 0, .int .u8 0, .int .u8 n8]), sA 6 35 [7] z32, sT 7 6 35 [5] (fun g => aggOf g 5)]
    refine wp_region_six0 (shs L) (look6 L) (None_) (by kernel_rfl) (by kernel_rfl) (mk_St L [] [] (by kernel_rfl) (by kernel_rfl) ⟨ok_V ⟨_, rfl⟩, ok_A, ok_T aggOf_congr, trivial⟩ (by simp)) ?_
    intro QQ hQ
    -- 0: t1
    refine stepK rfl (by kernel_rfl) (fun K hK => ?_); go_simp
    apply Exists.intro; apply And.intro; (focus (intro wk hk; go_simp; exact ⟨rfl, rfl⟩)); refine hK _ _ ?_; clear hK K
    -- 1: convert<3->5> t24
    refine stepK rfl (by kernel_rfl) (fun K hK => ?_); go_simp
    apply Exists.intro; apply And.intro; (focus (intro wk hk; go_simp; exact ⟨rfl, rfl⟩)); refine hK _ _ ?_; clear hK K
    -- 2: t0
    refine stepK rfl (by kernel_rfl) (fun K hK => ?_); go_simp
    apply Exists.intro; apply And.intro; (focus (intro wk hk; go_simp; exact ⟨rfl, rfl⟩)); refine hK _ _ ?_; clear hK K
    -- 3: call builtin len<33>(t26)
    refine stepK rfl (by kernel_rfl) (fun K hK => ?_); go_simp
    apply Exists.intro; apply And.intro; (focus (intro wk hk; go_simp; exact ⟨rfl, rfl⟩)); refine hK _ _ ?_; clear hK K
    -- 4: convert<3->5> t27
    refine stepK rfl (by kernel_rfl) (fun K hK => ?_); go_simp
    apply Exists.intro; apply And.intro; (focus (intro wk hk; go_simp; exact ⟨rfl, rfl⟩)); refine hK _ _ ?_; clear hK K
    -- 5: build<35> 0:t25, 31:t28
    refine stepS _ rfl (by kernel_rfl) (fun K hK => ?_); go_simp
    refine ⟨?_, ?_⟩
    · intro wk hk hg hu; go_simp; exact left_V (p := fun u => u = .agg #[.int .u8 m8, .int .u8 0, .int .u8 0, .int .u8 0, .int .u8 0, .int .u8 0, .int .u8 0, .int .u8 0, .int .u8 0, .int .u8 0, .int .u8 0, .int .u8 0, .int .u8 0, .int .u8 0, .int .u8 0, .int .u8 0, .int .u8 0, .int .u8 0, .int .u8 0, .int .u8 0, .int .u8 0, .int .u8 0, .int .u8 0, .int .u8 0, .int .u8 0, .int .u8 0, .int .u8 0, .int .u8 0, .int .u8 0, .int .u8 0, .int .u8 0, .int .u8 n8]) rfl (Below.refl _ _) rfl
    rintro ⟨v5, lo5, hi5⟩ - - (rfl : v5 = _)
    refine hK _ _ ?_; clear hK K
    -- 6: alloc<35>
    refine stepS _ rfl (by kernel_rfl) (fun K hK => ?_); go_simp
    refine ⟨?_, ?_⟩
    · intro wk hk hg hu; go_simp; exact left_A rfl rfl
    rintro ⟨v6, lo6, hi6⟩ hlo6 hhi6 ⟨e6, f6⟩
    replace e6 : v6 = .pointer (some ⟨lo6, 0, none⟩) := e6; replace f6 : hi6 = lo6 + 1 := f6; replace hlo6 : _ ≤ lo6 := hlo6; subst e6; subst f6
    refine hK _ _ ?_; clear hK K
    -- 7: store<35> *t8 = t29
    refine stepS _ rfl (by kernel_rfl) (fun K hK => ?_); go_simp
    refine ⟨?_, ?_⟩
    · exact sStoreT rfl rfl rfl rfl rfl rfl rfl (by kernel_rfl) rfl (by kernel_rfl) (by decide) aggOf_congr
    rintro ⟨v7, lo7, hi7⟩ - - (rfl : v7 = undef)
    refine hK _ _ ?_; clear hK K
    refine stepN ?_
    refine hQ _ _ ?_
    intro w4 hT hG hF
    have hbw4 := hT.below
    have rh : Row w4 lo6 35 #[.int .u8 m8, .int .u8 0, .int .u8 0, .int .u8 0, .int .u8 0, .int .u8 0, .int .u8 0, .int .u8 0, .int .u8 0, .int .u8 0, .int .u8 0, .int .u8 0, .int .u8 0, .int .u8 0, .int .u8 0, .int .u8 0, .int .u8 0, .int .u8 0, .int .u8 0, .int .u8 0, .int .u8 0, .int .u8 0, .int .u8 0, .int .u8 0, .int .u8 0, .int .u8 0, .int .u8 0, .int .u8 0, .int .u8 0, .int .u8 0, .int .u8 0, .int .u8 n8] := (hF 7 _ rfl rfl (by decide)).2
    replace ra := ra.below hbw4 ra.lt
    replace hl := hl.trans (hbw4.mono hl.size)
    replace sb := sb.below hbw4
    replace sg := sg.below hbw4
    replace sall := sall.below hbw4
    clear hT hG hF hbw4 hQ QQ L hhi6
    rw [← hcells] at rh
    clear hm8 hn8 hcells
    have H0 := Lib.hid (show _ ∧ _ ∧ _ ∧ _ ∧ _ ∧ _ from ⟨hl, ra, rh, sb, sg, sall⟩)
    clear hl ra rh sb sg sall
    go_upto_region 5 with (fail)
    obtain ⟨hl, ra, rh, sb, sg, sall⟩ := H0.out
    clear H0
    have hL : xs.length ≤ 10000000 := by omega
    have k38 := fun wx h => var_any (.slice (some ⟨g, 0, none⟩) n cap) xs m wx h hL hm
    have k39 := fun wx h => refvar_any (.slice q n c) xs m wx h hL hm
    have k40 := fun wx h => amt_any (.slice (some ⟨g, 0, none⟩) n cap) xs a wx h hL ha
    have k41 := fun wx h => refamt_any (.slice q n c) xs a wx h hL ha
    have k42 := fun wx h => hash_put (.slice (some ⟨g, 0, none⟩) n cap) xs hs wx h hL hs32
    have k43 := fun wx h => refhash_put (.slice q n c) xs hs wx h hL hs32
    have k44 := fun wx h h2 => text_put 44 (.inl rfl) (.slice (some ⟨g, 0, none⟩) n cap) (.slice q n c) xs xs wx h h2 hL hL
    have k45 := fun wx h h2 => text_put 45 (.inr rfl) (.slice q n c) (.slice q n c) xs xs wx h h2 hL hL
    have ne1 := Lib.hid (show xs ++ enc m.toNat ≠ [] from fun h => enc_ne (List.append_eq_nil_iff.1 h).2)
    have ne2 := Lib.hid (show xs ++ amtL a ≠ [] from fun h => (by cases (List.append_eq_nil_iff.1 h).2))
    have ne3 := Lib.hid (show xs ++ hs ≠ [] from fun h => by rw [(List.append_eq_nil_iff.1 h).2] at hs32; exact absurd hs32 (by decide))
    have ne4 := Lib.hid (show (xs ++ enc xs.length) ++ xs ≠ [] from fun h => enc_ne (List.append_eq_nil_iff.1 (List.append_eq_nil_iff.1 h).1).2)
    have neA := Lib.hid (show xs ++ spare ≠ [] from fun h => (by cases (List.append_eq_nil_iff.1 h).2))
    obtain ⟨l1, hl1⟩ : ∃ l, xs ++ enc m.toNat = l := ⟨_, rfl⟩
    obtain ⟨l2, hl2⟩ : ∃ l, xs ++ amtL a = l := ⟨_, rfl⟩
    obtain ⟨l3, hl3⟩ : ∃ l, xs ++ hs = l := ⟨_, rfl⟩
    obtain ⟨l4, hl4⟩ : ∃ l, (xs ++ enc xs.length) ++ xs = l := ⟨_, rfl⟩
    rw [hl1] at k38 k39 ne1
    rw [hl2] at k40 k41 ne2
    rw [hl3] at k42 k43 ne3
    rw [hl4] at k44 k45 ne4
    clear hl1 hl2 hl3 hl4 hL ha hm hs32
    obtain ⟨B1, hB1⟩ : ∃ B, Hid (strOfNums l1 = B) := ⟨_, Lib.hid rfl⟩
    obtain ⟨B2, hB2⟩ : ∃ B, Hid (strOfNums l2 = B) := ⟨_, Lib.hid rfl⟩
    obtain ⟨B3, hB3⟩ : ∃ B, Hid (strOfNums l3 = B) := ⟨_, Lib.hid rfl⟩
    obtain ⟨B4, hB4⟩ : ∃ B, Hid (strOfNums l4 = B) := ⟨_, Lib.hid rfl⟩
    replace k38 := Lib.hid k38
    replace k39 := Lib.hid k39
    replace k40 := Lib.hid k40
    replace k41 := Lib.hid k41
    replace k42 := Lib.hid k42
    replace k43 := Lib.hid k43
    replace k44 := Lib.hid k44
    replace k45 := Lib.hid k45
    let L : List Sp := [sF 2 [] [] [] (fun _ => True) (fun x w => Bs w x.v l1), sV 3 [2] [2] (fun u => u = .string B1), sF 6 [] [] [] (fun _ => True) (fun x w => Bs w x.v l1), sV 7 [6] [6] (fun u => u = .string B1), sF 12 [] [] [] (fun _ => True) (fun x w => Bs w x.v l2), sV 13 [12] [12] (fun u => u = .string B2), sF 16 [] [] [] (fun _ => True) (fun x w => Bs w x.v l2), sV 17 [16] [16] (fun u => u = .string B2), sF 23 [] [] [] (fun _ => True) (fun x w => Bs w x.v l3), sV 24 [23] [23] (fun u => u = .string B3), sF 27 [] [] [] (fun _ => True) (fun x w => Bs w x.v l3), sV 28 [27] [27] (fun u => u = .string B3), sF 34 [] [] [] (fun _ => True) (fun x w => Bs w x.v l4), sV 35 [34] [34] (fun u => u = .string B4), sF 38 [] [] [] (fun _ => True) (fun x w => Bs w x.v l4), sV 39 [38] [38] (fun u => u = .string B4)]
    refine wp_region_six7 (shs L) (look6 L) (None_) (by kernel_rfl) (by kernel_rfl) (mk_St L [] [] (by kernel_rfl) (by kernel_rfl) ⟨ok_F (any_some _) (fun _ _ _ h hb => Bs.below h hb), ok_V ⟨_, rfl⟩, ok_F (any_some _) (fun _ _ _ h hb => Bs.below h hb), ok_V ⟨_, rfl⟩, ok_F (any_some _) (fun _ _ _ h hb => Bs.below h hb), ok_V ⟨_, rfl⟩, ok_F (any_some _) (fun _ _ _ h hb => Bs.below h hb), ok_V ⟨_, rfl⟩, ok_F (any_some _) (fun _ _ _ h hb => Bs.below h hb), ok_V ⟨_, rfl⟩, ok_F (any_some _) (fun _ _ _ h hb => Bs.below h hb), ok_V ⟨_, rfl⟩, ok_F (any_some _) (fun _ _ _ h hb => Bs.below h hb), ok_V ⟨_, rfl⟩, ok_F (any_some _) (fun _ _ _ h hb => Bs.below h hb), ok_V ⟨_, rfl⟩, trivial⟩ (by simp)) ?_
    intro QQ hQ
    -- 0: t7
    refine stepK rfl (by kernel_rfl) (fun K hK => ?_); go_simp
    apply Exists.intro; apply And.intro; (focus (intro wk hk; go_simp; exact ⟨rfl, rfl⟩)); refine hK _ _ ?_; clear hK K
    -- 1: t1
    refine stepK rfl (by kernel_rfl) (fun K hK => ?_); go_simp
    apply Exists.intro; apply And.intro; (focus (intro wk hk; go_simp; exact ⟨rfl, rfl⟩)); refine hK _ _ ?_; clear hK K
    -- 2: call F38(t30, t31)
    refine stepS _ rfl (by kernel_rfl) (fun K hK => ?_); go_simp
    refine ⟨?_, ?_⟩
    · intro wk hk hg hu; go_simp; refine upon_enter ((k38.out _ (sg.below hk.undrew.below)).mono ?_); rintro e w' ⟨v, rfl, hv, hb9⟩; exact ⟨_, rfl, left_F rfl rfl hb9 trivial hv.bs⟩
    rintro ⟨v2, lo2, hi2⟩ - - -
    refine hK _ _ ?_; clear hK K
    -- 3: convert<33->9> t32
    refine stepS _ rfl (by kernel_rfl) (fun K hK => ?_); go_simp
    refine ⟨?_, ?_⟩
    · intro wk hk hg hu; have u2 := hu 2 (show 2 ∈ [2] by decide); have b2 : Bs wk v2 l1 := u2; have cv := Bs.conv b2 ne1.out; rw [hB1.out] at cv; go_simp; exact left_V (p := fun u => u = .string B1) rfl (Below.refl _ _) rfl
    rintro ⟨v3, lo3, hi3⟩ - - (rfl : v3 = _)
    refine hK _ _ ?_; clear hK K
    -- 4: t0
    refine stepK rfl (by kernel_rfl) (fun K hK => ?_); go_simp
    apply Exists.intro; apply And.intro; (focus (intro wk hk; go_simp; exact ⟨rfl, rfl⟩)); refine hK _ _ ?_; clear hK K
    -- 5: t1
    refine stepK rfl (by kernel_rfl) (fun K hK => ?_); go_simp
    apply Exists.intro; apply And.intro; (focus (intro wk hk; go_simp; exact ⟨rfl, rfl⟩)); refine hK _ _ ?_; clear hK K
    -- 6: call F39(t34, t35)
    refine stepS _ rfl (by kernel_rfl) (fun K hK => ?_); go_simp
    refine ⟨?_, ?_⟩
    · intro wk hk hg hu; go_simp; refine upon_enter ((k39.out _ (sb.below hk.undrew.below)).mono ?_); rintro e w' ⟨v, rfl, hv, hb9⟩; exact ⟨_, rfl, left_F rfl rfl hb9 trivial hv.bs⟩
    rintro ⟨v6, lo6, hi6⟩ - - -
    refine hK _ _ ?_; clear hK K
    -- 7: convert<33->9> t36
    refine stepS _ rfl (by kernel_rfl) (fun K hK => ?_); go_simp
    refine ⟨?_, ?_⟩
    · intro wk hk hg hu; have u6 := hu 6 (show 6 ∈ [6] by decide); have b6 : Bs wk v6 l1 := u6; have cv := Bs.conv b6 ne1.out; rw [hB1.out] at cv; go_simp; exact left_V (p := fun u => u = .string B1) rfl (Below.refl _ _) rfl
    rintro ⟨v7, lo7, hi7⟩ - - (rfl : v7 = _)
    refine hK _ _ ?_; clear hK K
    -- 8: eql<9> t33, t37
    refine stepK rfl (by kernel_rfl) (fun K hK => ?_); go_simp
    apply Exists.intro; apply And.intro; (focus (intro wk hk; go_simp; exact ⟨rfl, rfl⟩)); refine hK _ _ ?_; clear hK K
    -- 9: t38
    refine stepK rfl (by kernel_rfl) (fun K hK => ?_); go_simp
    apply Exists.intro; apply And.intro; (focus (intro wk hk; go_simp; exact ⟨rfl, rfl⟩)); refine hK _ _ ?_; clear hK K
    -- 10: t7
    refine stepK rfl (by kernel_rfl) (fun K hK => ?_); go_simp
    first | (refine hK _ _ ?_; clear hK K) | (apply Exists.intro; apply And.intro; (focus (intro wk hk; go_simp; exact ⟨rfl, rfl⟩)); refine hK _ _ ?_; clear hK K)
    -- 11: load<31> *t5
    refine stepK rfl (by kernel_rfl) (fun K hK => ?_); go_simp
    first | (refine hK _ _ ?_; clear hK K) | (apply Exists.intro; apply And.intro; (focus exact kLoad rfl rfl aggT31 ra rfl id); refine hK _ _ ?_; clear hK K)
    -- 12: call F40(t40, t41)
    refine stepS _ rfl (by kernel_rfl) (fun K hK => ?_); go_simp
    refine ⟨?_, ?_⟩
    · intro wk hk hg hu; go_simp; refine upon_enter ((k40.out _ (sg.below hk.undrew.below)).mono ?_); rintro e w' ⟨v, rfl, hv, hb9⟩; exact ⟨_, rfl, left_F rfl rfl hb9 trivial hv.bs⟩
    rintro ⟨v12, lo12, hi12⟩ - - -
    refine hK _ _ ?_; clear hK K
    -- 13: convert<33->9> t42
    refine stepS _ rfl (by kernel_rfl) (fun K hK => ?_); go_simp
    refine ⟨?_, ?_⟩
    · intro wk hk hg hu; have u12 := hu 12 (show 12 ∈ [12] by decide); have b12 : Bs wk v12 l2 := u12; have cv := Bs.conv b12 ne2.out; rw [hB2.out] at cv; go_simp; exact left_V (p := fun u => u = .string B2) rfl (Below.refl _ _) rfl
    rintro ⟨v13, lo13, hi13⟩ - - (rfl : v13 = _)
    refine hK _ _ ?_; clear hK K
    -- 14: t0
    refine stepK rfl (by kernel_rfl) (fun K hK => ?_); go_simp
    first | (refine hK _ _ ?_; clear hK K) | (apply Exists.intro; apply And.intro; (focus (intro wk hk; go_simp; exact ⟨rfl, rfl⟩)); refine hK _ _ ?_; clear hK K)
    -- 15: load<31> *t5
    refine stepK rfl (by kernel_rfl) (fun K hK => ?_); go_simp
    first | (refine hK _ _ ?_; clear hK K) | (apply Exists.intro; apply And.intro; (focus exact kLoad rfl rfl aggT31 ra rfl id); refine hK _ _ ?_; clear hK K)
    -- 16: call F41(t44, t45)
    refine stepS _ rfl (by kernel_rfl) (fun K hK => ?_); go_simp
    refine ⟨?_, ?_⟩
    · intro wk hk hg hu; go_simp; refine upon_enter ((k41.out _ (sb.below hk.undrew.below)).mono ?_); rintro e w' ⟨v, rfl, hv, hb9⟩; exact ⟨_, rfl, left_F rfl rfl hb9 trivial hv.bs⟩
    rintro ⟨v16, lo16, hi16⟩ - - -
    refine hK _ _ ?_; clear hK K
    -- 17: convert<33->9> t46
    refine stepS _ rfl (by kernel_rfl) (fun K hK => ?_); go_simp
    refine ⟨?_, ?_⟩
    · intro wk hk hg hu; have u16 := hu 16 (show 16 ∈ [16] by decide); have b16 : Bs wk v16 l2 := u16; have cv := Bs.conv b16 ne2.out; rw [hB2.out] at cv; go_simp; exact left_V (p := fun u => u = .string B2) rfl (Below.refl _ _) rfl
    rintro ⟨v17, lo17, hi17⟩ - - (rfl : v17 = _)
    refine hK _ _ ?_; clear hK K
    -- 18: eql<9> t43, t47
    refine stepK rfl (by kernel_rfl) (fun K hK => ?_); go_simp
    first | (refine hK _ _ ?_; clear hK K) | (apply Exists.intro; apply And.intro; (focus (intro wk hk; go_simp; exact ⟨rfl, rfl⟩)); refine hK _ _ ?_; clear hK K)
    -- 19: pick t39 ? t48 : false
    refine stepK rfl (by kernel_rfl) (fun K hK => ?_); go_simp
    apply Exists.intro; apply And.intro; (focus (intro wk hk; go_simp; exact ⟨rfl, rfl⟩)); refine hK _ _ ?_; clear hK K
    -- 20: t49
    refine stepK rfl (by kernel_rfl) (fun K hK => ?_); go_simp
    apply Exists.intro; apply And.intro; (focus (intro wk hk; go_simp; exact ⟨rfl, rfl⟩)); refine hK _ _ ?_; clear hK K
    -- 21: t7
    refine stepK rfl (by kernel_rfl) (fun K hK => ?_); go_simp
    first | (refine hK _ _ ?_; clear hK K) | (apply Exists.intro; apply And.intro; (focus (intro wk hk; go_simp; exact ⟨rfl, rfl⟩)); refine hK _ _ ?_; clear hK K)
    -- 22: load<35> *t8
    refine stepK rfl (by kernel_rfl) (fun K hK => ?_); go_simp
    first | (refine hK _ _ ?_; clear hK K) | (apply Exists.intro; apply And.intro; (focus exact kLoad rfl rfl aggT35 rh hsz35.out id); refine hK _ _ ?_; clear hK K)
    -- 23: call F42(t51, t52)
    refine stepS _ rfl (by kernel_rfl) (fun K hK => ?_); go_simp
    refine ⟨?_, ?_⟩
    · intro wk hk hg hu; go_simp; refine upon_enter ((k42.out _ (sg.below hk.undrew.below)).mono ?_); rintro e w' ⟨v, rfl, hv, hb9⟩; exact ⟨_, rfl, left_F rfl rfl hb9 trivial hv.bs⟩
    rintro ⟨v23, lo23, hi23⟩ - - -
    refine hK _ _ ?_; clear hK K
    -- 24: convert<33->9> t53
    refine stepS _ rfl (by kernel_rfl) (fun K hK => ?_); go_simp
    refine ⟨?_, ?_⟩
    · intro wk hk hg hu; have u23 := hu 23 (show 23 ∈ [23] by decide); have b23 : Bs wk v23 l3 := u23; have cv := Bs.conv b23 ne3.out; rw [hB3.out] at cv; go_simp; exact left_V (p := fun u => u = .string B3) rfl (Below.refl _ _) rfl
    rintro ⟨v24, lo24, hi24⟩ - - (rfl : v24 = _)
    refine hK _ _ ?_; clear hK K
    -- 25: t0
    refine stepK rfl (by kernel_rfl) (fun K hK => ?_); go_simp
    first | (refine hK _ _ ?_; clear hK K) | (apply Exists.intro; apply And.intro; (focus (intro wk hk; go_simp; exact ⟨rfl, rfl⟩)); refine hK _ _ ?_; clear hK K)
    -- 26: load<35> *t8
    refine stepK rfl (by kernel_rfl) (fun K hK => ?_); go_simp
    first | (refine hK _ _ ?_; clear hK K) | (apply Exists.intro; apply And.intro; (focus exact kLoad rfl rfl aggT35 rh hsz35.out id); refine hK _ _ ?_; clear hK K)
    -- 27: call F43(t55, t56)
    refine stepS _ rfl (by kernel_rfl) (fun K hK => ?_); go_simp
    refine ⟨?_, ?_⟩
    · intro wk hk hg hu; go_simp; refine upon_enter ((k43.out _ (sb.below hk.undrew.below)).mono ?_); rintro e w' ⟨v, rfl, hv, hb9⟩; exact ⟨_, rfl, left_F rfl rfl hb9 trivial hv.bs⟩
    rintro ⟨v27, lo27, hi27⟩ - - -
    refine hK _ _ ?_; clear hK K
    -- 28: convert<33->9> t57
    refine stepS _ rfl (by kernel_rfl) (fun K hK => ?_); go_simp
    refine ⟨?_, ?_⟩
    · intro wk hk hg hu; have u27 := hu 27 (show 27 ∈ [27] by decide); have b27 : Bs wk v27 l3 := u27; have cv := Bs.conv b27 ne3.out; rw [hB3.out] at cv; go_simp; exact left_V (p := fun u => u = .string B3) rfl (Below.refl _ _) rfl
    rintro ⟨v28, lo28, hi28⟩ - - (rfl : v28 = _)
    refine hK _ _ ?_; clear hK K
    -- 29: eql<9> t54, t58
    refine stepK rfl (by kernel_rfl) (fun K hK => ?_); go_simp
    first | (refine hK _ _ ?_; clear hK K) | (apply Exists.intro; apply And.intro; (focus (intro wk hk; go_simp; exact ⟨rfl, rfl⟩)); refine hK _ _ ?_; clear hK K)
    -- 30: pick t50 ? t59 : false
    refine stepK rfl (by kernel_rfl) (fun K hK => ?_); go_simp
    apply Exists.intro; apply And.intro; (focus (intro wk hk; go_simp; exact ⟨rfl, rfl⟩)); refine hK _ _ ?_; clear hK K
    -- 31: t60
    refine stepK rfl (by kernel_rfl) (fun K hK => ?_); go_simp
    apply Exists.intro; apply And.intro; (focus (intro wk hk; go_simp; exact ⟨rfl, rfl⟩)); refine hK _ _ ?_; clear hK K
    -- 32: t7
    refine stepK rfl (by kernel_rfl) (fun K hK => ?_); go_simp
    first | (refine hK _ _ ?_; clear hK K) | (apply Exists.intro; apply And.intro; (focus (intro wk hk; go_simp; exact ⟨rfl, rfl⟩)); refine hK _ _ ?_; clear hK K)
    -- 33: t0
    refine stepK rfl (by kernel_rfl) (fun K hK => ?_); go_simp
    first | (refine hK _ _ ?_; clear hK K) | (apply Exists.intro; apply And.intro; (focus (intro wk hk; go_simp; exact ⟨rfl, rfl⟩)); refine hK _ _ ?_; clear hK K)
    -- 34: call F44(t62, t63)
    refine stepS _ rfl (by kernel_rfl) (fun K hK => ?_); go_simp
    refine ⟨?_, ?_⟩
    · intro wk hk hg hu; go_simp; refine upon_enter ((k44.out _ (sg.below hk.undrew.below) (sb.below hk.undrew.below)).mono ?_); rintro e w' ⟨v, rfl, hv, hb9⟩; exact ⟨_, rfl, left_F rfl rfl hb9 trivial hv.bs⟩
    rintro ⟨v34, lo34, hi34⟩ - - -
    refine hK _ _ ?_; clear hK K
    -- 35: convert<33->9> t64
    refine stepS _ rfl (by kernel_rfl) (fun K hK => ?_); go_simp
    refine ⟨?_, ?_⟩
    · intro wk hk hg hu; have u34 := hu 34 (show 34 ∈ [34] by decide); have b34 : Bs wk v34 l4 := u34; have cv := Bs.conv b34 ne4.out; rw [hB4.out] at cv; go_simp; exact left_V (p := fun u => u = .string B4) rfl (Below.refl _ _) rfl
    rintro ⟨v35, lo35, hi35⟩ - - (rfl : v35 = _)
    refine hK _ _ ?_; clear hK K
    -- 36: t0
    refine stepK rfl (by kernel_rfl) (fun K hK => ?_); go_simp
    first | (refine hK _ _ ?_; clear hK K) | (apply Exists.intro; apply And.intro; (focus (intro wk hk; go_simp; exact ⟨rfl, rfl⟩)); refine hK _ _ ?_; clear hK K)
    -- 37: t0
    refine stepK rfl (by kernel_rfl) (fun K hK => ?_); go_simp
    first | (refine hK _ _ ?_; clear hK K) | (apply Exists.intro; apply And.intro; (focus (intro wk hk; go_simp; exact ⟨rfl, rfl⟩)); refine hK _ _ ?_; clear hK K)
    -- 38: call F45(t66, t67)
    refine stepS _ rfl (by kernel_rfl) (fun K hK => ?_); go_simp
    refine ⟨?_, ?_⟩
    · intro wk hk hg hu; go_simp; refine upon_enter ((k45.out _ (sb.below hk.undrew.below) (sb.below hk.undrew.below)).mono ?_); rintro e w' ⟨v, rfl, hv, hb9⟩; exact ⟨_, rfl, left_F rfl rfl hb9 trivial hv.bs⟩
    rintro ⟨v38, lo38, hi38⟩ - - -
    refine hK _ _ ?_; clear hK K
    -- 39: convert<33->9> t68
    refine stepS _ rfl (by kernel_rfl) (fun K hK => ?_); go_simp
    refine ⟨?_, ?_⟩
    · intro wk hk hg hu; have u38 := hu 38 (show 38 ∈ [38] by decide); have b38 : Bs wk v38 l4 := u38; have cv := Bs.conv b38 ne4.out; rw [hB4.out] at cv; go_simp; exact left_V (p := fun u => u = .string B4) rfl (Below.refl _ _) rfl
    rintro ⟨v39, lo39, hi39⟩ - - (rfl : v39 = _)
    refine hK _ _ ?_; clear hK K
    -- 40: eql<9> t65, t69
    refine stepK rfl (by kernel_rfl) (fun K hK => ?_); go_simp
    first | (refine hK _ _ ?_; clear hK K) | (apply Exists.intro; apply And.intro; (focus (intro wk hk; go_simp; exact ⟨rfl, rfl⟩)); refine hK _ _ ?_; clear hK K)
    -- 41: pick t61 ? t70 : false
    refine stepK rfl (by kernel_rfl) (fun K hK => ?_); go_simp
    apply Exists.intro; apply And.intro; (focus (intro wk hk; go_simp; exact ⟨rfl, rfl⟩)); refine hK _ _ ?_; clear hK K
    -- 42: assign t71
    refine stepK rfl (by kernel_rfl) (fun K hK => ?_); go_simp
    apply Exists.intro; apply And.intro; (focus (intro wk hk; go_simp; exact ⟨rfl, rfl⟩)); refine hK _ _ ?_; clear hK K
    refine stepN ?_
    refine hQ _ _ ?_
    intro w5 hT hG hF
    have hb5 := hT.undrew.below
    replace sb := sb.below hb5
    replace sall := sall.below hb5
    replace hl := hl.trans (hb5.mono hl.size)
    clear hT hG hF hb5 hQ QQ L ra rh sg k38 k39 k40 k41 k42 k43 k44 k45 hB1 hB2 hB3 hB4 ne1 ne2 ne3 ne4
    have hsz : (strOfNums xs).size = n := by rw [strOfNums_size, hn]
    have hcat := str_app xs spare
    rw [show strOfNums spare = ByteArray.mk #[115, 112, 97, 114, 101] from rfl] at hcat
    obtain ⟨Bx, hBx0⟩ : ∃ B, strOfNums xs = B := ⟨_, rfl⟩
    obtain ⟨BA, hBA0⟩ : ∃ B, strOfNums (xs ++ spare) = B := ⟨_, rfl⟩
    rw [hBx0, hBA0] at hcat
    rw [hBx0] at hsz
    have w5 : IntKind.i64.wrap ((n : Int) + 5) = (n : Int) + 5 := by rw [IntKind.wrap_i64]; omega
    have t5 : ((n : Int) + 5).toNat = n + 5 := by omega
    have p5 : (0 : Int) ≤ (n : Int) + 5 := by omega
    have q5 : ¬ 9223372036854775807 < n + 5 := by omega
    have hBx := Lib.hid hBx0
    have hBA := Lib.hid hBA0
    clear hBx0 hBA0
    go_upto_region 6 with (fail)
    refine wp_abs (fun wx => Below w.heap.size w wx ∧ Bs wx (.slice q n c) xs ∧ Bs wx (.slice (some ⟨g, 0, none⟩) (n + 5) cap) (xs ++ spare)) ⟨hl, sb, sall⟩ ?_
    clear hl sb sall
    rintro w6 ⟨hl, sb, sall⟩
    let L : List Sp := [sV 14 [] [] (fun u => u = .bool true)]
    refine wp_region_six7 (shs L) (look6 L) (None_) (by kernel_rfl) (by kernel_rfl) (mk_St L [] [] (by kernel_rfl) (by kernel_rfl) ⟨ok_V ⟨_, rfl⟩, trivial⟩ (by simp)) ?_
    intro QQ hQ
    -- 0: t9
    refine stepK rfl (by kernel_rfl) (fun K hK => ?_); go_simp
    apply Exists.intro; apply And.intro; (focus (intro wk hk; go_simp; exact ⟨rfl, rfl⟩)); refine hK _ _ ?_; clear hK K
    -- 1: t72
    refine stepK rfl (by kernel_rfl) (fun K hK => ?_); go_simp
    apply Exists.intro; apply And.intro; (focus (intro wk hk; go_simp; exact ⟨rfl, rfl⟩)); refine hK _ _ ?_; clear hK K
    -- 2: t7
    refine stepK rfl (by kernel_rfl) (fun K hK => ?_); go_simp
    first | (refine hK _ _ ?_; clear hK K) | (apply Exists.intro; apply And.intro; (focus (intro wk hk; go_simp; exact ⟨rfl, rfl⟩)); refine hK _ _ ?_; clear hK K)
    -- 3: t0
    refine stepK rfl (by kernel_rfl) (fun K hK => ?_); go_simp
    first | (refine hK _ _ ?_; clear hK K) | (apply Exists.intro; apply And.intro; (focus (intro wk hk; go_simp; exact ⟨rfl, rfl⟩)); refine hK _ _ ?_; clear hK K)
    -- 4: call builtin len<33>(t75)
    refine stepK rfl (by kernel_rfl) (fun K hK => ?_); go_simp
    first | (refine hK _ _ ?_; clear hK K) | (apply Exists.intro; apply And.intro; (focus (intro wk hk; go_simp; exact ⟨rfl, rfl⟩)); refine hK _ _ ?_; clear hK K)
    -- 5: add<3> t76, 5
    refine stepK rfl (by kernel_rfl) (fun K hK => ?_); go_simp
    first | (refine hK _ _ ?_; clear hK K) | (apply Exists.intro; apply And.intro; (focus (intro wk hk; go_simp; exact ⟨rfl, rfl⟩)); refine hK _ _ ?_; clear hK K)
    -- 6: slice<33> t74[:t77:]
    refine stepK rfl (by kernel_rfl) (fun K hK => ?_); go_simp
    first | (refine hK _ _ ?_; clear hK K) | (apply Exists.intro; apply And.intro; (focus (intro wk hk; go_simp; exact ⟨rfl, rfl⟩)); refine hK _ _ ?_; clear hK K)
    -- 7: convert<33->9> t78
    refine stepK rfl (by kernel_rfl) (fun K hK => ?_); go_simp
    first | (refine hK _ _ ?_; clear hK K) | (apply Exists.intro; apply And.intro; (focus (intro wk hk; have cv := Bs.conv (sall.below hk.undrew.below) neA.out; rw [hBA.out] at cv; go_simp; exact ⟨rfl, rfl⟩)); refine hK _ _ ?_; clear hK K)
    -- 8: t0
    refine stepK rfl (by kernel_rfl) (fun K hK => ?_); go_simp
    first | (refine hK _ _ ?_; clear hK K) | (apply Exists.intro; apply And.intro; (focus (intro wk hk; go_simp; exact ⟨rfl, rfl⟩)); refine hK _ _ ?_; clear hK K)
    -- 9: convert<33->9> t80
    refine stepK rfl (by kernel_rfl) (fun K hK => ?_); go_simp
    first | (refine hK _ _ ?_; clear hK K) | (apply Exists.intro; apply And.intro; (focus (intro wk hk; have cv := Bs.conv' (sb.below hk.undrew.below); rw [hBx.out] at cv; go_simp; exact ⟨rfl, rfl⟩)); refine hK _ _ ?_; clear hK K)
    -- 10: add<9> t81, str(ByteArray.mk (List.toArray (List.cons 115 (List.cons 112 (List.cons 97 (List.co
    refine stepK rfl (by kernel_rfl) (fun K hK => ?_); go_simp
    first | (refine hK _ _ ?_; clear hK K) | (apply Exists.intro; apply And.intro; (focus (intro wk hk; go_simp; exact ⟨rfl, rfl⟩)); refine hK _ _ ?_; clear hK K)
    -- 11: eql<9> t79, t82
    refine stepK rfl (by kernel_rfl) (fun K hK => ?_); go_simp
    first | (refine hK _ _ ?_; clear hK K) | (apply Exists.intro; apply And.intro; (focus (intro wk hk; go_simp; exact ⟨rfl, rfl⟩)); refine hK _ _ ?_; clear hK K)
    -- 12: pick t73 ? t83 : false
    refine stepK rfl (by kernel_rfl) (fun K hK => ?_); go_simp
    apply Exists.intro; apply And.intro; (focus (intro wk hk; go_simp; exact ⟨rfl, rfl⟩)); refine hK _ _ ?_; clear hK K
    -- 13: t84
    refine stepK rfl (by kernel_rfl) (fun K hK => ?_); go_simp
    apply Exists.intro; apply And.intro; (focus (intro wk hk; go_simp; exact ⟨rfl, rfl⟩)); refine hK _ _ ?_; clear hK K
    -- 14: call F37()
    refine stepS _ rfl (by kernel_rfl) (fun K hK => ?_); go_simp
    refine ⟨?_, ?_⟩
    · intro wk hk hg hu; go_simp; refine upon_enter ((lv.out _).mono ?_); rintro e w' ⟨rfl, hb⟩; exact ⟨_, rfl, left_V (p := fun u => u = .bool true) rfl (hb) rfl⟩
    rintro ⟨v14, lo14, hi14⟩ - - (rfl : v14 = _)
    refine hK _ _ ?_; clear hK K
    -- 15: pick t85 ? t86 : false
    refine stepK rfl (by kernel_rfl) (fun K hK => ?_); go_simp
    apply Exists.intro; apply And.intro; (focus (intro wk hk; go_simp; exact ⟨rfl, rfl⟩)); refine hK _ _ ?_; clear hK K
    -- 16: assign t87
    refine stepK rfl (by kernel_rfl) (fun K hK => ?_); go_simp
    apply Exists.intro; apply And.intro; (focus (intro wk hk; go_simp; exact ⟨rfl, rfl⟩)); refine hK _ _ ?_; clear hK K
    refine stepN ?_
    refine hQ _ _ ?_
    intro w7 hT hG hF
    have hbw7 := hT.undrew.below
    replace hl := hl.trans (hbw7.mono hl.size)
    clear hT hG hF hbw7 hQ QQ L 
    go_wp2_with fail
    go_ret
    exact ⟨rfl, hl⟩
end Go.Proofs.Ytpdenhmkpiafiaa
namespace Go.Proofs.Ytpdenhmkpiafiaa.octetPuts
open Go Go.ChangeShapes Go.WideShapes Go.ChangeAt Go.RowKit
set_option linter.unusedVariables false

set_option maxRecDepth 100000 in
theorem lifted (os : Os) (started : os.Started) (H : Type) (enc : TypeId × Value → H) :
    ReturnsInHanded {} Try.checked os 4 .any (Rows.octetPutsSpec.pre6 enc Try.prog Try.f4 Rows.octetPutsRow.domain false) (Rows.octetPutsSpec.post enc Try.prog Try.f4 false true false false) := by
  refine returnsInHanded_of_change (C := Try.checked) own started (by kernel_rfl) Try.func4
    (ChangeSpec.witness6 (enc := enc) (C := Try.checked) false ⟨#[], #[.slice none 0 0, .int .i64 0, .agg #[.int .u64 0, .int .u64 0, .int .u64 0, .int .u64 0]], []⟩ 8 (by kernel_rfl) (by kernel_rfl) (by kernel_rfl) (by kernel_rfl)) ?_
  intro W base args ds gs before hval0 hW hcnd _
  have hval : ∀ (j : Nat) t v, Try.f4.params[j]? = some t → args[j]? = some v → Value.okWide Try.prog W .any base t v := hval0
  have hW' := hW
  obtain ⟨p, q, hA0, hV, rfl, hfz, hnd⟩ := hW
  have hA : DataW.TrodAll enc Try.prog W 0 (fun _ => true) true Try.f4.params.toList args.toList ds p := hA0
  rw [Try.params4] at hA hval
  obtain ⟨v0, vs0, d0, ds0, p0, q0, hargs, rfl, rfl, h0, r0⟩ := trodAll_cons hA
  obtain ⟨v1, vs1, d1, ds1, p1, q1, rfl, rfl, rfl, h1, r1⟩ := trodAll_cons r0
  obtain ⟨v2, vs2, d2, ds2, p2, q2, rfl, rfl, rfl, h2, r2⟩ := trodAll_cons r1
  obtain ⟨rfl, rfl, rfl⟩ := trodAll_nil r2
  obtain rfl : args = #[v0, v1, v2] := by cases args; simp_all
  obtain ⟨rfl, rfl⟩ := trodVars_none hV
  obtain ⟨qxs, cxs, xs, rfl, hbxs, hrxs⟩ := open_S (hval 0 33 v0 rfl rfl) h0
  obtain ⟨m, rfl, -, -, hwm⟩ := Go.ChangeShapes.open_int Try.underlying3 (hval 1 3 v1 rfl rfl) h1
  obtain ⟨a, rfl, ha⟩ := words_U4 (open_W (hval 2 31 v2 rfl rfl) h2)
  clear hA0 hval0
  refine (puts_walk qxs cxs xs m a (int_hi hwm) ha W hbxs).mono fun e W' ⟨he, hg⟩ => ?_
  subst he
  exact ⟨_, rfl, law_post laidOut Try.underlying4 hW' rfl rfl rfl (by rw [Try.params4]; intro t ht; simp at ht; rcases ht with rfl | rfl | rfl <;> exact ⟨by kernel_rfl, of_decide_eq_true (by kernel_rfl)⟩) hg⟩

theorem closed : joinedFacts Try.prog 4 Try.f4 Rows.octetPutsSpec Rows.octetPutsRow = true := by
  unfold joinedFacts
  rw [head_enter, head_final, head_make]
  kernel_rfl

theorem over : Rows.octetPutsRow.holds Try.pinned (OpenSpec.ofChange Rows.octetPutsSpec) :=
  OpenClaim.holds_of_wide 4 Try.f4 rfl rfl rfl rfl rfl rfl rfl ⟨rfl, rfl, rfl, rfl, rfl⟩ rfl rfl rfl rfl rfl (by kernel_rfl) Try.func4 closed
    (of_decide_eq_true (by kernel_rfl)) (by unfold Func.isWrapper; first | (rw [if_pos (by decide +kernel)]; kernel_rfl) | (rw [if_neg (by decide +kernel)]; exact ⟨rfl, rfl⟩))
    (fun os started H enc _ => lifted os started H enc)

theorem octetPuts : Rows.OctetPutsSaid :=
  over
#print axioms octetPuts
end Go.Proofs.Ytpdenhmkpiafiaa.octetPuts
