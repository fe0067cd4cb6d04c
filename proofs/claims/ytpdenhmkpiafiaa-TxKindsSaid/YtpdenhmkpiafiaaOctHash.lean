/-
  A hash behind bytes: octet.Hash (42).
-/
import Derived.Test.YtpdenhmkpiafiaaOctAmt
import Derived.Test.YtpdenhmkpiafiaaOctK7
namespace Go.Proofs.Ytpdenhmkpiafiaa
open Go Go.RowKit K6

theorem Ob_new0 (w : World) : Ob (w.alloc (.cells #[] 5)) w.heap.size (.slice (some ⟨w.heap.size, 0, none⟩) 0 0) [] := ⟨rfl, .inr ⟨w.heap.size, 0, #[], rfl, Nat.le_refl _, Row.new_at (t := 5) (cs := #[]) rfl, Nat.le_refl _, Nat.zero_le _, rfl, rfl⟩⟩
theorem Bs_row {w : World} {b t n : Nat} {ys : List Int} (h : Row w b t (bv ys).toArray) (hn : ys.length = n) : Bs w (.slice (some ⟨b, 0, none⟩) n n) ys := by
  subst hn
  refine ⟨_, _, rfl, (fun h => (by cases h)), fun a ha j u hj => ?_⟩
  cases ha
  rw [add_at, Nat.zero_add, h.cell]
  simpa using hj
set_option maxRecDepth 100000 in
set_option maxHeartbeats 8000000 in
theorem hash_put (u : Value) (xs hs : List Int) (w : World) (h : Bs w u xs) (hL0 : xs.length ≤ 10000000) (hh : hs.length = 32) :
    Calls Try.prog 42 #[u, .agg (bv hs).toArray] w fun e w' => ∃ v, e = .returned v ∧ Ob w' w.heap.size v (xs ++ hs) ∧ Below w.heap.size w w' := by
  have hL := Lib.hid (show xs.length ≤ 100000000 by omega)
  have hH := Lib.hid hh
  obtain ⟨z3, hz3e⟩ : ∃ z, xs ++ hs = z := ⟨_, rfl⟩
  have hz3 := Lib.hid hz3e
  have hfin := Lib.hid hz3e.symm
  clear hz3e
  have hb0 := h
  clear h hL0 hh
  go_enter Try.func42, Try.ntmps42
  apply wp_seq_eq
  focus
    intro J hJ
    go_wp2_with fail
    exact hJ
  refine wp_abs (Mem w [(w.heap.size, 35, (bv hs).toArray)]) ⟨by go_grown, Row.new_at rfl, trivial⟩ ?_
  intro w0 hM
  obtain ⟨hl, rh, -⟩ := hM
  have hb := hb0.below hl
  clear hb0
  go_upto_region 1 with (fail)
  let L : List Sp := [sQ 1 [] [] [] [3] w0.heap.size xs (fun _ => True), sQ 3 [1] [1] [1] [] w0.heap.size z3 (fun _ => True)]
  refine wp_region_six7 (shs L) (look6 L) (None_) (by kernel_rfl) (by kernel_rfl) (mk_St L [] [] (by kernel_rfl) (by kernel_rfl) ⟨ok_Q ⟨undef, trivial⟩ (by simp), ok_Q ⟨undef, trivial⟩ (by simp), trivial⟩ (by simp)) ?_
  intro QQ hQ
  -- 0: t0
  refine stepK rfl (by kernel_rfl) (fun K hK => ?_); go_simp
  apply Exists.intro; apply And.intro; (focus (intro wk hk; go_simp; exact ⟨rfl, rfl⟩)); refine hK _ _ ?_; clear hK K
  -- 1: call F157(t5)
  refine stepS _ rfl (by kernel_rfl) (fun K hK => ?_); go_simp
  refine ⟨?_, ?_⟩
  · intro wk hk hg hu; have hb9 := hb.below hk.undrew.below; go_simp; refine upon_enter ((clone_any u xs wk hb9 hL.out).mono ?_); rintro e w' ⟨v, rfl, ho, hbb⟩; exact ⟨_, rfl, left_Qc rfl rfl ho hbb hk.undrew.size trivial⟩
  rintro ⟨v1, lo1, hi1⟩ - - -
  refine hK _ _ ?_; clear hK K
  -- 2: slice<35> t3[::]
  refine stepK rfl (by kernel_rfl) (fun K hK => ?_); go_simp
  apply Exists.intro; apply And.intro; (focus (intro wk hk; go_simp; exact ⟨rfl, rfl⟩)); refine hK _ _ ?_; clear hK K
  -- 3: call builtin append<33,33>(t6, t7)
  refine stepS _ rfl (by kernel_rfl) (fun K hK => ?_); go_simp
  refine ⟨?_, ?_⟩
  · intro wk hk hg hu; have u1 := hu 1 (show 1 ∈ [1] by decide); have o1 : OwnF 1 [] w0.heap.size (xs) _ wk := u1; have p1 : Ob wk w0.heap.size v1 (xs) := o1.1; have s9 := (Bs_row (K6.Row.tr rh hk.undrew id) hH.out); obtain ⟨v', w', hrun, ho2, hgb, hw⟩ := append_run p1 s9 (by have := hL.out; have := hH.out; omega) hk.undrew.size; rw [run_append_op rfl rfl rfl hrun]; exact left_Qa rfl rfl (by decide) o1.2 hgb (by rw [← hz3.out]; exact ho2) hw trivial
  rintro ⟨v3, lo3, hi3⟩ - - -
  refine hK _ _ ?_; clear hK K
  -- 4: assign t8
  refine stepK rfl (by kernel_rfl) (fun K hK => ?_); go_simp
  apply Exists.intro; apply And.intro; (focus (intro wk hk; go_simp; exact ⟨rfl, rfl⟩)); refine hK _ _ ?_; clear hK K
  refine stepN ?_
  refine hQ _ _ ?_
  intro w3 hT hG hF
  have hb3 := hT.undrew.below
  have o9 : OwnF 3 [1] w0.heap.size z3 _ w3 := hF 3 _ rfl rfl (by decide)
  have H := Lib.hid (show _ ∧ _ from ⟨(show Ob w3 w0.heap.size v3 z3 from o9.1).base hl.size, hl.trans (hb3.mono hl.size)⟩)
  clear hT hG hF hb3 hQ QQ L o9 hl hb
  go_wp2_with fail
  go_ret
  exact ⟨_, rfl, by rw [← hfin.out]; exact H.out.1, H.out.2⟩
end Go.Proofs.Ytpdenhmkpiafiaa
