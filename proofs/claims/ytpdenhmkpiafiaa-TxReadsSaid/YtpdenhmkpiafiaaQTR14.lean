/-
 What the statement rests on, part 15: TxSameR TxPut2.
-/
import Derived.Test.YtpdenhmkpiafiaaQTR8
import Derived.Test.YtpdenhmkpiafiaaQTR10
import Derived.Test.YtpdenhmkpiafiaaQTR13
namespace Go.Proofs.Ytpdenhmkpiafiaa
open Go Go.RowKit K6
set_option maxRecDepth 100000 in
set_option maxHeartbeats 64000000 in
theorem rtxsame_at (t u : Txv) (w : World) (ht : TxOk w t) (hu : TxOk w u) (hl : LightT t) :
  Calls Try.prog 141 #[.agg t.cs.toArray, .agg u.cs.toArray] w fun r w' => r = .returned (.bool (decide (t.key = u.key))) ∧ Below w.heap.size w w' := by
 have kI := fun wx (hb : Below w.heap.size w wx) => isRef_at t.nv u.nv t.n u.n wx (ht.n.below hb) (hu.n.below hb) (by have := hl.n; omega)
 have kU := fun wx (hb : Below w.heap.size w wx) => usRef_at t.av u.av t.a u.a wx (ht.a.below hb) (hu.a.below hb) ht.ab hu.ab (by have := hl.a; omega)
 have kH := fun wx (hb : Below w.heap.size w wx) => hsRef_at t.hv u.hv t.h u.h wx (ht.h.below hb) (hu.h.below hb) (fun y hy => (ht.hb y hy).1) (fun y hy => (hu.hb y hy).1) (by have := hl.h; omega)
 have kC := fun wx (hb : Below w.heap.size w wx) => rsameClaim_at t.c u.c wx (ht.c.below hb) (hu.c.below hb) (by have := hl.p; omega) (by have := hl.l; omega) (fun e he => by have := hl.q e he; omega)
 unfold Txv.nv at kI
 unfold Txv.av at kU
 unfold Txv.hv at kH
 obtain ⟨bI, hI⟩ : ∃ b, decide (t.n = u.n) = b := ⟨_, rfl⟩
 obtain ⟨bU, hU⟩ : ∃ b, decide (t.a = u.a) = b := ⟨_, rfl⟩
 obtain ⟨bH, hH⟩ : ∃ b, decide (t.h = u.h) = b := ⟨_, rfl⟩
 obtain ⟨bC, hC⟩ : ∃ b, decide (t.c.key = u.c.key) = b := ⟨_, rfl⟩
 rw [hI] at kI
 rw [hU] at kU
 rw [hH] at kH
 rw [hC] at kC
 obtain ⟨b, hb⟩ : ∃ b, decide (t.key = u.key) = b := ⟨_, rfl⟩
 rw [hb]
 have HB := Lib.hid (show ((t.k ≠ u.k ∨ t.f ≠ u.f ∨ bI = false ∨ bU = false ∨ bH = false) → b = false) ∧ (t.k = u.k → t.f = u.f → bI = true → bU = true → bH = true → bC = b) from by
  subst hb hI hU hH hC
  constructor
  ·intro h
   refine decide_eq_false fun he => ?_
   unfold Txv.key at he
   simp only [Prod.mk.injEq] at he
   obtain ⟨e1, e2, e3, e4, e5, -⟩ := he
   rcases h with h | h | h | h | h
   ·exact h e1
   ·exact h e2
   ·rw [decide_eq_true e3] at h; cases h
   ·rw [decide_eq_true e4] at h; cases h
   ·rw [decide_eq_true e5] at h; cases h
  ·intro e1 e2 e3 e4 e5
   rw [Bool.eq_iff_iff, decide_eq_true_eq, decide_eq_true_eq]
   unfold Txv.key
   simp only [Prod.mk.injEq]
   exact ⟨fun h => ⟨e1, e2, of_decide_eq_true e3, of_decide_eq_true e4, of_decide_eq_true e5, h⟩, fun h => h.2.2.2.2.2⟩)
 clear hb hI hU hH hC
 have x0 := tA0 t
 have x1 := tA1 t
 have x2 := tA2 t
 have x3 := tA3 t
 have x4 := tA4 t
 have xm := Txv.c_ t
 have xs : t.c.cs.toArray.size = 38 := by rw [List.size_toArray]; exact Cm.len ht.c.tok
 have y0 := tA0 u
 have y1 := tA1 u
 have y2 := tA2 u
 have y3 := tA3 u
 have y4 := tA4 u
 have ym := Txv.c_ u
 have ys : u.c.cs.toArray.size = 38 := by rw [List.size_toArray]; exact Cm.len hu.c.tok
 obtain ⟨nq1, hnq1⟩ : ∃ q, t.nq = q := ⟨_, rfl⟩
 obtain ⟨nc1, hnc1⟩ : ∃ q, t.nc = q := ⟨_, rfl⟩
 obtain ⟨aq1, haq1⟩ : ∃ q, t.aq = q := ⟨_, rfl⟩
 obtain ⟨ac1, hac1⟩ : ∃ q, t.ac = q := ⟨_, rfl⟩
 obtain ⟨hq1, hhq1⟩ : ∃ q, t.hq = q := ⟨_, rfl⟩
 obtain ⟨hc1, hhc1⟩ : ∃ q, t.hc = q := ⟨_, rfl⟩
 obtain ⟨ln1, hln1⟩ : ∃ q, t.n.length = q := ⟨_, rfl⟩
 obtain ⟨la1, hla1⟩ : ∃ q, t.a.length = q := ⟨_, rfl⟩
 obtain ⟨lh1, hlh1⟩ : ∃ q, t.h.length = q := ⟨_, rfl⟩
 obtain ⟨nq2, hnq2⟩ : ∃ q, u.nq = q := ⟨_, rfl⟩
 obtain ⟨nc2, hnc2⟩ : ∃ q, u.nc = q := ⟨_, rfl⟩
 obtain ⟨aq2, haq2⟩ : ∃ q, u.aq = q := ⟨_, rfl⟩
 obtain ⟨ac2, hac2⟩ : ∃ q, u.ac = q := ⟨_, rfl⟩
 obtain ⟨hq2, hhq2⟩ : ∃ q, u.hq = q := ⟨_, rfl⟩
 obtain ⟨hc2, hhc2⟩ : ∃ q, u.hc = q := ⟨_, rfl⟩
 obtain ⟨ln2, hln2⟩ : ∃ q, u.n.length = q := ⟨_, rfl⟩
 obtain ⟨la2, hla2⟩ : ∃ q, u.a.length = q := ⟨_, rfl⟩
 obtain ⟨lh2, hlh2⟩ : ∃ q, u.h.length = q := ⟨_, rfl⟩
 rw [hln1, hnq1, hnc1] at x2
 rw [hla1, haq1, hac1] at x3
 rw [hlh1, hhq1, hhc1] at x4
 rw [hln2, hnq2, hnc2] at y2
 rw [hla2, haq2, hac2] at y3
 rw [hlh2, hhq2, hhc2] at y4
 rw [hln1, hnq1, hnc1, hln2, hnq2, hnc2] at kI
 rw [hla1, haq1, hac1, hla2, haq2, hac2] at kU
 rw [hlh1, hhq1, hhc1, hlh2, hhq2, hhc2] at kH
 obtain ⟨ct, hct⟩ : ∃ c, t.cs.toArray = c := ⟨_, rfl⟩
 obtain ⟨cu, hcu⟩ : ∃ c, u.cs.toArray = c := ⟨_, rfl⟩
 obtain ⟨dt, hdt⟩ : ∃ c, t.c.cs.toArray = c := ⟨_, rfl⟩
 obtain ⟨du, hdu⟩ : ∃ c, u.c.cs.toArray = c := ⟨_, rfl⟩
 rw [hct] at x0 x1 x2 x3 x4 xm ⊢
 rw [hcu] at y0 y1 y2 y3 y4 ym ⊢
 rw [hdt] at xm xs kC
 rw [hdu] at ym ys kC
 obtain ⟨tk, htk⟩ : ∃ c, t.k = c := ⟨_, rfl⟩
 obtain ⟨uk, huk⟩ : ∃ c, u.k = c := ⟨_, rfl⟩
 obtain ⟨tf, htf⟩ : ∃ c, t.f = c := ⟨_, rfl⟩
 obtain ⟨uf, huf⟩ : ∃ c, u.f = c := ⟨_, rfl⟩
 rw [htk] at x0 HB
 rw [huk] at y0 HB
 rw [htf] at x1 HB
 rw [huf] at y1 HB
 replace kI := Lib.hid kI
 replace kU := Lib.hid kU
 replace kH := Lib.hid kH
 replace kC := Lib.hid kC
 clear hnq1 hnc1 haq1 hac1 hhq1 hhc1 hln1 hla1 hlh1 hnq2 hnc2 haq2 hac2 hhq2 hhc2 hln2 hla2 hlh2 hct hcu hdt hdu htk huk htf huf ht hu hl
 go_enter Try.func141, Try.ntmps141
 go_upto_region 1 with (fail)
 refine wp_abs (Mem w [(w.heap.size, 116, ct), (w.heap.size + 1, 116, cu)]) ⟨by go_grown, by (repeat (first | (refine Row.new_at ?_; simp; done) | refine Row.alloc ?_ _)), by (repeat (first | (refine Row.new_at ?_; simp; done) | refine Row.alloc ?_ _)), trivial⟩ ?_
 intro w0 hM
 obtain ⟨hl, r2, r3, -⟩ := hM
 by_cases e0 : tk = uk
 case neg =>
  have h0 : (tk == uk) = false := by rw [beq_eq_false_iff_ne]; exact e0
  have hbb := HB.out.1 (.inl e0)
  subst hbb
  clear e0 HB kI kU kH kC
  let L : List Sp := []
  refine wp_region_six0 (shs L) (look6 L) (None_) (by kernel_rfl) (by kernel_rfl) (mk_St L [] [] (by kernel_rfl) (by kernel_rfl) trivial (by simp)) ?_
  intro QQ hQ
  refine stepK rfl (by kernel_rfl) (fun K hK => ?_); go_simp
  apply Exists.intro; apply And.intro; (focus (intro wk hk; go_simp; exact ⟨rfl, rfl⟩)); refine hK _ _ ?_; clear hK K
  refine stepK rfl (by kernel_rfl) (fun K hK => ?_); go_simp
  apply Exists.intro; apply And.intro; (focus (intro wk hk; have cc : wk.cell? ⟨w.heap.size, 0, none⟩ = some (.int .i64 tk) := ((K6.Row.tr r2 hk id).cell 0).trans x0; go_simp; exact ⟨rfl, rfl⟩)); refine hK _ _ ?_; clear hK K
  refine stepK rfl (by kernel_rfl) (fun K hK => ?_); go_simp
  apply Exists.intro; apply And.intro; (focus (intro wk hk; go_simp; exact ⟨rfl, rfl⟩)); refine hK _ _ ?_; clear hK K
  refine stepK rfl (by kernel_rfl) (fun K hK => ?_); go_simp
  apply Exists.intro; apply And.intro; (focus (intro wk hk; have cc : wk.cell? ⟨w.heap.size + 1, 0, none⟩ = some (.int .i64 uk) := ((K6.Row.tr r3 hk id).cell 0).trans y0; go_simp; exact ⟨rfl, rfl⟩)); refine hK _ _ ?_; clear hK K
  iterate 2 (refine stepK rfl (by kernel_rfl) (fun K hK => ?_); go_simp; apply Exists.intro; apply And.intro; (focus (intro wk hk; go_simp; exact ⟨rfl, rfl⟩)); refine hK _ _ ?_; clear hK K)
  iterate 5 (refine stepK rfl (by kernel_rfl) (fun K hK => ?_); go_simp; (first | (refine hK _ _ ?_; clear hK K) | (apply Exists.intro; apply And.intro; (focus (intro wk hk; go_simp; exact ⟨rfl, rfl⟩)); refine hK _ _ ?_; clear hK K)))
  iterate 2 (refine stepK rfl (by kernel_rfl) (fun K hK => ?_); go_simp; apply Exists.intro; apply And.intro; (focus (intro wk hk; go_simp; exact ⟨rfl, rfl⟩)); refine hK _ _ ?_; clear hK K)
  iterate 5 (refine stepK rfl (by kernel_rfl) (fun K hK => ?_); go_simp; (first | (refine hK _ _ ?_; clear hK K) | (apply Exists.intro; apply And.intro; (focus (intro wk hk; go_simp; exact ⟨rfl, rfl⟩)); refine hK _ _ ?_; clear hK K)))
  iterate 2 (refine stepK rfl (by kernel_rfl) (fun K hK => ?_); go_simp; apply Exists.intro; apply And.intro; (focus (intro wk hk; go_simp; exact ⟨rfl, rfl⟩)); refine hK _ _ ?_; clear hK K)
  iterate 5 (refine stepK rfl (by kernel_rfl) (fun K hK => ?_); go_simp; (first | (refine hK _ _ ?_; clear hK K) | (apply Exists.intro; apply And.intro; (focus (intro wk hk; go_simp; exact ⟨rfl, rfl⟩)); refine hK _ _ ?_; clear hK K)))
  iterate 2 (refine stepK rfl (by kernel_rfl) (fun K hK => ?_); go_simp; apply Exists.intro; apply And.intro; (focus (intro wk hk; go_simp; exact ⟨rfl, rfl⟩)); refine hK _ _ ?_; clear hK K)
  iterate 5 (refine stepK rfl (by kernel_rfl) (fun K hK => ?_); go_simp; (first | (refine hK _ _ ?_; clear hK K) | (apply Exists.intro; apply And.intro; (focus (intro wk hk; go_simp; exact ⟨rfl, rfl⟩)); refine hK _ _ ?_; clear hK K)))
  iterate 2 (refine stepK rfl (by kernel_rfl) (fun K hK => ?_); go_simp; apply Exists.intro; apply And.intro; (focus (intro wk hk; go_simp; exact ⟨rfl, rfl⟩)); refine hK _ _ ?_; clear hK K)
  iterate 5 (refine stepK rfl (by kernel_rfl) (fun K hK => ?_); go_simp; (first | (refine hK _ _ ?_; clear hK K) | (apply Exists.intro; apply And.intro; (focus (intro wk hk; go_simp; exact ⟨rfl, rfl⟩)); refine hK _ _ ?_; clear hK K)))
  iterate 2 (refine stepK rfl (by kernel_rfl) (fun K hK => ?_); go_simp; apply Exists.intro; apply And.intro; (focus (intro wk hk; go_simp; exact ⟨rfl, rfl⟩)); refine hK _ _ ?_; clear hK K)
  refine stepN ?_
  refine hQ _ _ ?_
  intro w9 hT hG hF
  have H9 := Lib.hid (hl.trans (hT.below.mono hl.size))
  clear hT hG hF hQ QQ L hl r2 r3
  go_wp2_with fail
  go_ret
  exact ⟨rfl, H9.out⟩
 have h0 : (tk == uk) = true := by rw [beq_iff_eq]; exact e0
 by_cases e1 : tf = uf
 case neg =>
  have h1 : (tf == uf) = false := by rw [beq_eq_false_iff_ne]; exact e1
  have hbb := HB.out.1 (.inr (.inl e1))
  subst hbb
  clear e0 e1 HB kI kU kH kC
  let L : List Sp := []
  refine wp_region_six0 (shs L) (look6 L) (None_) (by kernel_rfl) (by kernel_rfl) (mk_St L [] [] (by kernel_rfl) (by kernel_rfl) trivial (by simp)) ?_
  intro QQ hQ
  refine stepK rfl (by kernel_rfl) (fun K hK => ?_); go_simp
  apply Exists.intro; apply And.intro; (focus (intro wk hk; go_simp; exact ⟨rfl, rfl⟩)); refine hK _ _ ?_; clear hK K
  refine stepK rfl (by kernel_rfl) (fun K hK => ?_); go_simp
  apply Exists.intro; apply And.intro; (focus (intro wk hk; have cc : wk.cell? ⟨w.heap.size, 0, none⟩ = some (.int .i64 tk) := ((K6.Row.tr r2 hk id).cell 0).trans x0; go_simp; exact ⟨rfl, rfl⟩)); refine hK _ _ ?_; clear hK K
  refine stepK rfl (by kernel_rfl) (fun K hK => ?_); go_simp
  apply Exists.intro; apply And.intro; (focus (intro wk hk; go_simp; exact ⟨rfl, rfl⟩)); refine hK _ _ ?_; clear hK K
  refine stepK rfl (by kernel_rfl) (fun K hK => ?_); go_simp
  apply Exists.intro; apply And.intro; (focus (intro wk hk; have cc : wk.cell? ⟨w.heap.size + 1, 0, none⟩ = some (.int .i64 uk) := ((K6.Row.tr r3 hk id).cell 0).trans y0; go_simp; exact ⟨rfl, rfl⟩)); refine hK _ _ ?_; clear hK K
  iterate 2 (refine stepK rfl (by kernel_rfl) (fun K hK => ?_); go_simp; apply Exists.intro; apply And.intro; (focus (intro wk hk; go_simp; exact ⟨rfl, rfl⟩)); refine hK _ _ ?_; clear hK K)
  refine stepK rfl (by kernel_rfl) (fun K hK => ?_); go_simp
  first | (refine hK _ _ ?_; clear hK K) | (apply Exists.intro; apply And.intro; (focus (intro wk hk; go_simp; exact ⟨rfl, rfl⟩)); refine hK _ _ ?_; clear hK K)
  refine stepK rfl (by kernel_rfl) (fun K hK => ?_); go_simp
  first | (refine hK _ _ ?_; clear hK K) | (apply Exists.intro; apply And.intro; (focus (intro wk hk; have cc : wk.cell? ⟨w.heap.size, 1, none⟩ = some (.int .i64 tf) := ((K6.Row.tr r2 hk id).cell 1).trans x1; go_simp; exact ⟨rfl, rfl⟩)); refine hK _ _ ?_; clear hK K)
  refine stepK rfl (by kernel_rfl) (fun K hK => ?_); go_simp
  first | (refine hK _ _ ?_; clear hK K) | (apply Exists.intro; apply And.intro; (focus (intro wk hk; go_simp; exact ⟨rfl, rfl⟩)); refine hK _ _ ?_; clear hK K)
  refine stepK rfl (by kernel_rfl) (fun K hK => ?_); go_simp
  first | (refine hK _ _ ?_; clear hK K) | (apply Exists.intro; apply And.intro; (focus (intro wk hk; have cc : wk.cell? ⟨w.heap.size + 1, 1, none⟩ = some (.int .i64 uf) := ((K6.Row.tr r3 hk id).cell 1).trans y1; go_simp; exact ⟨rfl, rfl⟩)); refine hK _ _ ?_; clear hK K)
  refine stepK rfl (by kernel_rfl) (fun K hK => ?_); go_simp
  first | (refine hK _ _ ?_; clear hK K) | (apply Exists.intro; apply And.intro; (focus (intro wk hk; go_simp; exact ⟨rfl, rfl⟩)); refine hK _ _ ?_; clear hK K)
  iterate 2 (refine stepK rfl (by kernel_rfl) (fun K hK => ?_); go_simp; apply Exists.intro; apply And.intro; (focus (intro wk hk; go_simp; exact ⟨rfl, rfl⟩)); refine hK _ _ ?_; clear hK K)
  iterate 5 (refine stepK rfl (by kernel_rfl) (fun K hK => ?_); go_simp; (first | (refine hK _ _ ?_; clear hK K) | (apply Exists.intro; apply And.intro; (focus (intro wk hk; go_simp; exact ⟨rfl, rfl⟩)); refine hK _ _ ?_; clear hK K)))
  iterate 2 (refine stepK rfl (by kernel_rfl) (fun K hK => ?_); go_simp; apply Exists.intro; apply And.intro; (focus (intro wk hk; go_simp; exact ⟨rfl, rfl⟩)); refine hK _ _ ?_; clear hK K)
  iterate 5 (refine stepK rfl (by kernel_rfl) (fun K hK => ?_); go_simp; (first | (refine hK _ _ ?_; clear hK K) | (apply Exists.intro; apply And.intro; (focus (intro wk hk; go_simp; exact ⟨rfl, rfl⟩)); refine hK _ _ ?_; clear hK K)))
  iterate 2 (refine stepK rfl (by kernel_rfl) (fun K hK => ?_); go_simp; apply Exists.intro; apply And.intro; (focus (intro wk hk; go_simp; exact ⟨rfl, rfl⟩)); refine hK _ _ ?_; clear hK K)
  iterate 5 (refine stepK rfl (by kernel_rfl) (fun K hK => ?_); go_simp; (first | (refine hK _ _ ?_; clear hK K) | (apply Exists.intro; apply And.intro; (focus (intro wk hk; go_simp; exact ⟨rfl, rfl⟩)); refine hK _ _ ?_; clear hK K)))
  iterate 2 (refine stepK rfl (by kernel_rfl) (fun K hK => ?_); go_simp; apply Exists.intro; apply And.intro; (focus (intro wk hk; go_simp; exact ⟨rfl, rfl⟩)); refine hK _ _ ?_; clear hK K)
  iterate 5 (refine stepK rfl (by kernel_rfl) (fun K hK => ?_); go_simp; (first | (refine hK _ _ ?_; clear hK K) | (apply Exists.intro; apply And.intro; (focus (intro wk hk; go_simp; exact ⟨rfl, rfl⟩)); refine hK _ _ ?_; clear hK K)))
  iterate 2 (refine stepK rfl (by kernel_rfl) (fun K hK => ?_); go_simp; apply Exists.intro; apply And.intro; (focus (intro wk hk; go_simp; exact ⟨rfl, rfl⟩)); refine hK _ _ ?_; clear hK K)
  refine stepN ?_
  refine hQ _ _ ?_
  intro w9 hT hG hF
  have H9 := Lib.hid (hl.trans (hT.below.mono hl.size))
  clear hT hG hF hQ QQ L hl r2 r3
  go_wp2_with fail
  go_ret
  exact ⟨rfl, H9.out⟩
 have h1 : (tf == uf) = true := by rw [beq_iff_eq]; exact e1
 cases bI
 ·have hbb := HB.out.1 (.inr (.inr (.inl rfl)))
  subst hbb
  clear e0 e1 HB kU kH kC
  let L : List Sp := [sV 17 [] [] (fun u => u = .bool false)]
  refine wp_region_six0 (shs L) (look6 L) (None_) (by kernel_rfl) (by kernel_rfl) (mk_St L [] [] (by kernel_rfl) (by kernel_rfl) ⟨ok_V ⟨_, rfl⟩, trivial⟩ (by simp)) ?_
  intro QQ hQ
  refine stepK rfl (by kernel_rfl) (fun K hK => ?_); go_simp
  apply Exists.intro; apply And.intro; (focus (intro wk hk; go_simp; exact ⟨rfl, rfl⟩)); refine hK _ _ ?_; clear hK K
  refine stepK rfl (by kernel_rfl) (fun K hK => ?_); go_simp
  apply Exists.intro; apply And.intro; (focus (intro wk hk; have cc : wk.cell? ⟨w.heap.size, 0, none⟩ = some (.int .i64 tk) := ((K6.Row.tr r2 hk id).cell 0).trans x0; go_simp; exact ⟨rfl, rfl⟩)); refine hK _ _ ?_; clear hK K
  refine stepK rfl (by kernel_rfl) (fun K hK => ?_); go_simp
  apply Exists.intro; apply And.intro; (focus (intro wk hk; go_simp; exact ⟨rfl, rfl⟩)); refine hK _ _ ?_; clear hK K
  refine stepK rfl (by kernel_rfl) (fun K hK => ?_); go_simp
  apply Exists.intro; apply And.intro; (focus (intro wk hk; have cc : wk.cell? ⟨w.heap.size + 1, 0, none⟩ = some (.int .i64 uk) := ((K6.Row.tr r3 hk id).cell 0).trans y0; go_simp; exact ⟨rfl, rfl⟩)); refine hK _ _ ?_; clear hK K
  iterate 2 (refine stepK rfl (by kernel_rfl) (fun K hK => ?_); go_simp; apply Exists.intro; apply And.intro; (focus (intro wk hk; go_simp; exact ⟨rfl, rfl⟩)); refine hK _ _ ?_; clear hK K)
  refine stepK rfl (by kernel_rfl) (fun K hK => ?_); go_simp
  first | (refine hK _ _ ?_; clear hK K) | (apply Exists.intro; apply And.intro; (focus (intro wk hk; go_simp; exact ⟨rfl, rfl⟩)); refine hK _ _ ?_; clear hK K)
  refine stepK rfl (by kernel_rfl) (fun K hK => ?_); go_simp
  first | (refine hK _ _ ?_; clear hK K) | (apply Exists.intro; apply And.intro; (focus (intro wk hk; have cc : wk.cell? ⟨w.heap.size, 1, none⟩ = some (.int .i64 tf) := ((K6.Row.tr r2 hk id).cell 1).trans x1; go_simp; exact ⟨rfl, rfl⟩)); refine hK _ _ ?_; clear hK K)
  refine stepK rfl (by kernel_rfl) (fun K hK => ?_); go_simp
  first | (refine hK _ _ ?_; clear hK K) | (apply Exists.intro; apply And.intro; (focus (intro wk hk; go_simp; exact ⟨rfl, rfl⟩)); refine hK _ _ ?_; clear hK K)
  refine stepK rfl (by kernel_rfl) (fun K hK => ?_); go_simp
  first | (refine hK _ _ ?_; clear hK K) | (apply Exists.intro; apply And.intro; (focus (intro wk hk; have cc : wk.cell? ⟨w.heap.size + 1, 1, none⟩ = some (.int .i64 uf) := ((K6.Row.tr r3 hk id).cell 1).trans y1; go_simp; exact ⟨rfl, rfl⟩)); refine hK _ _ ?_; clear hK K)
  refine stepK rfl (by kernel_rfl) (fun K hK => ?_); go_simp
  first | (refine hK _ _ ?_; clear hK K) | (apply Exists.intro; apply And.intro; (focus (intro wk hk; go_simp; exact ⟨rfl, rfl⟩)); refine hK _ _ ?_; clear hK K)
  iterate 2 (refine stepK rfl (by kernel_rfl) (fun K hK => ?_); go_simp; apply Exists.intro; apply And.intro; (focus (intro wk hk; go_simp; exact ⟨rfl, rfl⟩)); refine hK _ _ ?_; clear hK K)
  refine stepK rfl (by kernel_rfl) (fun K hK => ?_); go_simp
  first | (refine hK _ _ ?_; clear hK K) | (apply Exists.intro; apply And.intro; (focus (intro wk hk; go_simp; exact ⟨rfl, rfl⟩)); refine hK _ _ ?_; clear hK K)
  refine stepK rfl (by kernel_rfl) (fun K hK => ?_); go_simp
  first | (refine hK _ _ ?_; clear hK K) | (apply Exists.intro; apply And.intro; (focus (intro wk hk; have cc : wk.cell? ⟨w.heap.size, 2, none⟩ = some (.slice nq1 ln1 nc1) := ((K6.Row.tr r2 hk id).cell 2).trans x2; go_simp; exact ⟨rfl, rfl⟩)); refine hK _ _ ?_; clear hK K)
  refine stepK rfl (by kernel_rfl) (fun K hK => ?_); go_simp
  first | (refine hK _ _ ?_; clear hK K) | (apply Exists.intro; apply And.intro; (focus (intro wk hk; go_simp; exact ⟨rfl, rfl⟩)); refine hK _ _ ?_; clear hK K)
  refine stepK rfl (by kernel_rfl) (fun K hK => ?_); go_simp
  first | (refine hK _ _ ?_; clear hK K) | (apply Exists.intro; apply And.intro; (focus (intro wk hk; have cc : wk.cell? ⟨w.heap.size + 1, 2, none⟩ = some (.slice nq2 ln2 nc2) := ((K6.Row.tr r3 hk id).cell 2).trans y2; go_simp; exact ⟨rfl, rfl⟩)); refine hK _ _ ?_; clear hK K)
  refine stepS _ rfl (by kernel_rfl) (fun K hK => ?_); go_simp
  refine ⟨?_, ?_⟩
  ·intro wk hk hg hu; go_simp; refine upon_enter ((kI.out _ (hl.trans (hk.below.mono hl.size))).mono ?_); rintro e w' ⟨rfl, hb⟩; exact ⟨_, rfl, left_V (p := fun u => u = .bool false) rfl (hb) rfl⟩
  rintro ⟨v17, lo17, hi17⟩ - - (rfl : v17 = _)
  refine hK _ _ ?_; clear hK K
  iterate 2 (refine stepK rfl (by kernel_rfl) (fun K hK => ?_); go_simp; apply Exists.intro; apply And.intro; (focus (intro wk hk; go_simp; exact ⟨rfl, rfl⟩)); refine hK _ _ ?_; clear hK K)
  iterate 5 (refine stepK rfl (by kernel_rfl) (fun K hK => ?_); go_simp; (first | (refine hK _ _ ?_; clear hK K) | (apply Exists.intro; apply And.intro; (focus (intro wk hk; go_simp; exact ⟨rfl, rfl⟩)); refine hK _ _ ?_; clear hK K)))
  iterate 2 (refine stepK rfl (by kernel_rfl) (fun K hK => ?_); go_simp; apply Exists.intro; apply And.intro; (focus (intro wk hk; go_simp; exact ⟨rfl, rfl⟩)); refine hK _ _ ?_; clear hK K)
  iterate 5 (refine stepK rfl (by kernel_rfl) (fun K hK => ?_); go_simp; (first | (refine hK _ _ ?_; clear hK K) | (apply Exists.intro; apply And.intro; (focus (intro wk hk; go_simp; exact ⟨rfl, rfl⟩)); refine hK _ _ ?_; clear hK K)))
  iterate 2 (refine stepK rfl (by kernel_rfl) (fun K hK => ?_); go_simp; apply Exists.intro; apply And.intro; (focus (intro wk hk; go_simp; exact ⟨rfl, rfl⟩)); refine hK _ _ ?_; clear hK K)
  iterate 5 (refine stepK rfl (by kernel_rfl) (fun K hK => ?_); go_simp; (first | (refine hK _ _ ?_; clear hK K) | (apply Exists.intro; apply And.intro; (focus (intro wk hk; go_simp; exact ⟨rfl, rfl⟩)); refine hK _ _ ?_; clear hK K)))
  iterate 2 (refine stepK rfl (by kernel_rfl) (fun K hK => ?_); go_simp; apply Exists.intro; apply And.intro; (focus (intro wk hk; go_simp; exact ⟨rfl, rfl⟩)); refine hK _ _ ?_; clear hK K)
  refine stepN ?_
  refine hQ _ _ ?_
  intro w9 hT hG hF
  have H9 := Lib.hid (hl.trans (hT.below.mono hl.size))
  clear hT hG hF hQ QQ L hl r2 r3
  go_wp2_with fail
  go_ret
  exact ⟨rfl, H9.out⟩
 cases bU
 ·have hbb := HB.out.1 (.inr (.inr (.inr (.inl rfl))))
  subst hbb
  clear e0 e1 HB kH kC
  let L : List Sp := [sV 17 [] [] (fun u => u = .bool true), sV 24 [] [] (fun u => u = .bool false)]
  refine wp_region_six0 (shs L) (look6 L) (None_) (by kernel_rfl) (by kernel_rfl) (mk_St L [] [] (by kernel_rfl) (by kernel_rfl) ⟨ok_V ⟨_, rfl⟩, ok_V ⟨_, rfl⟩, trivial⟩ (by simp)) ?_
  intro QQ hQ
  refine stepK rfl (by kernel_rfl) (fun K hK => ?_); go_simp
  apply Exists.intro; apply And.intro; (focus (intro wk hk; go_simp; exact ⟨rfl, rfl⟩)); refine hK _ _ ?_; clear hK K
  refine stepK rfl (by kernel_rfl) (fun K hK => ?_); go_simp
  apply Exists.intro; apply And.intro; (focus (intro wk hk; have cc : wk.cell? ⟨w.heap.size, 0, none⟩ = some (.int .i64 tk) := ((K6.Row.tr r2 hk id).cell 0).trans x0; go_simp; exact ⟨rfl, rfl⟩)); refine hK _ _ ?_; clear hK K
  refine stepK rfl (by kernel_rfl) (fun K hK => ?_); go_simp
  apply Exists.intro; apply And.intro; (focus (intro wk hk; go_simp; exact ⟨rfl, rfl⟩)); refine hK _ _ ?_; clear hK K
  refine stepK rfl (by kernel_rfl) (fun K hK => ?_); go_simp
  apply Exists.intro; apply And.intro; (focus (intro wk hk; have cc : wk.cell? ⟨w.heap.size + 1, 0, none⟩ = some (.int .i64 uk) := ((K6.Row.tr r3 hk id).cell 0).trans y0; go_simp; exact ⟨rfl, rfl⟩)); refine hK _ _ ?_; clear hK K
  iterate 2 (refine stepK rfl (by kernel_rfl) (fun K hK => ?_); go_simp; apply Exists.intro; apply And.intro; (focus (intro wk hk; go_simp; exact ⟨rfl, rfl⟩)); refine hK _ _ ?_; clear hK K)
  refine stepK rfl (by kernel_rfl) (fun K hK => ?_); go_simp
  first | (refine hK _ _ ?_; clear hK K) | (apply Exists.intro; apply And.intro; (focus (intro wk hk; go_simp; exact ⟨rfl, rfl⟩)); refine hK _ _ ?_; clear hK K)
  refine stepK rfl (by kernel_rfl) (fun K hK => ?_); go_simp
  first | (refine hK _ _ ?_; clear hK K) | (apply Exists.intro; apply And.intro; (focus (intro wk hk; have cc : wk.cell? ⟨w.heap.size, 1, none⟩ = some (.int .i64 tf) := ((K6.Row.tr r2 hk id).cell 1).trans x1; go_simp; exact ⟨rfl, rfl⟩)); refine hK _ _ ?_; clear hK K)
  refine stepK rfl (by kernel_rfl) (fun K hK => ?_); go_simp
  first | (refine hK _ _ ?_; clear hK K) | (apply Exists.intro; apply And.intro; (focus (intro wk hk; go_simp; exact ⟨rfl, rfl⟩)); refine hK _ _ ?_; clear hK K)
  refine stepK rfl (by kernel_rfl) (fun K hK => ?_); go_simp
  first | (refine hK _ _ ?_; clear hK K) | (apply Exists.intro; apply And.intro; (focus (intro wk hk; have cc : wk.cell? ⟨w.heap.size + 1, 1, none⟩ = some (.int .i64 uf) := ((K6.Row.tr r3 hk id).cell 1).trans y1; go_simp; exact ⟨rfl, rfl⟩)); refine hK _ _ ?_; clear hK K)
  refine stepK rfl (by kernel_rfl) (fun K hK => ?_); go_simp
  first | (refine hK _ _ ?_; clear hK K) | (apply Exists.intro; apply And.intro; (focus (intro wk hk; go_simp; exact ⟨rfl, rfl⟩)); refine hK _ _ ?_; clear hK K)
  iterate 2 (refine stepK rfl (by kernel_rfl) (fun K hK => ?_); go_simp; apply Exists.intro; apply And.intro; (focus (intro wk hk; go_simp; exact ⟨rfl, rfl⟩)); refine hK _ _ ?_; clear hK K)
  refine stepK rfl (by kernel_rfl) (fun K hK => ?_); go_simp
  first | (refine hK _ _ ?_; clear hK K) | (apply Exists.intro; apply And.intro; (focus (intro wk hk; go_simp; exact ⟨rfl, rfl⟩)); refine hK _ _ ?_; clear hK K)
  refine stepK rfl (by kernel_rfl) (fun K hK => ?_); go_simp
  first | (refine hK _ _ ?_; clear hK K) | (apply Exists.intro; apply And.intro; (focus (intro wk hk; have cc : wk.cell? ⟨w.heap.size, 2, none⟩ = some (.slice nq1 ln1 nc1) := ((K6.Row.tr r2 hk id).cell 2).trans x2; go_simp; exact ⟨rfl, rfl⟩)); refine hK _ _ ?_; clear hK K)
  refine stepK rfl (by kernel_rfl) (fun K hK => ?_); go_simp
  first | (refine hK _ _ ?_; clear hK K) | (apply Exists.intro; apply And.intro; (focus (intro wk hk; go_simp; exact ⟨rfl, rfl⟩)); refine hK _ _ ?_; clear hK K)
  refine stepK rfl (by kernel_rfl) (fun K hK => ?_); go_simp
  first | (refine hK _ _ ?_; clear hK K) | (apply Exists.intro; apply And.intro; (focus (intro wk hk; have cc : wk.cell? ⟨w.heap.size + 1, 2, none⟩ = some (.slice nq2 ln2 nc2) := ((K6.Row.tr r3 hk id).cell 2).trans y2; go_simp; exact ⟨rfl, rfl⟩)); refine hK _ _ ?_; clear hK K)
  refine stepS _ rfl (by kernel_rfl) (fun K hK => ?_); go_simp
  refine ⟨?_, ?_⟩
  ·intro wk hk hg hu; go_simp; refine upon_enter ((kI.out _ (hl.trans (hk.below.mono hl.size))).mono ?_); rintro e w' ⟨rfl, hb⟩; exact ⟨_, rfl, left_V (p := fun u => u = .bool true) rfl (hb) rfl⟩
  rintro ⟨v17, lo17, hi17⟩ - - (rfl : v17 = _)
  refine hK _ _ ?_; clear hK K
  iterate 2 (refine stepK rfl (by kernel_rfl) (fun K hK => ?_); go_simp; apply Exists.intro; apply And.intro; (focus (intro wk hk; go_simp; exact ⟨rfl, rfl⟩)); refine hK _ _ ?_; clear hK K)
  refine stepK rfl (by kernel_rfl) (fun K hK => ?_); go_simp
  first | (refine hK _ _ ?_; clear hK K) | (apply Exists.intro; apply And.intro; (focus (intro wk hk; go_simp; exact ⟨rfl, rfl⟩)); refine hK _ _ ?_; clear hK K)
  refine stepK rfl (by kernel_rfl) (fun K hK => ?_); go_simp
  first | (refine hK _ _ ?_; clear hK K) | (apply Exists.intro; apply And.intro; (focus (intro wk hk; have cc : wk.cell? ⟨w.heap.size, 3, none⟩ = some (.slice aq1 la1 ac1) := ((K6.Row.tr r2 hk id).cell 3).trans x3; go_simp; exact ⟨rfl, rfl⟩)); refine hK _ _ ?_; clear hK K)
  refine stepK rfl (by kernel_rfl) (fun K hK => ?_); go_simp
  first | (refine hK _ _ ?_; clear hK K) | (apply Exists.intro; apply And.intro; (focus (intro wk hk; go_simp; exact ⟨rfl, rfl⟩)); refine hK _ _ ?_; clear hK K)
  refine stepK rfl (by kernel_rfl) (fun K hK => ?_); go_simp
  first | (refine hK _ _ ?_; clear hK K) | (apply Exists.intro; apply And.intro; (focus (intro wk hk; have cc : wk.cell? ⟨w.heap.size + 1, 3, none⟩ = some (.slice aq2 la2 ac2) := ((K6.Row.tr r3 hk id).cell 3).trans y3; go_simp; exact ⟨rfl, rfl⟩)); refine hK _ _ ?_; clear hK K)
  refine stepS _ rfl (by kernel_rfl) (fun K hK => ?_); go_simp
  refine ⟨?_, ?_⟩
  ·intro wk hk hg hu; go_simp; refine upon_enter ((kU.out _ (hl.trans (hk.below.mono hl.size))).mono ?_); rintro e w' ⟨rfl, hb⟩; exact ⟨_, rfl, left_V (p := fun u => u = .bool false) rfl (hb) rfl⟩
  rintro ⟨v24, lo24, hi24⟩ - - (rfl : v24 = _)
  refine hK _ _ ?_; clear hK K
  iterate 2 (refine stepK rfl (by kernel_rfl) (fun K hK => ?_); go_simp; apply Exists.intro; apply And.intro; (focus (intro wk hk; go_simp; exact ⟨rfl, rfl⟩)); refine hK _ _ ?_; clear hK K)
  iterate 5 (refine stepK rfl (by kernel_rfl) (fun K hK => ?_); go_simp; (first | (refine hK _ _ ?_; clear hK K) | (apply Exists.intro; apply And.intro; (focus (intro wk hk; go_simp; exact ⟨rfl, rfl⟩)); refine hK _ _ ?_; clear hK K)))
  iterate 2 (refine stepK rfl (by kernel_rfl) (fun K hK => ?_); go_simp; apply Exists.intro; apply And.intro; (focus (intro wk hk; go_simp; exact ⟨rfl, rfl⟩)); refine hK _ _ ?_; clear hK K)
  iterate 5 (refine stepK rfl (by kernel_rfl) (fun K hK => ?_); go_simp; (first | (refine hK _ _ ?_; clear hK K) | (apply Exists.intro; apply And.intro; (focus (intro wk hk; go_simp; exact ⟨rfl, rfl⟩)); refine hK _ _ ?_; clear hK K)))
  iterate 2 (refine stepK rfl (by kernel_rfl) (fun K hK => ?_); go_simp; apply Exists.intro; apply And.intro; (focus (intro wk hk; go_simp; exact ⟨rfl, rfl⟩)); refine hK _ _ ?_; clear hK K)
  refine stepN ?_
  refine hQ _ _ ?_
  intro w9 hT hG hF
  have H9 := Lib.hid (hl.trans (hT.below.mono hl.size))
  clear hT hG hF hQ QQ L hl r2 r3
  go_wp2_with fail
  go_ret
  exact ⟨rfl, H9.out⟩
 cases bH
 ·have hbb := HB.out.1 (.inr (.inr (.inr (.inr rfl))))
  subst hbb
  clear e0 e1 HB kC
  let L : List Sp := [sV 17 [] [] (fun u => u = .bool true), sV 24 [] [] (fun u => u = .bool true), sV 31 [] [] (fun u => u = .bool false)]
  refine wp_region_six0 (shs L) (look6 L) (None_) (by kernel_rfl) (by kernel_rfl) (mk_St L [] [] (by kernel_rfl) (by kernel_rfl) ⟨ok_V ⟨_, rfl⟩, ok_V ⟨_, rfl⟩, ok_V ⟨_, rfl⟩, trivial⟩ (by simp)) ?_
  intro QQ hQ
  refine stepK rfl (by kernel_rfl) (fun K hK => ?_); go_simp
  apply Exists.intro; apply And.intro; (focus (intro wk hk; go_simp; exact ⟨rfl, rfl⟩)); refine hK _ _ ?_; clear hK K
  refine stepK rfl (by kernel_rfl) (fun K hK => ?_); go_simp
  apply Exists.intro; apply And.intro; (focus (intro wk hk; have cc : wk.cell? ⟨w.heap.size, 0, none⟩ = some (.int .i64 tk) := ((K6.Row.tr r2 hk id).cell 0).trans x0; go_simp; exact ⟨rfl, rfl⟩)); refine hK _ _ ?_; clear hK K
  refine stepK rfl (by kernel_rfl) (fun K hK => ?_); go_simp
  apply Exists.intro; apply And.intro; (focus (intro wk hk; go_simp; exact ⟨rfl, rfl⟩)); refine hK _ _ ?_; clear hK K
  refine stepK rfl (by kernel_rfl) (fun K hK => ?_); go_simp
  apply Exists.intro; apply And.intro; (focus (intro wk hk; have cc : wk.cell? ⟨w.heap.size + 1, 0, none⟩ = some (.int .i64 uk) := ((K6.Row.tr r3 hk id).cell 0).trans y0; go_simp; exact ⟨rfl, rfl⟩)); refine hK _ _ ?_; clear hK K
  iterate 2 (refine stepK rfl (by kernel_rfl) (fun K hK => ?_); go_simp; apply Exists.intro; apply And.intro; (focus (intro wk hk; go_simp; exact ⟨rfl, rfl⟩)); refine hK _ _ ?_; clear hK K)
  refine stepK rfl (by kernel_rfl) (fun K hK => ?_); go_simp
  first | (refine hK _ _ ?_; clear hK K) | (apply Exists.intro; apply And.intro; (focus (intro wk hk; go_simp; exact ⟨rfl, rfl⟩)); refine hK _ _ ?_; clear hK K)
  refine stepK rfl (by kernel_rfl) (fun K hK => ?_); go_simp
  first | (refine hK _ _ ?_; clear hK K) | (apply Exists.intro; apply And.intro; (focus (intro wk hk; have cc : wk.cell? ⟨w.heap.size, 1, none⟩ = some (.int .i64 tf) := ((K6.Row.tr r2 hk id).cell 1).trans x1; go_simp; exact ⟨rfl, rfl⟩)); refine hK _ _ ?_; clear hK K)
  refine stepK rfl (by kernel_rfl) (fun K hK => ?_); go_simp
  first | (refine hK _ _ ?_; clear hK K) | (apply Exists.intro; apply And.intro; (focus (intro wk hk; go_simp; exact ⟨rfl, rfl⟩)); refine hK _ _ ?_; clear hK K)
  refine stepK rfl (by kernel_rfl) (fun K hK => ?_); go_simp
  first | (refine hK _ _ ?_; clear hK K) | (apply Exists.intro; apply And.intro; (focus (intro wk hk; have cc : wk.cell? ⟨w.heap.size + 1, 1, none⟩ = some (.int .i64 uf) := ((K6.Row.tr r3 hk id).cell 1).trans y1; go_simp; exact ⟨rfl, rfl⟩)); refine hK _ _ ?_; clear hK K)
  refine stepK rfl (by kernel_rfl) (fun K hK => ?_); go_simp
  first | (refine hK _ _ ?_; clear hK K) | (apply Exists.intro; apply And.intro; (focus (intro wk hk; go_simp; exact ⟨rfl, rfl⟩)); refine hK _ _ ?_; clear hK K)
  iterate 2 (refine stepK rfl (by kernel_rfl) (fun K hK => ?_); go_simp; apply Exists.intro; apply And.intro; (focus (intro wk hk; go_simp; exact ⟨rfl, rfl⟩)); refine hK _ _ ?_; clear hK K)
  refine stepK rfl (by kernel_rfl) (fun K hK => ?_); go_simp
  first | (refine hK _ _ ?_; clear hK K) | (apply Exists.intro; apply And.intro; (focus (intro wk hk; go_simp; exact ⟨rfl, rfl⟩)); refine hK _ _ ?_; clear hK K)
  refine stepK rfl (by kernel_rfl) (fun K hK => ?_); go_simp
  first | (refine hK _ _ ?_; clear hK K) | (apply Exists.intro; apply And.intro; (focus (intro wk hk; have cc : wk.cell? ⟨w.heap.size, 2, none⟩ = some (.slice nq1 ln1 nc1) := ((K6.Row.tr r2 hk id).cell 2).trans x2; go_simp; exact ⟨rfl, rfl⟩)); refine hK _ _ ?_; clear hK K)
  refine stepK rfl (by kernel_rfl) (fun K hK => ?_); go_simp
  first | (refine hK _ _ ?_; clear hK K) | (apply Exists.intro; apply And.intro; (focus (intro wk hk; go_simp; exact ⟨rfl, rfl⟩)); refine hK _ _ ?_; clear hK K)
  refine stepK rfl (by kernel_rfl) (fun K hK => ?_); go_simp
  first | (refine hK _ _ ?_; clear hK K) | (apply Exists.intro; apply And.intro; (focus (intro wk hk; have cc : wk.cell? ⟨w.heap.size + 1, 2, none⟩ = some (.slice nq2 ln2 nc2) := ((K6.Row.tr r3 hk id).cell 2).trans y2; go_simp; exact ⟨rfl, rfl⟩)); refine hK _ _ ?_; clear hK K)
  refine stepS _ rfl (by kernel_rfl) (fun K hK => ?_); go_simp
  refine ⟨?_, ?_⟩
  ·intro wk hk hg hu; go_simp; refine upon_enter ((kI.out _ (hl.trans (hk.below.mono hl.size))).mono ?_); rintro e w' ⟨rfl, hb⟩; exact ⟨_, rfl, left_V (p := fun u => u = .bool true) rfl (hb) rfl⟩
  rintro ⟨v17, lo17, hi17⟩ - - (rfl : v17 = _)
  refine hK _ _ ?_; clear hK K
  iterate 2 (refine stepK rfl (by kernel_rfl) (fun K hK => ?_); go_simp; apply Exists.intro; apply And.intro; (focus (intro wk hk; go_simp; exact ⟨rfl, rfl⟩)); refine hK _ _ ?_; clear hK K)
  refine stepK rfl (by kernel_rfl) (fun K hK => ?_); go_simp
  first | (refine hK _ _ ?_; clear hK K) | (apply Exists.intro; apply And.intro; (focus (intro wk hk; go_simp; exact ⟨rfl, rfl⟩)); refine hK _ _ ?_; clear hK K)
  refine stepK rfl (by kernel_rfl) (fun K hK => ?_); go_simp
  first | (refine hK _ _ ?_; clear hK K) | (apply Exists.intro; apply And.intro; (focus (intro wk hk; have cc : wk.cell? ⟨w.heap.size, 3, none⟩ = some (.slice aq1 la1 ac1) := ((K6.Row.tr r2 hk id).cell 3).trans x3; go_simp; exact ⟨rfl, rfl⟩)); refine hK _ _ ?_; clear hK K)
  refine stepK rfl (by kernel_rfl) (fun K hK => ?_); go_simp
  first | (refine hK _ _ ?_; clear hK K) | (apply Exists.intro; apply And.intro; (focus (intro wk hk; go_simp; exact ⟨rfl, rfl⟩)); refine hK _ _ ?_; clear hK K)
  refine stepK rfl (by kernel_rfl) (fun K hK => ?_); go_simp
  first | (refine hK _ _ ?_; clear hK K) | (apply Exists.intro; apply And.intro; (focus (intro wk hk; have cc : wk.cell? ⟨w.heap.size + 1, 3, none⟩ = some (.slice aq2 la2 ac2) := ((K6.Row.tr r3 hk id).cell 3).trans y3; go_simp; exact ⟨rfl, rfl⟩)); refine hK _ _ ?_; clear hK K)
  refine stepS _ rfl (by kernel_rfl) (fun K hK => ?_); go_simp
  refine ⟨?_, ?_⟩
  ·intro wk hk hg hu; go_simp; refine upon_enter ((kU.out _ (hl.trans (hk.below.mono hl.size))).mono ?_); rintro e w' ⟨rfl, hb⟩; exact ⟨_, rfl, left_V (p := fun u => u = .bool true) rfl (hb) rfl⟩
  rintro ⟨v24, lo24, hi24⟩ - - (rfl : v24 = _)
  refine hK _ _ ?_; clear hK K
  iterate 2 (refine stepK rfl (by kernel_rfl) (fun K hK => ?_); go_simp; apply Exists.intro; apply And.intro; (focus (intro wk hk; go_simp; exact ⟨rfl, rfl⟩)); refine hK _ _ ?_; clear hK K)
  refine stepK rfl (by kernel_rfl) (fun K hK => ?_); go_simp
  first | (refine hK _ _ ?_; clear hK K) | (apply Exists.intro; apply And.intro; (focus (intro wk hk; go_simp; exact ⟨rfl, rfl⟩)); refine hK _ _ ?_; clear hK K)
  refine stepK rfl (by kernel_rfl) (fun K hK => ?_); go_simp
  first | (refine hK _ _ ?_; clear hK K) | (apply Exists.intro; apply And.intro; (focus (intro wk hk; have cc : wk.cell? ⟨w.heap.size, 4, none⟩ = some (.slice hq1 lh1 hc1) := ((K6.Row.tr r2 hk id).cell 4).trans x4; go_simp; exact ⟨rfl, rfl⟩)); refine hK _ _ ?_; clear hK K)
  refine stepK rfl (by kernel_rfl) (fun K hK => ?_); go_simp
  first | (refine hK _ _ ?_; clear hK K) | (apply Exists.intro; apply And.intro; (focus (intro wk hk; go_simp; exact ⟨rfl, rfl⟩)); refine hK _ _ ?_; clear hK K)
  refine stepK rfl (by kernel_rfl) (fun K hK => ?_); go_simp
  first | (refine hK _ _ ?_; clear hK K) | (apply Exists.intro; apply And.intro; (focus (intro wk hk; have cc : wk.cell? ⟨w.heap.size + 1, 4, none⟩ = some (.slice hq2 lh2 hc2) := ((K6.Row.tr r3 hk id).cell 4).trans y4; go_simp; exact ⟨rfl, rfl⟩)); refine hK _ _ ?_; clear hK K)
  refine stepS _ rfl (by kernel_rfl) (fun K hK => ?_); go_simp
  refine ⟨?_, ?_⟩
  ·intro wk hk hg hu; go_simp; refine upon_enter ((kH.out _ (hl.trans (hk.below.mono hl.size))).mono ?_); rintro e w' ⟨rfl, hb⟩; exact ⟨_, rfl, left_V (p := fun u => u = .bool false) rfl (hb) rfl⟩
  rintro ⟨v31, lo31, hi31⟩ - - (rfl : v31 = _)
  refine hK _ _ ?_; clear hK K
  iterate 2 (refine stepK rfl (by kernel_rfl) (fun K hK => ?_); go_simp; apply Exists.intro; apply And.intro; (focus (intro wk hk; go_simp; exact ⟨rfl, rfl⟩)); refine hK _ _ ?_; clear hK K)
  iterate 5 (refine stepK rfl (by kernel_rfl) (fun K hK => ?_); go_simp; (first | (refine hK _ _ ?_; clear hK K) | (apply Exists.intro; apply And.intro; (focus (intro wk hk; go_simp; exact ⟨rfl, rfl⟩)); refine hK _ _ ?_; clear hK K)))
  iterate 2 (refine stepK rfl (by kernel_rfl) (fun K hK => ?_); go_simp; apply Exists.intro; apply And.intro; (focus (intro wk hk; go_simp; exact ⟨rfl, rfl⟩)); refine hK _ _ ?_; clear hK K)
  refine stepN ?_
  refine hQ _ _ ?_
  intro w9 hT hG hF
  have H9 := Lib.hid (hl.trans (hT.below.mono hl.size))
  clear hT hG hF hQ QQ L hl r2 r3
  go_wp2_with fail
  go_ret
  exact ⟨rfl, H9.out⟩
 have hbb := HB.out.2 e0 e1 rfl rfl rfl
 subst hbb
 clear e0 e1 HB 
 let L : List Sp := [sV 17 [] [] (fun u => u = .bool true), sV 24 [] [] (fun u => u = .bool true), sV 31 [] [] (fun u => u = .bool true), sV 38 [] [] (fun u => u = .bool bC)]
 refine wp_region_six0 (shs L) (look6 L) (None_) (by kernel_rfl) (by kernel_rfl) (mk_St L [] [] (by kernel_rfl) (by kernel_rfl) ⟨ok_V ⟨_, rfl⟩, ok_V ⟨_, rfl⟩, ok_V ⟨_, rfl⟩, ok_V ⟨_, rfl⟩, trivial⟩ (by simp)) ?_
 intro QQ hQ
 refine stepK rfl (by kernel_rfl) (fun K hK => ?_); go_simp
 apply Exists.intro; apply And.intro; (focus (intro wk hk; go_simp; exact ⟨rfl, rfl⟩)); refine hK _ _ ?_; clear hK K
 refine stepK rfl (by kernel_rfl) (fun K hK => ?_); go_simp
 apply Exists.intro; apply And.intro; (focus (intro wk hk; have cc : wk.cell? ⟨w.heap.size, 0, none⟩ = some (.int .i64 tk) := ((K6.Row.tr r2 hk id).cell 0).trans x0; go_simp; exact ⟨rfl, rfl⟩)); refine hK _ _ ?_; clear hK K
 refine stepK rfl (by kernel_rfl) (fun K hK => ?_); go_simp
 apply Exists.intro; apply And.intro; (focus (intro wk hk; go_simp; exact ⟨rfl, rfl⟩)); refine hK _ _ ?_; clear hK K
 refine stepK rfl (by kernel_rfl) (fun K hK => ?_); go_simp
 apply Exists.intro; apply And.intro; (focus (intro wk hk; have cc : wk.cell? ⟨w.heap.size + 1, 0, none⟩ = some (.int .i64 uk) := ((K6.Row.tr r3 hk id).cell 0).trans y0; go_simp; exact ⟨rfl, rfl⟩)); refine hK _ _ ?_; clear hK K
 iterate 2 (refine stepK rfl (by kernel_rfl) (fun K hK => ?_); go_simp; apply Exists.intro; apply And.intro; (focus (intro wk hk; go_simp; exact ⟨rfl, rfl⟩)); refine hK _ _ ?_; clear hK K)
 refine stepK rfl (by kernel_rfl) (fun K hK => ?_); go_simp
 first | (refine hK _ _ ?_; clear hK K) | (apply Exists.intro; apply And.intro; (focus (intro wk hk; go_simp; exact ⟨rfl, rfl⟩)); refine hK _ _ ?_; clear hK K)
 refine stepK rfl (by kernel_rfl) (fun K hK => ?_); go_simp
 first | (refine hK _ _ ?_; clear hK K) | (apply Exists.intro; apply And.intro; (focus (intro wk hk; have cc : wk.cell? ⟨w.heap.size, 1, none⟩ = some (.int .i64 tf) := ((K6.Row.tr r2 hk id).cell 1).trans x1; go_simp; exact ⟨rfl, rfl⟩)); refine hK _ _ ?_; clear hK K)
 refine stepK rfl (by kernel_rfl) (fun K hK => ?_); go_simp
 first | (refine hK _ _ ?_; clear hK K) | (apply Exists.intro; apply And.intro; (focus (intro wk hk; go_simp; exact ⟨rfl, rfl⟩)); refine hK _ _ ?_; clear hK K)
 refine stepK rfl (by kernel_rfl) (fun K hK => ?_); go_simp
 first | (refine hK _ _ ?_; clear hK K) | (apply Exists.intro; apply And.intro; (focus (intro wk hk; have cc : wk.cell? ⟨w.heap.size + 1, 1, none⟩ = some (.int .i64 uf) := ((K6.Row.tr r3 hk id).cell 1).trans y1; go_simp; exact ⟨rfl, rfl⟩)); refine hK _ _ ?_; clear hK K)
 refine stepK rfl (by kernel_rfl) (fun K hK => ?_); go_simp
 first | (refine hK _ _ ?_; clear hK K) | (apply Exists.intro; apply And.intro; (focus (intro wk hk; go_simp; exact ⟨rfl, rfl⟩)); refine hK _ _ ?_; clear hK K)
 iterate 2 (refine stepK rfl (by kernel_rfl) (fun K hK => ?_); go_simp; apply Exists.intro; apply And.intro; (focus (intro wk hk; go_simp; exact ⟨rfl, rfl⟩)); refine hK _ _ ?_; clear hK K)
 refine stepK rfl (by kernel_rfl) (fun K hK => ?_); go_simp
 first | (refine hK _ _ ?_; clear hK K) | (apply Exists.intro; apply And.intro; (focus (intro wk hk; go_simp; exact ⟨rfl, rfl⟩)); refine hK _ _ ?_; clear hK K)
 refine stepK rfl (by kernel_rfl) (fun K hK => ?_); go_simp
 first | (refine hK _ _ ?_; clear hK K) | (apply Exists.intro; apply And.intro; (focus (intro wk hk; have cc : wk.cell? ⟨w.heap.size, 2, none⟩ = some (.slice nq1 ln1 nc1) := ((K6.Row.tr r2 hk id).cell 2).trans x2; go_simp; exact ⟨rfl, rfl⟩)); refine hK _ _ ?_; clear hK K)
 refine stepK rfl (by kernel_rfl) (fun K hK => ?_); go_simp
 first | (refine hK _ _ ?_; clear hK K) | (apply Exists.intro; apply And.intro; (focus (intro wk hk; go_simp; exact ⟨rfl, rfl⟩)); refine hK _ _ ?_; clear hK K)
 refine stepK rfl (by kernel_rfl) (fun K hK => ?_); go_simp
 first | (refine hK _ _ ?_; clear hK K) | (apply Exists.intro; apply And.intro; (focus (intro wk hk; have cc : wk.cell? ⟨w.heap.size + 1, 2, none⟩ = some (.slice nq2 ln2 nc2) := ((K6.Row.tr r3 hk id).cell 2).trans y2; go_simp; exact ⟨rfl, rfl⟩)); refine hK _ _ ?_; clear hK K)
 refine stepS _ rfl (by kernel_rfl) (fun K hK => ?_); go_simp
 refine ⟨?_, ?_⟩
 ·intro wk hk hg hu; go_simp; refine upon_enter ((kI.out _ (hl.trans (hk.below.mono hl.size))).mono ?_); rintro e w' ⟨rfl, hb⟩; exact ⟨_, rfl, left_V (p := fun u => u = .bool true) rfl (hb) rfl⟩
 rintro ⟨v17, lo17, hi17⟩ - - (rfl : v17 = _)
 refine hK _ _ ?_; clear hK K
 iterate 2 (refine stepK rfl (by kernel_rfl) (fun K hK => ?_); go_simp; apply Exists.intro; apply And.intro; (focus (intro wk hk; go_simp; exact ⟨rfl, rfl⟩)); refine hK _ _ ?_; clear hK K)
 refine stepK rfl (by kernel_rfl) (fun K hK => ?_); go_simp
 first | (refine hK _ _ ?_; clear hK K) | (apply Exists.intro; apply And.intro; (focus (intro wk hk; go_simp; exact ⟨rfl, rfl⟩)); refine hK _ _ ?_; clear hK K)
 refine stepK rfl (by kernel_rfl) (fun K hK => ?_); go_simp
 first | (refine hK _ _ ?_; clear hK K) | (apply Exists.intro; apply And.intro; (focus (intro wk hk; have cc : wk.cell? ⟨w.heap.size, 3, none⟩ = some (.slice aq1 la1 ac1) := ((K6.Row.tr r2 hk id).cell 3).trans x3; go_simp; exact ⟨rfl, rfl⟩)); refine hK _ _ ?_; clear hK K)
 refine stepK rfl (by kernel_rfl) (fun K hK => ?_); go_simp
 first | (refine hK _ _ ?_; clear hK K) | (apply Exists.intro; apply And.intro; (focus (intro wk hk; go_simp; exact ⟨rfl, rfl⟩)); refine hK _ _ ?_; clear hK K)
 refine stepK rfl (by kernel_rfl) (fun K hK => ?_); go_simp
 first | (refine hK _ _ ?_; clear hK K) | (apply Exists.intro; apply And.intro; (focus (intro wk hk; have cc : wk.cell? ⟨w.heap.size + 1, 3, none⟩ = some (.slice aq2 la2 ac2) := ((K6.Row.tr r3 hk id).cell 3).trans y3; go_simp; exact ⟨rfl, rfl⟩)); refine hK _ _ ?_; clear hK K)
 refine stepS _ rfl (by kernel_rfl) (fun K hK => ?_); go_simp
 refine ⟨?_, ?_⟩
 ·intro wk hk hg hu; go_simp; refine upon_enter ((kU.out _ (hl.trans (hk.below.mono hl.size))).mono ?_); rintro e w' ⟨rfl, hb⟩; exact ⟨_, rfl, left_V (p := fun u => u = .bool true) rfl (hb) rfl⟩
 rintro ⟨v24, lo24, hi24⟩ - - (rfl : v24 = _)
 refine hK _ _ ?_; clear hK K
 iterate 2 (refine stepK rfl (by kernel_rfl) (fun K hK => ?_); go_simp; apply Exists.intro; apply And.intro; (focus (intro wk hk; go_simp; exact ⟨rfl, rfl⟩)); refine hK _ _ ?_; clear hK K)
 refine stepK rfl (by kernel_rfl) (fun K hK => ?_); go_simp
 first | (refine hK _ _ ?_; clear hK K) | (apply Exists.intro; apply And.intro; (focus (intro wk hk; go_simp; exact ⟨rfl, rfl⟩)); refine hK _ _ ?_; clear hK K)
 refine stepK rfl (by kernel_rfl) (fun K hK => ?_); go_simp
 first | (refine hK _ _ ?_; clear hK K) | (apply Exists.intro; apply And.intro; (focus (intro wk hk; have cc : wk.cell? ⟨w.heap.size, 4, none⟩ = some (.slice hq1 lh1 hc1) := ((K6.Row.tr r2 hk id).cell 4).trans x4; go_simp; exact ⟨rfl, rfl⟩)); refine hK _ _ ?_; clear hK K)
 refine stepK rfl (by kernel_rfl) (fun K hK => ?_); go_simp
 first | (refine hK _ _ ?_; clear hK K) | (apply Exists.intro; apply And.intro; (focus (intro wk hk; go_simp; exact ⟨rfl, rfl⟩)); refine hK _ _ ?_; clear hK K)
 refine stepK rfl (by kernel_rfl) (fun K hK => ?_); go_simp
 first | (refine hK _ _ ?_; clear hK K) | (apply Exists.intro; apply And.intro; (focus (intro wk hk; have cc : wk.cell? ⟨w.heap.size + 1, 4, none⟩ = some (.slice hq2 lh2 hc2) := ((K6.Row.tr r3 hk id).cell 4).trans y4; go_simp; exact ⟨rfl, rfl⟩)); refine hK _ _ ?_; clear hK K)
 refine stepS _ rfl (by kernel_rfl) (fun K hK => ?_); go_simp
 refine ⟨?_, ?_⟩
 ·intro wk hk hg hu; go_simp; refine upon_enter ((kH.out _ (hl.trans (hk.below.mono hl.size))).mono ?_); rintro e w' ⟨rfl, hb⟩; exact ⟨_, rfl, left_V (p := fun u => u = .bool true) rfl (hb) rfl⟩
 rintro ⟨v31, lo31, hi31⟩ - - (rfl : v31 = _)
 refine hK _ _ ?_; clear hK K
 iterate 2 (refine stepK rfl (by kernel_rfl) (fun K hK => ?_); go_simp; apply Exists.intro; apply And.intro; (focus (intro wk hk; go_simp; exact ⟨rfl, rfl⟩)); refine hK _ _ ?_; clear hK K)
 refine stepK rfl (by kernel_rfl) (fun K hK => ?_); go_simp
 first | (refine hK _ _ ?_; clear hK K) | (apply Exists.intro; apply And.intro; (focus (intro wk hk; go_simp; exact ⟨rfl, rfl⟩)); refine hK _ _ ?_; clear hK K)
 refine stepK rfl (by kernel_rfl) (fun K hK => ?_); go_simp
 first | (refine hK _ _ ?_; clear hK K) | (apply Exists.intro; apply And.intro; (focus exact kLoadMid rfl rfl aggT114 r2 xm xs id); refine hK _ _ ?_; clear hK K)
 refine stepK rfl (by kernel_rfl) (fun K hK => ?_); go_simp
 first | (refine hK _ _ ?_; clear hK K) | (apply Exists.intro; apply And.intro; (focus (intro wk hk; go_simp; exact ⟨rfl, rfl⟩)); refine hK _ _ ?_; clear hK K)
 refine stepK rfl (by kernel_rfl) (fun K hK => ?_); go_simp
 first | (refine hK _ _ ?_; clear hK K) | (apply Exists.intro; apply And.intro; (focus exact kLoadMid rfl rfl aggT114 r3 ym ys id); refine hK _ _ ?_; clear hK K)
 refine stepS _ rfl (by kernel_rfl) (fun K hK => ?_); go_simp
 refine ⟨?_, ?_⟩
 ·intro wk hk hg hu; go_simp; refine upon_enter ((kC.out _ (hl.trans (hk.below.mono hl.size))).mono ?_); rintro e w' ⟨rfl, hb⟩; exact ⟨_, rfl, left_V (p := fun u => u = .bool bC) rfl (hb) rfl⟩
 rintro ⟨v38, lo38, hi38⟩ - - (rfl : v38 = _)
 refine hK _ _ ?_; clear hK K
 iterate 2 (refine stepK rfl (by kernel_rfl) (fun K hK => ?_); go_simp; apply Exists.intro; apply And.intro; (focus (intro wk hk; go_simp; exact ⟨rfl, rfl⟩)); refine hK _ _ ?_; clear hK K)
 refine stepN ?_
 refine hQ _ _ ?_
 intro w9 hT hG hF
 have H9 := Lib.hid (hl.trans (hT.below.mono hl.size))
 clear hT hG hF hQ QQ L hl r2 r3
 go_wp2_with fail
 go_ret
 exact ⟨rfl, H9.out⟩
end Go.Proofs.Ytpdenhmkpiafiaa
namespace Go.Proofs.Ytpdenhmkpiafiaa
open Go Go.RowKit K6
theorem prf_le' {l : List (List Int)} (h : ∀ y ∈ l, y.length = 32) (hl : l.length ≤ 1000) : (prfB l).length ≤ 32009 := by
 have := prf_le h hl
 omega
theorem enc_le9 {n : Int} (h : I64 n) : (enc n.toNat).length ≤ 9 := enc_len9 (by have := h.2; omega)
theorem lf_le {x : Lf} (hi : I64 x.i) (ht : I64 x.t) (h : ∀ y ∈ x.p, y.length = 32) (hp : x.p.length ≤ 1000) : (lfKB x.key).length ≤ 32100 := by
 unfold lfKB Lf.key
 simp only [List.length_append]
 have h1 := enc_le9 hi
 have h2 := enc_le9 ht
 have h3 := amtL_le x.a
 have h4 := prf_le' h hp
 omega
theorem ix205_0 (a b c d : Int) (w : World) : (Instr.index 205 (.agg #[.int .i64 a, .int .i64 b, .int .i64 c, .int .i64 d]) (.int .i64 0)).run Try.prog w = .ok (.int .i64 a) w := by kernel_rfl
theorem ix205_1 (a b c d : Int) (w : World) : (Instr.index 205 (.agg #[.int .i64 a, .int .i64 b, .int .i64 c, .int .i64 d]) (.int .i64 1)).run Try.prog w = .ok (.int .i64 b) w := by kernel_rfl
theorem ix205_2 (a b c d : Int) (w : World) : (Instr.index 205 (.agg #[.int .i64 a, .int .i64 b, .int .i64 c, .int .i64 d]) (.int .i64 2)).run Try.prog w = .ok (.int .i64 c) w := by kernel_rfl
theorem ix205_3 (a b c d : Int) (w : World) : (Instr.index 205 (.agg #[.int .i64 a, .int .i64 b, .int .i64 c, .int .i64 d]) (.int .i64 3)).run Try.prog w = .ok (.int .i64 d) w := by kernel_rfl
theorem flat_key (l : List Lf) : (l.map Lf.key).flatMap lfKB = l.flatMap fun x => lfKB x.key := by
 induction l with
 | nil => rfl
 | cons x l ih => rw [List.map_cons, List.flatMap_cons, List.flatMap_cons, ih]
set_option maxRecDepth 100000 in
set_option maxHeartbeats 64000000 in
theorem putClaim_at (u : Value) (xs : List Int) (c : Cm) (w : World) (hu : Bs w u xs) (hL : xs.length ≤ 1000000) (hc : CmOk w c) (hp : c.p.length ≤ 50) (hl : c.l.length ≤ 50) (hq : ∀ x ∈ c.l, x.p.length ≤ 50) :
  Calls Try.prog 215 #[u, .agg c.cs.toArray] w fun e w' => ∃ x, e = .returned x ∧ Ob w' w.heap.size x (xs ++ clKB c.key) ∧ Below w.heap.size w w' := by
 have x0 := cA0 c
 have x1 := cA1 c
 have x2 := cA2 c
 have x4 := cA35 hc.tok
 have x5 := cA36 hc.tok
 have x6 := cA37 hc.tok
 have htk := Cm.tok_ hc.tok
 have hbt : (bv c.tok).toArray.size = 32 := bv_arr hc.tok
 have hU := Lib.hid fun wx (hb : Below w.heap.size w wx) => hu.below hb
 obtain ⟨P1, hP1⟩ : ∃ P, xs ++ enc c.r.toNat = P := ⟨_, rfl⟩
 obtain ⟨P2, hP2⟩ : ∃ P, P1 ++ enc c.x.toNat = P := ⟨_, rfl⟩
 obtain ⟨P3, hP3⟩ : ∃ P, P2 ++ enc c.e.toNat = P := ⟨_, rfl⟩
 obtain ⟨P4, hP4⟩ : ∃ P, P3 ++ enc c.z.toNat = P := ⟨_, rfl⟩
 obtain ⟨P5, hP5⟩ : ∃ P, P4 ++ c.tok = P := ⟨_, rfl⟩
 obtain ⟨P6, hP6⟩ : ∃ P, P5 ++ prfB c.p = P := ⟨_, rfl⟩
 obtain ⟨P7, hP7⟩ : ∃ P, P6 ++ enc c.l.length = P := ⟨_, rfl⟩
 have hPe : P7 ++ c.l.flatMap (fun x => lfKB x.key) = xs ++ clKB c.key := by
  unfold clKB Cm.key
  simp only
  rw [flat_key, List.length_map, ← hP7, ← hP6, ← hP5, ← hP4, ← hP3, ← hP2, ← hP1]
  simp only [List.append_assoc]
 have l1 : P1.length ≤ 1000009 := by rw [← hP1, List.length_append]; have := enc_le9 hc.r; omega
 have l2 : P2.length ≤ 1000018 := by rw [← hP2, List.length_append]; have := enc_le9 hc.x; omega
 have l3 : P3.length ≤ 1000027 := by rw [← hP3, List.length_append]; have := enc_le9 hc.e; omega
 have l4 : P4.length ≤ 1000036 := by rw [← hP4, List.length_append]; have := enc_le9 hc.z; omega
 have l5 : P5.length ≤ 1000068 := by rw [← hP5, List.length_append, hc.tok]; omega
 have l6 : P6.length ≤ 1040000 := by rw [← hP6, List.length_append]; have := prf_le' (fun y hy => (hc.h y hy).1) (by omega); omega
 have l7 : P7.length ≤ 1050000 := by rw [← hP7, List.length_append]; have := enc_len9 (m := c.l.length) (by omega); omega
 have k1 := fun wx vx (h : Bs wx vx xs) => var_any vx xs c.r wx h (by omega) hc.r.2
 have k2 := fun wx vx (h : Bs wx vx P1) => var_any vx P1 c.x wx h (by omega) hc.x.2
 have k3 := fun wx vx (h : Bs wx vx P2) => var_any vx P2 c.e wx h (by omega) hc.e.2
 have k4 := fun wx vx (h : Bs wx vx P3) => var_any vx P3 c.z wx h (by omega) hc.z.2
 have k5 := fun wx vx (h : Bs wx vx P4) => hash_put vx P4 c.tok wx h (by omega) hc.tok
 have k6 := fun wx vx (hb : Below w.heap.size w wx) (h : Bs wx vx P5) => putProof_at vx c.pv P5 c.p wx h (by omega) (hc.p.below hb) (fun y hy => (hc.h y hy).1) (by omega)
 have k7 := fun wx vx (h : Bs wx vx P6) => var_any vx P6 (c.l.length : Int) wx h (by omega) (by omega)
 rw [hP1] at k1
 rw [hP2] at k2
 rw [hP3] at k3
 rw [hP4] at k4
 rw [hP5] at k5
 rw [hP6] at k6
 rw [Int.toNat_natCast, hP7] at k7
 unfold Cm.pv at k6
 have HC := hc.l
 unfold Cm.lv at HC
 obtain ⟨tokA, htA⟩ : ∃ x, (bv c.tok).toArray = x := ⟨_, rfl⟩
 rw [htA] at k5 hbt htk
 obtain ⟨cs, hcs⟩ : ∃ x, c.cs.toArray = x := ⟨_, rfl⟩
 rw [hcs] at x0 x1 x2 x4 x5 x6 htk ⊢
 obtain ⟨np, hnp⟩ : ∃ n, c.p.length = n := ⟨_, rfl⟩
 obtain ⟨pq, hpq⟩ : ∃ n, c.pq = n := ⟨_, rfl⟩
 obtain ⟨pc, hpc⟩ : ∃ n, c.pc = n := ⟨_, rfl⟩
 obtain ⟨lq, hlq⟩ : ∃ n, c.lq = n := ⟨_, rfl⟩
 obtain ⟨lc, hlc⟩ : ∃ n, c.lc = n := ⟨_, rfl⟩
 obtain ⟨ll, hll⟩ : ∃ n, c.l = n := ⟨_, rfl⟩
 obtain ⟨m, hm⟩ : ∃ n, c.l.length = n := ⟨_, rfl⟩
 rw [hnp, hpq, hpc] at x4 k6
 rw [hm, hlq, hlc] at x5 HC
 rw [hm] at k7 hl
 rw [hll] at HC hPe hq hm
 obtain ⟨cr, hcr⟩ : ∃ x, c.r = x := ⟨_, rfl⟩
 obtain ⟨cx, hcx⟩ : ∃ x, c.x = x := ⟨_, rfl⟩
 obtain ⟨ce, hce⟩ : ∃ x, c.e = x := ⟨_, rfl⟩
 obtain ⟨cz, hcz⟩ : ∃ x, c.z = x := ⟨_, rfl⟩
 rw [hcr] at x0 k1
 rw [hcx] at x1 k2
 rw [hce] at x2 k3
 rw [hcz] at x6 k4
 replace hPe := Lib.hid hPe
 have HC1 := Lib.hid (show _ ∧ _ ∧ _ ∧ _ from ⟨HC, hq, hm, l7⟩)
 replace k1 := Lib.hid k1
 replace k2 := Lib.hid k2
 replace k3 := Lib.hid k3
 replace k4 := Lib.hid k4
 replace k5 := Lib.hid k5
 replace k6 := Lib.hid k6
 replace k7 := Lib.hid k7
 have hmi : (m : Int) ≤ 50 := by omega
 clear hP1 hP2 hP3 hP4 hP5 hP6 hP7 l1 l2 l3 l4 l5 l6 l7 htA hcs hnp hpq hpc hlq hlc hll hm hcr hcx hce hcz hc hp hl hq HC hL hu
 go_enter Try.func215, Try.ntmps215
 go_upto_region 1 with (fail)
 refine wp_abs (Mem w [(w.heap.size, 114, cs)]) ⟨by go_grown, by (repeat (first | (refine Row.new_at ?_; simp; done) | refine Row.alloc ?_ _)), trivial⟩ ?_
 intro w0 hM
 obtain ⟨hl, r1, -⟩ := hM
 have HR := Lib.hid (show Below w.heap.size w w0 ∧ Row w0 w.heap.size 114 cs from ⟨hl, r1⟩)
 have d0 := (r1.cell 0).trans x0
 have d1 := (r1.cell 1).trans x1
 have d2 := (r1.cell 2).trans x2
 have d6 := (r1.cell 37).trans x6
 clear hl r1
 go_wp2_with fail
 go_loopg [0, 6, 18] 4 (fun gg s0 s6 s18 wr => ∃ i : Nat, i + gg = 4 ∧ s18 = .int .i64 (i : Int) ∧ Hid (Below w.heap.size w wr ∧ Row wr w.heap.size 114 cs) ∧ Hid ((i = 0 → Bs wr s0 xs) ∧ (i = 1 → Bs wr s0 P1) ∧ (i = 2 → Bs wr s0 P2) ∧ (i = 3 → Bs wr s0 P3) ∧ (i = 4 → Ob wr w.heap.size s0 P4)))
 case atStart => exact ⟨0, by omega, rfl, HR, Lib.hid ⟨fun _ => hU.out _ HR.out.1, fun h => absurd h (by decide), fun h => absurd h (by decide), fun h => absurd h (by decide), fun h => absurd h (by decide)⟩⟩
 case round =>
  clear HR d0 d1 d2 d6
  obtain ⟨i, him, rfl, hinv, hP⟩ := hrel
  have hi4 : i = 0 ∨ i = 1 ∨ i = 2 ∨ i = 3 ∨ i = 4 := by omega
  rcases hi4 with rfl | rfl | rfl | rfl | rfl
  ·have hlt : (((0 : Nat) : Int) < 4) := by decide
   have b0 := Lib.hid (hP.out.1 rfl)
   have ix := fun wx => ix205_0 cr cx ce cz wx
   clear hP
   go_wp2_with fail
   refine (k1.out _ _ b0.out).mono ?_
   rintro e w2 ⟨x1, rfl, ho, hb⟩
   have H2 := Lib.hid (show Below w.heap.size w w2 ∧ Row w2 w.heap.size 114 cs from ⟨hinv.out.1.trans (hb.mono hinv.out.1.size), hinv.out.2.below hb hinv.out.2.lt⟩)
   have O2 := Lib.hid (ho.base (b' := w.heap.size) hinv.out.1.size)
   clear ho hb b0
   go_wp2_with fail
   go_roundg (gk - 1)
   case measure => omega
   case rel => exact ⟨1, by omega, by go_num, H2, Lib.hid ⟨fun h => absurd h (by decide), fun _ => O2.out.bs, fun h => absurd h (by decide), fun h => absurd h (by decide), fun h => absurd h (by decide)⟩⟩
  ·have hlt : (((1 : Nat) : Int) < 4) := by decide
   have b0 := Lib.hid (hP.out.2.1 rfl)
   have ix := fun wx => ix205_1 cr cx ce cz wx
   clear hP
   go_wp2_with fail
   refine (k2.out _ _ b0.out).mono ?_
   rintro e w2 ⟨x1, rfl, ho, hb⟩
   have H2 := Lib.hid (show Below w.heap.size w w2 ∧ Row w2 w.heap.size 114 cs from ⟨hinv.out.1.trans (hb.mono hinv.out.1.size), hinv.out.2.below hb hinv.out.2.lt⟩)
   have O2 := Lib.hid (ho.base (b' := w.heap.size) hinv.out.1.size)
   clear ho hb b0
   go_wp2_with fail
   go_roundg (gk - 1)
   case measure => omega
   case rel => exact ⟨2, by omega, by go_num, H2, Lib.hid ⟨fun h => absurd h (by decide), fun h => absurd h (by decide), fun _ => O2.out.bs, fun h => absurd h (by decide), fun h => absurd h (by decide)⟩⟩
  ·have hlt : (((2 : Nat) : Int) < 4) := by decide
   have b0 := Lib.hid (hP.out.2.2.1 rfl)
   have ix := fun wx => ix205_2 cr cx ce cz wx
   clear hP
   go_wp2_with fail
   refine (k3.out _ _ b0.out).mono ?_
   rintro e w2 ⟨x1, rfl, ho, hb⟩
   have H2 := Lib.hid (show Below w.heap.size w w2 ∧ Row w2 w.heap.size 114 cs from ⟨hinv.out.1.trans (hb.mono hinv.out.1.size), hinv.out.2.below hb hinv.out.2.lt⟩)
   have O2 := Lib.hid (ho.base (b' := w.heap.size) hinv.out.1.size)
   clear ho hb b0
   go_wp2_with fail
   go_roundg (gk - 1)
   case measure => omega
   case rel => exact ⟨3, by omega, by go_num, H2, Lib.hid ⟨fun h => absurd h (by decide), fun h => absurd h (by decide), fun h => absurd h (by decide), fun _ => O2.out.bs, fun h => absurd h (by decide)⟩⟩
  ·have hlt : (((3 : Nat) : Int) < 4) := by decide
   have b0 := Lib.hid (hP.out.2.2.2.1 rfl)
   have ix := fun wx => ix205_3 cr cx ce cz wx
   clear hP
   go_wp2_with fail
   refine (k4.out _ _ b0.out).mono ?_
   rintro e w2 ⟨x1, rfl, ho, hb⟩
   have H2 := Lib.hid (show Below w.heap.size w w2 ∧ Row w2 w.heap.size 114 cs from ⟨hinv.out.1.trans (hb.mono hinv.out.1.size), hinv.out.2.below hb hinv.out.2.lt⟩)
   have O2 := Lib.hid (ho.base (b' := w.heap.size) hinv.out.1.size)
   clear ho hb b0
   go_wp2_with fail
   go_roundg (gk - 1)
   case measure => omega
   case rel => exact ⟨4, by omega, by go_num, H2, Lib.hid ⟨fun h => absurd h (by decide), fun h => absurd h (by decide), fun h => absurd h (by decide), fun h => absurd h (by decide), fun _ => O2.out⟩⟩
  ·have ob0 := Lib.hid (hP.out.2.2.2.2 rfl)
   clear hP k1 k2 k3 k4 hU
   go_upto_region 6 with (fail)
   have hl := hinv.out.1
   have r1 := hinv.out.2
   have hBr : w.heap.size ≤ wr.heap.size := hl.size
   clear hinv
   let L : List Sp := [sF 3 [] [] [] (fun _ => True) (fun x wq => Ob wq w.heap.size x.v P5), sF 6 [3] [3] [] (fun _ => True) (fun x wq => Ob wq w.heap.size x.v P6)]
   refine wp_region_six (shs L) (look6 L) (None_) (by kernel_rfl) (by kernel_rfl) (mk_St L [] [] (by kernel_rfl) (by kernel_rfl) ⟨ok_F (any_some _) (fun _ _ _ h hb => Ob.below h hb), ok_F (any_some _) (fun _ _ _ h hb => Ob.below h hb), trivial⟩ (by simp)) ?_
   intro QQ hQ
   iterate 2 (refine stepK rfl (by kernel_rfl) (fun K hK => ?_); go_simp; apply Exists.intro; apply And.intro; (focus (intro wk hk; go_simp; exact ⟨rfl, rfl⟩)); refine hK _ _ ?_; clear hK K)
   refine stepK rfl (by kernel_rfl) (fun K hK => ?_); go_simp
   apply Exists.intro; apply And.intro; (focus exact kLoadMid rfl rfl aggR35 r1 htk hbt id); refine hK _ _ ?_; clear hK K
   refine stepS _ rfl (by kernel_rfl) (fun K hK => ?_); go_simp
   refine ⟨?_, ?_⟩
   ·intro wk hk hg hu; go_simp; refine upon_enter ((k5.out _ u0 (ob0.out.below hk.undrew.below).bs).mono ?_); rintro e w' ⟨v, rfl, hv, hb9⟩; exact ⟨_, rfl, left_F rfl rfl hb9 trivial (hv.base (by have := hk.undrew.size; omega))⟩
   rintro ⟨v3, lo3, hi3⟩ - - -
   refine hK _ _ ?_; clear hK K
   refine stepK rfl (by kernel_rfl) (fun K hK => ?_); go_simp
   apply Exists.intro; apply And.intro; (focus (intro wk hk; go_simp; exact ⟨rfl, rfl⟩)); refine hK _ _ ?_; clear hK K
   refine stepK rfl (by kernel_rfl) (fun K hK => ?_); go_simp
   apply Exists.intro; apply And.intro; (focus (intro wk hk; have cc : wk.cell? ⟨w.heap.size, 35, none⟩ = some (.slice pq np pc) := ((K6.Row.tr r1 hk.undrew id).cell 35).trans x4; go_simp; exact ⟨rfl, rfl⟩)); refine hK _ _ ?_; clear hK K
   refine stepS _ rfl (by kernel_rfl) (fun K hK => ?_); go_simp
   refine ⟨?_, ?_⟩
   ·intro wk hk hg hu; have u3 := hu 3 (show 3 ∈ [3] by decide); go_simp; refine upon_enter ((k6.out _ v3 (hl.trans (hk.undrew.below.mono hl.size)) (show Ob wk w.heap.size v3 P5 from u3).bs).mono ?_); rintro e w' ⟨v, rfl, hv, hb9⟩; exact ⟨_, rfl, left_F rfl rfl hb9 trivial (hv.base (by have := hk.undrew.size; omega))⟩
   rintro ⟨v6, lo6, hi6⟩ - - -
   refine hK _ _ ?_; clear hK K
   refine stepK rfl (by kernel_rfl) (fun K hK => ?_); go_simp
   apply Exists.intro; apply And.intro; (focus (intro wk hk; go_simp; exact ⟨rfl, rfl⟩)); refine hK _ _ ?_; clear hK K
   refine stepN ?_
   refine hQ _ _ ?_
   intro w2 hT hG hF
   have hb2 := hT.undrew.below
   have o6 : Ob w2 w.heap.size v6 P6 := hF 6 _ rfl rfl (by decide)
   have H2 := Lib.hid (show Below w.heap.size w w2 ∧ Row w2 w.heap.size 114 cs ∧ Ob w2 w.heap.size v6 P6 from ⟨hl.trans (hb2.mono hl.size), r1.below hb2 r1.lt, o6⟩)
   clear hT hG hF hQ QQ L hl r1 ob0 hb2 o6 hBr k5 k6
   have d5 := (H2.out.2.1.cell 36).trans x5
   go_wp2_with fail
   refine (k7.out _ _ H2.out.2.2.bs).mono ?_
   rintro e w3 ⟨x7, rfl, ho, hb⟩
   have H3 := Lib.hid (show Below w.heap.size w w3 ∧ Row w3 w.heap.size 114 cs ∧ Ob w3 w.heap.size x7 P7 from ⟨H2.out.1.trans (hb.mono H2.out.1.size), H2.out.2.1.below hb H2.out.2.1.lt, ho.base H2.out.1.size⟩)
   clear k7 ho hb H2 d5
   have d5 := (H3.out.2.1.cell 36).trans x5
   go_wp2_with fail
   have H1 := Lib.hid (show Ob w3 w.heap.size x7 P7 ∧ Below w.heap.size w w3 from ⟨H3.out.2.2, H3.out.1⟩)
   clear H3 d5 x0 x1 x2 x4 x5 x6 htk hbt
   go_loopg [0, 40] m (fun gg s0 s40 wr => ∃ i : Nat, i + gg = m ∧ s40 = .int .i64 (i : Int) ∧ Hid (Ob wr w.heap.size s0 (P7 ++ (ll.take i).flatMap fun x => lfKB x.key)) ∧ Hid (Below w.heap.size w wr))
   case atStart => exact ⟨0, by omega, rfl, Lib.hid (by rw [List.take_zero, List.flatMap_nil, List.append_nil]; exact H1.out.1), Lib.hid H1.out.2⟩
   case round =>
    clear H1
    obtain ⟨i, him2, rfl, hob, hinv⟩ := hrel
    by_cases hi : i < m
    ·obtain ⟨x, hx⟩ : ∃ x, ll[i]? = some x := ⟨_, List.getElem?_eq_getElem (by have := HC1.out.2.2.1; omega)⟩
     obtain ⟨gx, ox, cx', hu, hgx, hcx⟩ := (HC1.out.1.below hinv.out).1.get hx
     simp only [Value.slice.injEq] at hu
     obtain ⟨rfl, -, -⟩ := hu
     have hxm := List.mem_of_getElem? hx
     have hxo := (HC1.out.1.below hinv.out).2 x hxm
     have hst := flat_step (fun x : Lf => lfKB x.key) hx P7
     obtain ⟨Y0, hY0⟩ : ∃ Z, P7 ++ (ll.take i).flatMap (fun x => lfKB x.key) = Z := ⟨_, rfl⟩
     have hy0 : Y0.length ≤ 3000000 := by
      rw [← hY0, List.length_append]
      have h1 := flat_le (f := fun x : Lf => lfKB x.key) (c := 32100) (l := ll.take i) (fun y hy => by
       have hym := List.mem_of_mem_take hy
       have hyo := (HC1.out.1.below hinv.out).2 y hym
       exact lf_le hyo.i hyo.t (fun z hz => (hyo.h z hz).1) (by have := HC1.out.2.1 y hym; omega))
      rw [List.length_take] at h1
      have h2 := HC1.out.2.2.2
      omega
     rw [hY0] at hob hst
     obtain ⟨Z1, hZ1⟩ : ∃ Z, Y0 ++ enc x.i.toNat = Z := ⟨_, rfl⟩
     obtain ⟨Z2, hZ2⟩ : ∃ Z, Z1 ++ enc x.t.toNat = Z := ⟨_, rfl⟩
     obtain ⟨Z3, hZ3⟩ : ∃ Z, Z2 ++ amtL x.a = Z := ⟨_, rfl⟩
     obtain ⟨Z4, hZ4⟩ : ∃ Z, Z3 ++ prfB x.p = Z := ⟨_, rfl⟩
     have hst4 : Z4 = P7 ++ (ll.take (i + 1)).flatMap (fun x => lfKB x.key) := by
      rw [← hst, ← hZ4, ← hZ3, ← hZ2, ← hZ1]
      unfold lfKB Lf.key
      simp only [List.append_assoc]
     have z1 : Z1.length ≤ 3000009 := by rw [← hZ1, List.length_append]; have := enc_le9 hxo.i; omega
     have z2 : Z2.length ≤ 3000018 := by rw [← hZ2, List.length_append]; have := enc_le9 hxo.t; omega
     have z3 : Z3.length ≤ 3000060 := by rw [← hZ3, List.length_append]; have := amtL_le x.a; omega
     have q1 := fun wx vx (h : Bs wx vx Y0) => var_any vx Y0 x.i wx h (by omega) hxo.i.2
     have q2 := fun wx vx (h : Bs wx vx Z1) => var_any vx Z1 x.t wx h (by omega) hxo.t.2
     have q3 := fun wx vx (h : Bs wx vx Z2) => amt_any vx Z2 x.a wx h (by omega) hxo.a
     have q4 := fun wx vx (hb : Below wr.heap.size wr wx) (h : Bs wx vx Z3) => putProof_at vx x.pv Z3 x.p wx h (by omega) (hxo.p.below hb) (fun y hy => (hxo.h y hy).1) (by have := HC1.out.2.1 x hxm; omega)
     rw [hZ1] at q1
     rw [hZ2] at q2
     rw [hZ3] at q3
     rw [hZ4] at q4
     unfold Lf.pv at q4
     have y0 := lA0 x
     have y1 := lA1 x
     have y6 := lA6 x
     have ya := lfc_a x
     obtain ⟨Y, hY⟩ : ∃ Y, (lfc x).toArray = Y := ⟨_, rfl⟩
     have hYsz : (lfc x).toArray.size = 7 := rfl
     have hYone := lfc_one x
     replace hcx : ∀ j v, (lfc x).toArray.toList[j]? = some v → wr.cell? ⟨gx, ox + i * 7 + j, none⟩ = some v := hcx
     obtain ⟨WA, hWA⟩ : ∃ A, W4 x.a = A := ⟨_, rfl⟩
     have hWsz := W4_size x.a
     rw [hWA] at ya q3 hWsz
     rw [hY] at y0 y1 y6 ya hYsz hYone hcx
     have hinf := info198 hYsz
     obtain ⟨xi, hxi⟩ : ∃ n, x.i = n := ⟨_, rfl⟩
     obtain ⟨xt, hxt⟩ : ∃ n, x.t = n := ⟨_, rfl⟩
     obtain ⟨xq, hxq⟩ : ∃ n, x.pq = n := ⟨_, rfl⟩
     obtain ⟨xc, hxc⟩ : ∃ n, x.pc = n := ⟨_, rfl⟩
     obtain ⟨xn, hxn⟩ : ∃ n, x.p.length = n := ⟨_, rfl⟩
     rw [hxi] at y0 q1
     rw [hxt] at y1 q2
     rw [hxq, hxc, hxn] at y6 q4
     replace q1 := Lib.hid q1
     replace q2 := Lib.hid q2
     replace q3 := Lib.hid q3
     replace q4 := Lib.hid q4
     replace hst4 := Lib.hid hst4
     clear hx hY0 hst hy0 hxm hxo hZ1 hZ2 hZ3 hZ4 z1 z2 z3 hY hWA hxi hxt hxq hxc hxn
     have hlt : (i : Int) < (m : Int) := by omega
     have hBr : w.heap.size ≤ wr.heap.size := hinv.out.size
     go_upto_region 10 with (fail)
     let L : List Sp := [sA 2 198 [3] #[.int .i64 0, .int .i64 0, .int .u64 0, .int .u64 0, .int .u64 0, .int .u64 0, .slice none 0 0], sT 3 2 198 [1] (fun g => aggOf g 1)]
     refine wp_region_six0 (shs L) (look6 L) (None_) (by kernel_rfl) (by kernel_rfl) (mk_St L [] [] (by kernel_rfl) (by kernel_rfl) ⟨ok_A, ok_T aggOf_congr, trivial⟩ (by simp)) ?_
     intro QQ hQ
     refine stepK rfl (by kernel_rfl) (fun K hK => ?_); go_simp
     apply Exists.intro; apply And.intro; (focus (intro wk hk; go_simp; exact ⟨rfl, rfl⟩)); refine hK _ _ ?_; clear hK K
     refine stepK rfl (by kernel_rfl) (fun K hK => ?_); go_simp
     apply Exists.intro; apply And.intro; (focus exact kLoadA rfl rfl aggT198 hcx hYsz hgx id); refine hK _ _ ?_; clear hK K
     refine stepS _ rfl (by kernel_rfl) (fun K hK => ?_); go_simp
     refine ⟨?_, ?_⟩
     ·intro wk hk hg hu; go_simp; exact left_A rfl rfl
     rintro ⟨v2, lo2, hi2⟩ hlo2 hhi2 ⟨e2, f2⟩
     replace e2 : v2 = .pointer (some ⟨lo2, 0, none⟩) := e2; replace f2 : hi2 = lo2 + 1 := f2; replace hlo2 : _ ≤ lo2 := hlo2; subst e2; subst f2
     refine hK _ _ ?_; clear hK K
     refine stepS _ rfl (by kernel_rfl) (fun K hK => ?_); go_simp
     refine ⟨?_, ?_⟩
     ·exact sStoreT rfl rfl rfl rfl rfl rfl rfl hinf hYsz.symm hYone (by decide) aggOf_congr
     rintro ⟨v3, lo3, hi3⟩ - - (rfl : v3 = undef)
     refine hK _ _ ?_; clear hK K
     refine stepN ?_
     refine hQ _ _ ?_
     intro w4 hT hG hF
     have hbw4 := hT.below
     have rY : Row w4 lo2 198 Y := (hF 3 _ rfl rfl (by decide)).2
     clear hT hG hF hQ QQ L hcx hgx
     have hs4 := hbw4.size
     have ob4 := hob.out.below hbw4
     have hB4 : w.heap.size ≤ w4.heap.size := by omega
     have HB4 := Lib.hid hbw4
     clear hob hYone hinf
     go_upto_region 11 with (fail)
     let L : List Sp := [sF 3 [] [] [] (fun _ => True) (fun x wq => Ob wq w.heap.size x.v Z1), sF 6 [3] [3] [] (fun _ => True) (fun x wq => Ob wq w.heap.size x.v Z2)]
     refine wp_region_six (shs L) (look6 L) (None_) (by kernel_rfl) (by kernel_rfl) (mk_St L [] [] (by kernel_rfl) (by kernel_rfl) ⟨ok_F (any_some _) (fun _ _ _ h hb => Ob.below h hb), ok_F (any_some _) (fun _ _ _ h hb => Ob.below h hb), trivial⟩ (by simp)) ?_
     intro QQ hQ
     iterate 2 (refine stepK rfl (by kernel_rfl) (fun K hK => ?_); go_simp; apply Exists.intro; apply And.intro; (focus (intro wk hk; go_simp; exact ⟨rfl, rfl⟩)); refine hK _ _ ?_; clear hK K)
     refine stepK rfl (by kernel_rfl) (fun K hK => ?_); go_simp
     apply Exists.intro; apply And.intro; (focus (intro wk hk; have cc : wk.cell? ⟨lo2, 0, none⟩ = some (.int .i64 xi) := ((K6.Row.tr rY hk.undrew id).cell 0).trans y0; go_simp; exact ⟨rfl, rfl⟩)); refine hK _ _ ?_; clear hK K
     refine stepS _ rfl (by kernel_rfl) (fun K hK => ?_); go_simp
     refine ⟨?_, ?_⟩
     ·intro wk hk hg hu; go_simp; refine upon_enter ((q1.out _ u0 (ob4.below hk.undrew.below).bs).mono ?_); rintro e w' ⟨v, rfl, hv, hb9⟩; exact ⟨_, rfl, left_F rfl rfl hb9 trivial (hv.base (by have := hk.undrew.size; omega))⟩
     rintro ⟨v3, lo3, hi3⟩ - - -
     refine hK _ _ ?_; clear hK K
     refine stepK rfl (by kernel_rfl) (fun K hK => ?_); go_simp
     apply Exists.intro; apply And.intro; (focus (intro wk hk; go_simp; exact ⟨rfl, rfl⟩)); refine hK _ _ ?_; clear hK K
     refine stepK rfl (by kernel_rfl) (fun K hK => ?_); go_simp
     apply Exists.intro; apply And.intro; (focus (intro wk hk; have cc : wk.cell? ⟨lo2, 1, none⟩ = some (.int .i64 xt) := ((K6.Row.tr rY hk.undrew id).cell 1).trans y1; go_simp; exact ⟨rfl, rfl⟩)); refine hK _ _ ?_; clear hK K
     refine stepS _ rfl (by kernel_rfl) (fun K hK => ?_); go_simp
     refine ⟨?_, ?_⟩
     ·intro wk hk hg hu; have u3 := hu 3 (show 3 ∈ [3] by decide); go_simp; refine upon_enter ((q2.out _ v3 (show Ob wk w.heap.size v3 Z1 from u3).bs).mono ?_); rintro e w' ⟨v, rfl, hv, hb9⟩; exact ⟨_, rfl, left_F rfl rfl hb9 trivial (hv.base (by have := hk.undrew.size; omega))⟩
     rintro ⟨v6, lo6, hi6⟩ - - -
     refine hK _ _ ?_; clear hK K
     refine stepK rfl (by kernel_rfl) (fun K hK => ?_); go_simp
     apply Exists.intro; apply And.intro; (focus (intro wk hk; go_simp; exact ⟨rfl, rfl⟩)); refine hK _ _ ?_; clear hK K
     refine stepN ?_
     refine hQ _ _ ?_
     intro w5 hT hG hF
     have hb5 := hT.undrew.below
     have o6 : Ob w5 w.heap.size v6 Z2 := hF 6 _ rfl rfl (by decide)
     have rY5 := rY.below hb5 rY.lt
     have HB5 := Lib.hid (HB4.out.trans (hb5.mono hs4))
     have hs5 := hb5.size
     have hB5 : w.heap.size ≤ w5.heap.size := by omega
     have hs45 : wr.heap.size ≤ w5.heap.size := by omega
     clear hT hG hF hQ QQ L rY ob4 hb5 HB4 q1 q2
     go_upto_region 12 with (fail)
     let L : List Sp := [sF 3 [] [] [] (fun _ => True) (fun x wq => Ob wq w.heap.size x.v Z3), sF 6 [3] [3] [] (fun _ => True) (fun x wq => Ob wq w.heap.size x.v Z4)]
     refine wp_region_six (shs L) (look6 L) (None_) (by kernel_rfl) (by kernel_rfl) (mk_St L [] [] (by kernel_rfl) (by kernel_rfl) ⟨ok_F (any_some _) (fun _ _ _ h hb => Ob.below h hb), ok_F (any_some _) (fun _ _ _ h hb => Ob.below h hb), trivial⟩ (by simp)) ?_
     intro QQ hQ
     iterate 2 (refine stepK rfl (by kernel_rfl) (fun K hK => ?_); go_simp; apply Exists.intro; apply And.intro; (focus (intro wk hk; go_simp; exact ⟨rfl, rfl⟩)); refine hK _ _ ?_; clear hK K)
     refine stepK rfl (by kernel_rfl) (fun K hK => ?_); go_simp
     apply Exists.intro; apply And.intro; (focus exact kLoadMid rfl rfl aggT31 rY5 ya hWsz id); refine hK _ _ ?_; clear hK K
     refine stepS _ rfl (by kernel_rfl) (fun K hK => ?_); go_simp
     refine ⟨?_, ?_⟩
     ·intro wk hk hg hu; go_simp; refine upon_enter ((q3.out _ v6 (o6.below hk.undrew.below).bs).mono ?_); rintro e w' ⟨v, rfl, hv, hb9⟩; exact ⟨_, rfl, left_F rfl rfl hb9 trivial (hv.base (by have := hk.undrew.size; omega))⟩
     rintro ⟨v3_, lo3_, hi3_⟩ - - -
     refine hK _ _ ?_; clear hK K
     refine stepK rfl (by kernel_rfl) (fun K hK => ?_); go_simp
     apply Exists.intro; apply And.intro; (focus (intro wk hk; go_simp; exact ⟨rfl, rfl⟩)); refine hK _ _ ?_; clear hK K
     refine stepK rfl (by kernel_rfl) (fun K hK => ?_); go_simp
     apply Exists.intro; apply And.intro; (focus (intro wk hk; have cc : wk.cell? ⟨lo2, 6, none⟩ = some (.slice xq xn xc) := ((K6.Row.tr rY5 hk.undrew id).cell 6).trans y6; go_simp; exact ⟨rfl, rfl⟩)); refine hK _ _ ?_; clear hK K
     refine stepS _ rfl (by kernel_rfl) (fun K hK => ?_); go_simp
     refine ⟨?_, ?_⟩
     ·intro wk hk hg hu; have u3 := hu 3 (show 3 ∈ [3] by decide); go_simp; refine upon_enter ((q4.out _ v3_ (HB5.out.trans (hk.undrew.below.mono hs45)) (show Ob wk w.heap.size v3_ Z3 from u3).bs).mono ?_); rintro e w' ⟨v, rfl, hv, hb9⟩; exact ⟨_, rfl, left_F rfl rfl hb9 trivial (hv.base (by have := hk.undrew.size; omega))⟩
     rintro ⟨v6_, lo6_, hi6_⟩ - - -
     refine hK _ _ ?_; clear hK K
     refine stepK rfl (by kernel_rfl) (fun K hK => ?_); go_simp
     apply Exists.intro; apply And.intro; (focus (intro wk hk; go_simp; exact ⟨rfl, rfl⟩)); refine hK _ _ ?_; clear hK K
     refine stepN ?_
     refine hQ _ _ ?_
     intro w6 hT hG hF
     have hb6 := hT.undrew.below
     have o7 : Ob w6 w.heap.size v6_ Z4 := hF 6 _ rfl rfl (by decide)
     have H6 := Lib.hid (show Ob w6 w.heap.size v6_ (P7 ++ (ll.take (i + 1)).flatMap fun x => lfKB x.key) ∧ Below w.heap.size w w6 from ⟨by rw [← hst4.out]; exact o7, hinv.out.trans ((HB5.out.trans (hb6.mono hs45)).mono hBr)⟩)
     clear hT hG hF hQ QQ L rY5 o6 o7 hb6 HB5 q3 q4 hst4 hinv
     go_wp2_with fail
     go_roundg (gk - 1)
     case measure => omega
     case rel => exact ⟨i + 1, by omega, by go_num, Lib.hid H6.out.1, Lib.hid H6.out.2⟩
    ·obtain rfl : i = m := by omega
     have hlt : ¬ (i : Int) < (i : Int) := by omega
     rw [List.take_of_length_le (by have := HC1.out.2.2.1; omega)] at hob
     go_wp2_with fail
     go_ret
     exact ⟨_, rfl, by rw [← hPe.out]; exact hob.out, hinv.out⟩
end Go.Proofs.Ytpdenhmkpiafiaa
