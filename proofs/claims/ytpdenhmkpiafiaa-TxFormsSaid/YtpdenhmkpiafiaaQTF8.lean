/-
  What the statement rests on, part 9: TxSame4 TxLight TxRef1 RefCmp Ref126.
-/
import Derived.Test.YtpdenhmkpiafiaaQTF1
import Derived.Test.YtpdenhmkpiafiaaQTF4
import Derived.Test.YtpdenhmkpiafiaaQTF6
namespace Go.Proofs.Ytpdenhmkpiafiaa
open Go Go.RowKit K6
set_option maxRecDepth 100000 in
set_option maxHeartbeats 64000000 in
theorem txsame_at (t u : Txv) (w : World) (ht : TxOk w t) (hu : TxOk w u) (hl : LightT t) :
    Calls Try.prog 140 #[.agg t.cs.toArray, .agg u.cs.toArray] w fun r w' => r = .returned (.bool (decide (t.key = u.key))) ∧ Below w.heap.size w w' := by
  have kI := fun wx (hb : Below w.heap.size w wx) => isEq_at t.nv u.nv t.n u.n wx (ht.n.below hb) (hu.n.below hb) (by have := hl.n; omega)
  have kU := fun wx (hb : Below w.heap.size w wx) => usEq_at t.av u.av t.a u.a wx (ht.a.below hb) (hu.a.below hb) ht.ab hu.ab (by have := hl.a; omega)
  have kH := fun wx (hb : Below w.heap.size w wx) => hsEq_at t.hv u.hv t.h u.h wx (ht.h.below hb) (hu.h.below hb) (fun y hy => (ht.hb y hy).1) (fun y hy => (hu.hb y hy).1) (by have := hl.h; omega)
  have kC := fun wx (hb : Below w.heap.size w wx) => sameClaim_at t.c u.c wx (ht.c.below hb) (hu.c.below hb) (by have := hl.p; omega) (by have := hl.l; omega) (fun e he => by have := hl.q e he; omega)
  unfold Txv.nv at kI
  unfold Txv.av at kU
  unfold Txv.hv at kH
  obtain ⟨bI, hI⟩ : ∃ b, decide (t.n = u.n) = b := ⟨_, rfl⟩
  obtain ⟨bU, hU⟩ : ∃ b, decide (t.a = u.a) = b := ⟨_, rfl⟩
  obtain ⟨bH, hH⟩ : ∃ b, decide (t.h = u.h) = b := ⟨_, rfl⟩
  obtain ⟨bC, hC⟩ : ∃ b, decide (t.c.key = u.c.key) = b := ⟨_, rfl⟩
  rw [hI] at kI
  rw [hU] at kU
  rw [hH] at kH
  rw [hC] at kC
  obtain ⟨b, hb⟩ : ∃ b, decide (t.key = u.key) = b := ⟨_, rfl⟩
  rw [hb]
  have HB := Lib.hid (show ((t.k ≠ u.k ∨ t.f ≠ u.f ∨ bI = false ∨ bU = false ∨ bH = false) → b = false) ∧ (t.k = u.k → t.f = u.f → bI = true → bU = true → bH = true → bC = b) from by
    subst hb hI hU hH hC
    constructor
    · intro h
      refine decide_eq_false fun he => ?_
      unfold Txv.key at he
      simp only [Prod.mk.injEq] at he
      obtain ⟨e1, e2, e3, e4, e5, -⟩ := he
      rcases h with h | h | h | h | h
      · exact h e1
      · exact h e2
      · rw [decide_eq_true e3] at h; cases h
      · rw [decide_eq_true e4] at h; cases h
      · rw [decide_eq_true e5] at h; cases h
    · intro e1 e2 e3 e4 e5
      rw [Bool.eq_iff_iff, decide_eq_true_eq, decide_eq_true_eq]
      unfold Txv.key
      simp only [Prod.mk.injEq]
      exact ⟨fun h => ⟨e1, e2, of_decide_eq_true e3, of_decide_eq_true e4, of_decide_eq_true e5, h⟩, fun h => h.2.2.2.2.2⟩)
  clear hb hI hU hH hC
  have x0 := tA0 t
  have x1 := tA1 t
  have x2 := tA2 t
  have x3 := tA3 t
  have x4 := tA4 t
  have xm := Txv.c_ t
  have xs : t.c.cs.toArray.size = 38 := by rw [List.size_toArray]; exact Cm.len ht.c.tok
  have y0 := tA0 u
  have y1 := tA1 u
  have y2 := tA2 u
  have y3 := tA3 u
  have y4 := tA4 u
  have ym := Txv.c_ u
  have ys : u.c.cs.toArray.size = 38 := by rw [List.size_toArray]; exact Cm.len hu.c.tok
  obtain ⟨nq1, hnq1⟩ : ∃ q, t.nq = q := ⟨_, rfl⟩
  obtain ⟨nc1, hnc1⟩ : ∃ q, t.nc = q := ⟨_, rfl⟩
  obtain ⟨aq1, haq1⟩ : ∃ q, t.aq = q := ⟨_, rfl⟩
  obtain ⟨ac1, hac1⟩ : ∃ q, t.ac = q := ⟨_, rfl⟩
  obtain ⟨hq1, hhq1⟩ : ∃ q, t.hq = q := ⟨_, rfl⟩
  obtain ⟨hc1, hhc1⟩ : ∃ q, t.hc = q := ⟨_, rfl⟩
  obtain ⟨ln1, hln1⟩ : ∃ q, t.n.length = q := ⟨_, rfl⟩
  obtain ⟨la1, hla1⟩ : ∃ q, t.a.length = q := ⟨_, rfl⟩
  obtain ⟨lh1, hlh1⟩ : ∃ q, t.h.length = q := ⟨_, rfl⟩
  obtain ⟨nq2, hnq2⟩ : ∃ q, u.nq = q := ⟨_, rfl⟩
  obtain ⟨nc2, hnc2⟩ : ∃ q, u.nc = q := ⟨_, rfl⟩
  obtain ⟨aq2, haq2⟩ : ∃ q, u.aq = q := ⟨_, rfl⟩
  obtain ⟨ac2, hac2⟩ : ∃ q, u.ac = q := ⟨_, rfl⟩
  obtain ⟨hq2, hhq2⟩ : ∃ q, u.hq = q := ⟨_, rfl⟩
  obtain ⟨hc2, hhc2⟩ : ∃ q, u.hc = q := ⟨_, rfl⟩
  obtain ⟨ln2, hln2⟩ : ∃ q, u.n.length = q := ⟨_, rfl⟩
  obtain ⟨la2, hla2⟩ : ∃ q, u.a.length = q := ⟨_, rfl⟩
  obtain ⟨lh2, hlh2⟩ : ∃ q, u.h.length = q := ⟨_, rfl⟩
  rw [hln1, hnq1, hnc1] at x2
  rw [hla1, haq1, hac1] at x3
  rw [hlh1, hhq1, hhc1] at x4
  rw [hln2, hnq2, hnc2] at y2
  rw [hla2, haq2, hac2] at y3
  rw [hlh2, hhq2, hhc2] at y4
  rw [hln1, hnq1, hnc1, hln2, hnq2, hnc2] at kI
  rw [hla1, haq1, hac1, hla2, haq2, hac2] at kU
  rw [hlh1, hhq1, hhc1, hlh2, hhq2, hhc2] at kH
  obtain ⟨ct, hct⟩ : ∃ c, t.cs.toArray = c := ⟨_, rfl⟩
  obtain ⟨cu, hcu⟩ : ∃ c, u.cs.toArray = c := ⟨_, rfl⟩
  obtain ⟨dt, hdt⟩ : ∃ c, t.c.cs.toArray = c := ⟨_, rfl⟩
  obtain ⟨du, hdu⟩ : ∃ c, u.c.cs.toArray = c := ⟨_, rfl⟩
  rw [hct] at x0 x1 x2 x3 x4 xm ⊢
  rw [hcu] at y0 y1 y2 y3 y4 ym ⊢
  rw [hdt] at xm xs kC
  rw [hdu] at ym ys kC
  obtain ⟨tk, htk⟩ : ∃ c, t.k = c := ⟨_, rfl⟩
  obtain ⟨uk, huk⟩ : ∃ c, u.k = c := ⟨_, rfl⟩
  obtain ⟨tf, htf⟩ : ∃ c, t.f = c := ⟨_, rfl⟩
  obtain ⟨uf, huf⟩ : ∃ c, u.f = c := ⟨_, rfl⟩
  rw [htk] at x0 HB
  rw [huk] at y0 HB
  rw [htf] at x1 HB
  rw [huf] at y1 HB
  replace kI := Lib.hid kI
  replace kU := Lib.hid kU
  replace kH := Lib.hid kH
  replace kC := Lib.hid kC
  clear hnq1 hnc1 haq1 hac1 hhq1 hhc1 hln1 hla1 hlh1 hnq2 hnc2 haq2 hac2 hhq2 hhc2 hln2 hla2 hlh2 hct hcu hdt hdu htk huk htf huf ht hu hl
  go_enter Try.func140, Try.ntmps140
  go_upto_region 1 with (fail)
  refine wp_abs (Mem w [(w.heap.size, 116, ct), (w.heap.size + 1, 116, cu)]) ⟨by go_grown, by (repeat (first | (refine Row.new_at ?_; simp; done) | refine Row.alloc ?_ _)), by (repeat (first | (refine Row.new_at ?_; simp; done) | refine Row.alloc ?_ _)), trivial⟩ ?_
  intro w0 hM
  obtain ⟨hl, r2, r3, -⟩ := hM
  by_cases e0 : tk = uk
  case neg =>
    have h0 : (tk == uk) = false := by rw [beq_eq_false_iff_ne]; exact e0
    have hbb := HB.out.1 (.inl e0)
    subst hbb
    clear e0 HB kI kU kH kC
    let L : List Sp := []
    refine wp_region_six0 (shs L) (look6 L) (None_) (by kernel_rfl) (by kernel_rfl) (mk_St L [] [] (by kernel_rfl) (by kernel_rfl) trivial (by simp)) ?_
    intro QQ hQ
    refine stepK rfl (by kernel_rfl) (fun K hK => ?_); go_simp
    apply Exists.intro; apply And.intro; (focus (intro wk hk; go_simp; exact ⟨rfl, rfl⟩)); refine hK _ _ ?_; clear hK K
    refine stepK rfl (by kernel_rfl) (fun K hK => ?_); go_simp
    apply Exists.intro; apply And.intro; (focus (intro wk hk; have cc : wk.cell? ⟨w.heap.size, 0, none⟩ = some (.int .i64 tk) := ((K6.Row.tr r2 hk id).cell 0).trans x0; go_simp; exact ⟨rfl, rfl⟩)); refine hK _ _ ?_; clear hK K
    refine stepK rfl (by kernel_rfl) (fun K hK => ?_); go_simp
    apply Exists.intro; apply And.intro; (focus (intro wk hk; go_simp; exact ⟨rfl, rfl⟩)); refine hK _ _ ?_; clear hK K
    refine stepK rfl (by kernel_rfl) (fun K hK => ?_); go_simp
    apply Exists.intro; apply And.intro; (focus (intro wk hk; have cc : wk.cell? ⟨w.heap.size + 1, 0, none⟩ = some (.int .i64 uk) := ((K6.Row.tr r3 hk id).cell 0).trans y0; go_simp; exact ⟨rfl, rfl⟩)); refine hK _ _ ?_; clear hK K
    refine stepK rfl (by kernel_rfl) (fun K hK => ?_); go_simp
    apply Exists.intro; apply And.intro; (focus (intro wk hk; go_simp; exact ⟨rfl, rfl⟩)); refine hK _ _ ?_; clear hK K
    refine stepK rfl (by kernel_rfl) (fun K hK => ?_); go_simp
    apply Exists.intro; apply And.intro; (focus (intro wk hk; go_simp; exact ⟨rfl, rfl⟩)); refine hK _ _ ?_; clear hK K
    refine stepK rfl (by kernel_rfl) (fun K hK => ?_); go_simp
    first | (refine hK _ _ ?_; clear hK K) | (apply Exists.intro; apply And.intro; (focus (intro wk hk; go_simp; exact ⟨rfl, rfl⟩)); refine hK _ _ ?_; clear hK K)
    refine stepK rfl (by kernel_rfl) (fun K hK => ?_); go_simp
    first | (refine hK _ _ ?_; clear hK K) | (apply Exists.intro; apply And.intro; (focus (intro wk hk; go_simp; exact ⟨rfl, rfl⟩)); refine hK _ _ ?_; clear hK K)
    refine stepK rfl (by kernel_rfl) (fun K hK => ?_); go_simp
    first | (refine hK _ _ ?_; clear hK K) | (apply Exists.intro; apply And.intro; (focus (intro wk hk; go_simp; exact ⟨rfl, rfl⟩)); refine hK _ _ ?_; clear hK K)
    refine stepK rfl (by kernel_rfl) (fun K hK => ?_); go_simp
    first | (refine hK _ _ ?_; clear hK K) | (apply Exists.intro; apply And.intro; (focus (intro wk hk; go_simp; exact ⟨rfl, rfl⟩)); refine hK _ _ ?_; clear hK K)
    refine stepK rfl (by kernel_rfl) (fun K hK => ?_); go_simp
    first | (refine hK _ _ ?_; clear hK K) | (apply Exists.intro; apply And.intro; (focus (intro wk hk; go_simp; exact ⟨rfl, rfl⟩)); refine hK _ _ ?_; clear hK K)
    refine stepK rfl (by kernel_rfl) (fun K hK => ?_); go_simp
    apply Exists.intro; apply And.intro; (focus (intro wk hk; go_simp; exact ⟨rfl, rfl⟩)); refine hK _ _ ?_; clear hK K
    refine stepK rfl (by kernel_rfl) (fun K hK => ?_); go_simp
    apply Exists.intro; apply And.intro; (focus (intro wk hk; go_simp; exact ⟨rfl, rfl⟩)); refine hK _ _ ?_; clear hK K
    refine stepK rfl (by kernel_rfl) (fun K hK => ?_); go_simp
    first | (refine hK _ _ ?_; clear hK K) | (apply Exists.intro; apply And.intro; (focus (intro wk hk; go_simp; exact ⟨rfl, rfl⟩)); refine hK _ _ ?_; clear hK K)
    refine stepK rfl (by kernel_rfl) (fun K hK => ?_); go_simp
    first | (refine hK _ _ ?_; clear hK K) | (apply Exists.intro; apply And.intro; (focus (intro wk hk; go_simp; exact ⟨rfl, rfl⟩)); refine hK _ _ ?_; clear hK K)
    refine stepK rfl (by kernel_rfl) (fun K hK => ?_); go_simp
    first | (refine hK _ _ ?_; clear hK K) | (apply Exists.intro; apply And.intro; (focus (intro wk hk; go_simp; exact ⟨rfl, rfl⟩)); refine hK _ _ ?_; clear hK K)
    refine stepK rfl (by kernel_rfl) (fun K hK => ?_); go_simp
    first | (refine hK _ _ ?_; clear hK K) | (apply Exists.intro; apply And.intro; (focus (intro wk hk; go_simp; exact ⟨rfl, rfl⟩)); refine hK _ _ ?_; clear hK K)
    refine stepK rfl (by kernel_rfl) (fun K hK => ?_); go_simp
    first | (refine hK _ _ ?_; clear hK K) | (apply Exists.intro; apply And.intro; (focus (intro wk hk; go_simp; exact ⟨rfl, rfl⟩)); refine hK _ _ ?_; clear hK K)
    refine stepK rfl (by kernel_rfl) (fun K hK => ?_); go_simp
    apply Exists.intro; apply And.intro; (focus (intro wk hk; go_simp; exact ⟨rfl, rfl⟩)); refine hK _ _ ?_; clear hK K
    refine stepK rfl (by kernel_rfl) (fun K hK => ?_); go_simp
    apply Exists.intro; apply And.intro; (focus (intro wk hk; go_simp; exact ⟨rfl, rfl⟩)); refine hK _ _ ?_; clear hK K
    refine stepK rfl (by kernel_rfl) (fun K hK => ?_); go_simp
    first | (refine hK _ _ ?_; clear hK K) | (apply Exists.intro; apply And.intro; (focus (intro wk hk; go_simp; exact ⟨rfl, rfl⟩)); refine hK _ _ ?_; clear hK K)
    refine stepK rfl (by kernel_rfl) (fun K hK => ?_); go_simp
    first | (refine hK _ _ ?_; clear hK K) | (apply Exists.intro; apply And.intro; (focus (intro wk hk; go_simp; exact ⟨rfl, rfl⟩)); refine hK _ _ ?_; clear hK K)
    refine stepK rfl (by kernel_rfl) (fun K hK => ?_); go_simp
    first | (refine hK _ _ ?_; clear hK K) | (apply Exists.intro; apply And.intro; (focus (intro wk hk; go_simp; exact ⟨rfl, rfl⟩)); refine hK _ _ ?_; clear hK K)
    refine stepK rfl (by kernel_rfl) (fun K hK => ?_); go_simp
    first | (refine hK _ _ ?_; clear hK K) | (apply Exists.intro; apply And.intro; (focus (intro wk hk; go_simp; exact ⟨rfl, rfl⟩)); refine hK _ _ ?_; clear hK K)
    refine stepK rfl (by kernel_rfl) (fun K hK => ?_); go_simp
    first | (refine hK _ _ ?_; clear hK K) | (apply Exists.intro; apply And.intro; (focus (intro wk hk; go_simp; exact ⟨rfl, rfl⟩)); refine hK _ _ ?_; clear hK K)
    refine stepK rfl (by kernel_rfl) (fun K hK => ?_); go_simp
    apply Exists.intro; apply And.intro; (focus (intro wk hk; go_simp; exact ⟨rfl, rfl⟩)); refine hK _ _ ?_; clear hK K
    refine stepK rfl (by kernel_rfl) (fun K hK => ?_); go_simp
    apply Exists.intro; apply And.intro; (focus (intro wk hk; go_simp; exact ⟨rfl, rfl⟩)); refine hK _ _ ?_; clear hK K
    refine stepK rfl (by kernel_rfl) (fun K hK => ?_); go_simp
    first | (refine hK _ _ ?_; clear hK K) | (apply Exists.intro; apply And.intro; (focus (intro wk hk; go_simp; exact ⟨rfl, rfl⟩)); refine hK _ _ ?_; clear hK K)
    refine stepK rfl (by kernel_rfl) (fun K hK => ?_); go_simp
    first | (refine hK _ _ ?_; clear hK K) | (apply Exists.intro; apply And.intro; (focus (intro wk hk; go_simp; exact ⟨rfl, rfl⟩)); refine hK _ _ ?_; clear hK K)
    refine stepK rfl (by kernel_rfl) (fun K hK => ?_); go_simp
    first | (refine hK _ _ ?_; clear hK K) | (apply Exists.intro; apply And.intro; (focus (intro wk hk; go_simp; exact ⟨rfl, rfl⟩)); refine hK _ _ ?_; clear hK K)
    refine stepK rfl (by kernel_rfl) (fun K hK => ?_); go_simp
    first | (refine hK _ _ ?_; clear hK K) | (apply Exists.intro; apply And.intro; (focus (intro wk hk; go_simp; exact ⟨rfl, rfl⟩)); refine hK _ _ ?_; clear hK K)
    refine stepK rfl (by kernel_rfl) (fun K hK => ?_); go_simp
    first | (refine hK _ _ ?_; clear hK K) | (apply Exists.intro; apply And.intro; (focus (intro wk hk; go_simp; exact ⟨rfl, rfl⟩)); refine hK _ _ ?_; clear hK K)
    refine stepK rfl (by kernel_rfl) (fun K hK => ?_); go_simp
    apply Exists.intro; apply And.intro; (focus (intro wk hk; go_simp; exact ⟨rfl, rfl⟩)); refine hK _ _ ?_; clear hK K
    refine stepK rfl (by kernel_rfl) (fun K hK => ?_); go_simp
    apply Exists.intro; apply And.intro; (focus (intro wk hk; go_simp; exact ⟨rfl, rfl⟩)); refine hK _ _ ?_; clear hK K
    refine stepK rfl (by kernel_rfl) (fun K hK => ?_); go_simp
    first | (refine hK _ _ ?_; clear hK K) | (apply Exists.intro; apply And.intro; (focus (intro wk hk; go_simp; exact ⟨rfl, rfl⟩)); refine hK _ _ ?_; clear hK K)
    refine stepK rfl (by kernel_rfl) (fun K hK => ?_); go_simp
    first | (refine hK _ _ ?_; clear hK K) | (apply Exists.intro; apply And.intro; (focus (intro wk hk; go_simp; exact ⟨rfl, rfl⟩)); refine hK _ _ ?_; clear hK K)
    refine stepK rfl (by kernel_rfl) (fun K hK => ?_); go_simp
    first | (refine hK _ _ ?_; clear hK K) | (apply Exists.intro; apply And.intro; (focus (intro wk hk; go_simp; exact ⟨rfl, rfl⟩)); refine hK _ _ ?_; clear hK K)
    refine stepK rfl (by kernel_rfl) (fun K hK => ?_); go_simp
    first | (refine hK _ _ ?_; clear hK K) | (apply Exists.intro; apply And.intro; (focus (intro wk hk; go_simp; exact ⟨rfl, rfl⟩)); refine hK _ _ ?_; clear hK K)
    refine stepK rfl (by kernel_rfl) (fun K hK => ?_); go_simp
    first | (refine hK _ _ ?_; clear hK K) | (apply Exists.intro; apply And.intro; (focus (intro wk hk; go_simp; exact ⟨rfl, rfl⟩)); refine hK _ _ ?_; clear hK K)
    refine stepK rfl (by kernel_rfl) (fun K hK => ?_); go_simp
    apply Exists.intro; apply And.intro; (focus (intro wk hk; go_simp; exact ⟨rfl, rfl⟩)); refine hK _ _ ?_; clear hK K
    refine stepK rfl (by kernel_rfl) (fun K hK => ?_); go_simp
    apply Exists.intro; apply And.intro; (focus (intro wk hk; go_simp; exact ⟨rfl, rfl⟩)); refine hK _ _ ?_; clear hK K
    refine stepN ?_
    refine hQ _ _ ?_
    intro w9 hT hG hF
    have H9 := Lib.hid (hl.trans (hT.below.mono hl.size))
    clear hT hG hF hQ QQ L hl r2 r3
    go_wp2_with fail
    go_ret
    exact ⟨rfl, H9.out⟩
  have h0 : (tk == uk) = true := by rw [beq_iff_eq]; exact e0
  by_cases e1 : tf = uf
  case neg =>
    have h1 : (tf == uf) = false := by rw [beq_eq_false_iff_ne]; exact e1
    have hbb := HB.out.1 (.inr (.inl e1))
    subst hbb
    clear e0 e1 HB kI kU kH kC
    let L : List Sp := []
    refine wp_region_six0 (shs L) (look6 L) (None_) (by kernel_rfl) (by kernel_rfl) (mk_St L [] [] (by kernel_rfl) (by kernel_rfl) trivial (by simp)) ?_
    intro QQ hQ
    refine stepK rfl (by kernel_rfl) (fun K hK => ?_); go_simp
    apply Exists.intro; apply And.intro; (focus (intro wk hk; go_simp; exact ⟨rfl, rfl⟩)); refine hK _ _ ?_; clear hK K
    refine stepK rfl (by kernel_rfl) (fun K hK => ?_); go_simp
    apply Exists.intro; apply And.intro; (focus (intro wk hk; have cc : wk.cell? ⟨w.heap.size, 0, none⟩ = some (.int .i64 tk) := ((K6.Row.tr r2 hk id).cell 0).trans x0; go_simp; exact ⟨rfl, rfl⟩)); refine hK _ _ ?_; clear hK K
    refine stepK rfl (by kernel_rfl) (fun K hK => ?_); go_simp
    apply Exists.intro; apply And.intro; (focus (intro wk hk; go_simp; exact ⟨rfl, rfl⟩)); refine hK _ _ ?_; clear hK K
    refine stepK rfl (by kernel_rfl) (fun K hK => ?_); go_simp
    apply Exists.intro; apply And.intro; (focus (intro wk hk; have cc : wk.cell? ⟨w.heap.size + 1, 0, none⟩ = some (.int .i64 uk) := ((K6.Row.tr r3 hk id).cell 0).trans y0; go_simp; exact ⟨rfl, rfl⟩)); refine hK _ _ ?_; clear hK K
    refine stepK rfl (by kernel_rfl) (fun K hK => ?_); go_simp
    apply Exists.intro; apply And.intro; (focus (intro wk hk; go_simp; exact ⟨rfl, rfl⟩)); refine hK _ _ ?_; clear hK K
    refine stepK rfl (by kernel_rfl) (fun K hK => ?_); go_simp
    apply Exists.intro; apply And.intro; (focus (intro wk hk; go_simp; exact ⟨rfl, rfl⟩)); refine hK _ _ ?_; clear hK K
    refine stepK rfl (by kernel_rfl) (fun K hK => ?_); go_simp
    first | (refine hK _ _ ?_; clear hK K) | (apply Exists.intro; apply And.intro; (focus (intro wk hk; go_simp; exact ⟨rfl, rfl⟩)); refine hK _ _ ?_; clear hK K)
    refine stepK rfl (by kernel_rfl) (fun K hK => ?_); go_simp
    first | (refine hK _ _ ?_; clear hK K) | (apply Exists.intro; apply And.intro; (focus (intro wk hk; have cc : wk.cell? ⟨w.heap.size, 1, none⟩ = some (.int .i64 tf) := ((K6.Row.tr r2 hk id).cell 1).trans x1; go_simp; exact ⟨rfl, rfl⟩)); refine hK _ _ ?_; clear hK K)
    refine stepK rfl (by kernel_rfl) (fun K hK => ?_); go_simp
    first | (refine hK _ _ ?_; clear hK K) | (apply Exists.intro; apply And.intro; (focus (intro wk hk; go_simp; exact ⟨rfl, rfl⟩)); refine hK _ _ ?_; clear hK K)
    refine stepK rfl (by kernel_rfl) (fun K hK => ?_); go_simp
    first | (refine hK _ _ ?_; clear hK K) | (apply Exists.intro; apply And.intro; (focus (intro wk hk; have cc : wk.cell? ⟨w.heap.size + 1, 1, none⟩ = some (.int .i64 uf) := ((K6.Row.tr r3 hk id).cell 1).trans y1; go_simp; exact ⟨rfl, rfl⟩)); refine hK _ _ ?_; clear hK K)
    refine stepK rfl (by kernel_rfl) (fun K hK => ?_); go_simp
    first | (refine hK _ _ ?_; clear hK K) | (apply Exists.intro; apply And.intro; (focus (intro wk hk; go_simp; exact ⟨rfl, rfl⟩)); refine hK _ _ ?_; clear hK K)
    refine stepK rfl (by kernel_rfl) (fun K hK => ?_); go_simp
    apply Exists.intro; apply And.intro; (focus (intro wk hk; go_simp; exact ⟨rfl, rfl⟩)); refine hK _ _ ?_; clear hK K
    refine stepK rfl (by kernel_rfl) (fun K hK => ?_); go_simp
    apply Exists.intro; apply And.intro; (focus (intro wk hk; go_simp; exact ⟨rfl, rfl⟩)); refine hK _ _ ?_; clear hK K
    refine stepK rfl (by kernel_rfl) (fun K hK => ?_); go_simp
    first | (refine hK _ _ ?_; clear hK K) | (apply Exists.intro; apply And.intro; (focus (intro wk hk; go_simp; exact ⟨rfl, rfl⟩)); refine hK _ _ ?_; clear hK K)
    refine stepK rfl (by kernel_rfl) (fun K hK => ?_); go_simp
    first | (refine hK _ _ ?_; clear hK K) | (apply Exists.intro; apply And.intro; (focus (intro wk hk; go_simp; exact ⟨rfl, rfl⟩)); refine hK _ _ ?_; clear hK K)
    refine stepK rfl (by kernel_rfl) (fun K hK => ?_); go_simp
    first | (refine hK _ _ ?_; clear hK K) | (apply Exists.intro; apply And.intro; (focus (intro wk hk; go_simp; exact ⟨rfl, rfl⟩)); refine hK _ _ ?_; clear hK K)
    refine stepK rfl (by kernel_rfl) (fun K hK => ?_); go_simp
    first | (refine hK _ _ ?_; clear hK K) | (apply Exists.intro; apply And.intro; (focus (intro wk hk; go_simp; exact ⟨rfl, rfl⟩)); refine hK _ _ ?_; clear hK K)
    refine stepK rfl (by kernel_rfl) (fun K hK => ?_); go_simp
    first | (refine hK _ _ ?_; clear hK K) | (apply Exists.intro; apply And.intro; (focus (intro wk hk; go_simp; exact ⟨rfl, rfl⟩)); refine hK _ _ ?_; clear hK K)
    refine stepK rfl (by kernel_rfl) (fun K hK => ?_); go_simp
    apply Exists.intro; apply And.intro; (focus (intro wk hk; go_simp; exact ⟨rfl, rfl⟩)); refine hK _ _ ?_; clear hK K
    refine stepK rfl (by kernel_rfl) (fun K hK => ?_); go_simp
    apply Exists.intro; apply And.intro; (focus (intro wk hk; go_simp; exact ⟨rfl, rfl⟩)); refine hK _ _ ?_; clear hK K
    refine stepK rfl (by kernel_rfl) (fun K hK => ?_); go_simp
    first | (refine hK _ _ ?_; clear hK K) | (apply Exists.intro; apply And.intro; (focus (intro wk hk; go_simp; exact ⟨rfl, rfl⟩)); refine hK _ _ ?_; clear hK K)
    refine stepK rfl (by kernel_rfl) (fun K hK => ?_); go_simp
    first | (refine hK _ _ ?_; clear hK K) | (apply Exists.intro; apply And.intro; (focus (intro wk hk; go_simp; exact ⟨rfl, rfl⟩)); refine hK _ _ ?_; clear hK K)
    refine stepK rfl (by kernel_rfl) (fun K hK => ?_); go_simp
    first | (refine hK _ _ ?_; clear hK K) | (apply Exists.intro; apply And.intro; (focus (intro wk hk; go_simp; exact ⟨rfl, rfl⟩)); refine hK _ _ ?_; clear hK K)
    refine stepK rfl (by kernel_rfl) (fun K hK => ?_); go_simp
    first | (refine hK _ _ ?_; clear hK K) | (apply Exists.intro; apply And.intro; (focus (intro wk hk; go_simp; exact ⟨rfl, rfl⟩)); refine hK _ _ ?_; clear hK K)
    refine stepK rfl (by kernel_rfl) (fun K hK => ?_); go_simp
    first | (refine hK _ _ ?_; clear hK K) | (apply Exists.intro; apply And.intro; (focus (intro wk hk; go_simp; exact ⟨rfl, rfl⟩)); refine hK _ _ ?_; clear hK K)
    refine stepK rfl (by kernel_rfl) (fun K hK => ?_); go_simp
    apply Exists.intro; apply And.intro; (focus (intro wk hk; go_simp; exact ⟨rfl, rfl⟩)); refine hK _ _ ?_; clear hK K
    refine stepK rfl (by kernel_rfl) (fun K hK => ?_); go_simp
    apply Exists.intro; apply And.intro; (focus (intro wk hk; go_simp; exact ⟨rfl, rfl⟩)); refine hK _ _ ?_; clear hK K
    refine stepK rfl (by kernel_rfl) (fun K hK => ?_); go_simp
    first | (refine hK _ _ ?_; clear hK K) | (apply Exists.intro; apply And.intro; (focus (intro wk hk; go_simp; exact ⟨rfl, rfl⟩)); refine hK _ _ ?_; clear hK K)
    refine stepK rfl (by kernel_rfl) (fun K hK => ?_); go_simp
    first | (refine hK _ _ ?_; clear hK K) | (apply Exists.intro; apply And.intro; (focus (intro wk hk; go_simp; exact ⟨rfl, rfl⟩)); refine hK _ _ ?_; clear hK K)
    refine stepK rfl (by kernel_rfl) (fun K hK => ?_); go_simp
    first | (refine hK _ _ ?_; clear hK K) | (apply Exists.intro; apply And.intro; (focus (intro wk hk; go_simp; exact ⟨rfl, rfl⟩)); refine hK _ _ ?_; clear hK K)
    refine stepK rfl (by kernel_rfl) (fun K hK => ?_); go_simp
    first | (refine hK _ _ ?_; clear hK K) | (apply Exists.intro; apply And.intro; (focus (intro wk hk; go_simp; exact ⟨rfl, rfl⟩)); refine hK _ _ ?_; clear hK K)
    refine stepK rfl (by kernel_rfl) (fun K hK => ?_); go_simp
    first | (refine hK _ _ ?_; clear hK K) | (apply Exists.intro; apply And.intro; (focus (intro wk hk; go_simp; exact ⟨rfl, rfl⟩)); refine hK _ _ ?_; clear hK K)
    refine stepK rfl (by kernel_rfl) (fun K hK => ?_); go_simp
    apply Exists.intro; apply And.intro; (focus (intro wk hk; go_simp; exact ⟨rfl, rfl⟩)); refine hK _ _ ?_; clear hK K
    refine stepK rfl (by kernel_rfl) (fun K hK => ?_); go_simp
    apply Exists.intro; apply And.intro; (focus (intro wk hk; go_simp; exact ⟨rfl, rfl⟩)); refine hK _ _ ?_; clear hK K
    refine stepK rfl (by kernel_rfl) (fun K hK => ?_); go_simp
    first | (refine hK _ _ ?_; clear hK K) | (apply Exists.intro; apply And.intro; (focus (intro wk hk; go_simp; exact ⟨rfl, rfl⟩)); refine hK _ _ ?_; clear hK K)
    refine stepK rfl (by kernel_rfl) (fun K hK => ?_); go_simp
    first | (refine hK _ _ ?_; clear hK K) | (apply Exists.intro; apply And.intro; (focus (intro wk hk; go_simp; exact ⟨rfl, rfl⟩)); refine hK _ _ ?_; clear hK K)
    refine stepK rfl (by kernel_rfl) (fun K hK => ?_); go_simp
    first | (refine hK _ _ ?_; clear hK K) | (apply Exists.intro; apply And.intro; (focus (intro wk hk; go_simp; exact ⟨rfl, rfl⟩)); refine hK _ _ ?_; clear hK K)
    refine stepK rfl (by kernel_rfl) (fun K hK => ?_); go_simp
    first | (refine hK _ _ ?_; clear hK K) | (apply Exists.intro; apply And.intro; (focus (intro wk hk; go_simp; exact ⟨rfl, rfl⟩)); refine hK _ _ ?_; clear hK K)
    refine stepK rfl (by kernel_rfl) (fun K hK => ?_); go_simp
    first | (refine hK _ _ ?_; clear hK K) | (apply Exists.intro; apply And.intro; (focus (intro wk hk; go_simp; exact ⟨rfl, rfl⟩)); refine hK _ _ ?_; clear hK K)
    refine stepK rfl (by kernel_rfl) (fun K hK => ?_); go_simp
    apply Exists.intro; apply And.intro; (focus (intro wk hk; go_simp; exact ⟨rfl, rfl⟩)); refine hK _ _ ?_; clear hK K
    refine stepK rfl (by kernel_rfl) (fun K hK => ?_); go_simp
    apply Exists.intro; apply And.intro; (focus (intro wk hk; go_simp; exact ⟨rfl, rfl⟩)); refine hK _ _ ?_; clear hK K
    refine stepN ?_
    refine hQ _ _ ?_
    intro w9 hT hG hF
    have H9 := Lib.hid (hl.trans (hT.below.mono hl.size))
    clear hT hG hF hQ QQ L hl r2 r3
    go_wp2_with fail
    go_ret
    exact ⟨rfl, H9.out⟩
  have h1 : (tf == uf) = true := by rw [beq_iff_eq]; exact e1
  cases bI
  · have hbb := HB.out.1 (.inr (.inr (.inl rfl)))
    subst hbb
    clear e0 e1 HB kU kH kC
    let L : List Sp := [sV 17 [] [] (fun u => u = .bool false)]
    refine wp_region_six0 (shs L) (look6 L) (None_) (by kernel_rfl) (by kernel_rfl) (mk_St L [] [] (by kernel_rfl) (by kernel_rfl) ⟨ok_V ⟨_, rfl⟩, trivial⟩ (by simp)) ?_
    intro QQ hQ
    refine stepK rfl (by kernel_rfl) (fun K hK => ?_); go_simp
    apply Exists.intro; apply And.intro; (focus (intro wk hk; go_simp; exact ⟨rfl, rfl⟩)); refine hK _ _ ?_; clear hK K
    refine stepK rfl (by kernel_rfl) (fun K hK => ?_); go_simp
    apply Exists.intro; apply And.intro; (focus (intro wk hk; have cc : wk.cell? ⟨w.heap.size, 0, none⟩ = some (.int .i64 tk) := ((K6.Row.tr r2 hk id).cell 0).trans x0; go_simp; exact ⟨rfl, rfl⟩)); refine hK _ _ ?_; clear hK K
    refine stepK rfl (by kernel_rfl) (fun K hK => ?_); go_simp
    apply Exists.intro; apply And.intro; (focus (intro wk hk; go_simp; exact ⟨rfl, rfl⟩)); refine hK _ _ ?_; clear hK K
    refine stepK rfl (by kernel_rfl) (fun K hK => ?_); go_simp
    apply Exists.intro; apply And.intro; (focus (intro wk hk; have cc : wk.cell? ⟨w.heap.size + 1, 0, none⟩ = some (.int .i64 uk) := ((K6.Row.tr r3 hk id).cell 0).trans y0; go_simp; exact ⟨rfl, rfl⟩)); refine hK _ _ ?_; clear hK K
    refine stepK rfl (by kernel_rfl) (fun K hK => ?_); go_simp
    apply Exists.intro; apply And.intro; (focus (intro wk hk; go_simp; exact ⟨rfl, rfl⟩)); refine hK _ _ ?_; clear hK K
    refine stepK rfl (by kernel_rfl) (fun K hK => ?_); go_simp
    apply Exists.intro; apply And.intro; (focus (intro wk hk; go_simp; exact ⟨rfl, rfl⟩)); refine hK _ _ ?_; clear hK K
    refine stepK rfl (by kernel_rfl) (fun K hK => ?_); go_simp
    first | (refine hK _ _ ?_; clear hK K) | (apply Exists.intro; apply And.intro; (focus (intro wk hk; go_simp; exact ⟨rfl, rfl⟩)); refine hK _ _ ?_; clear hK K)
    refine stepK rfl (by kernel_rfl) (fun K hK => ?_); go_simp
    first | (refine hK _ _ ?_; clear hK K) | (apply Exists.intro; apply And.intro; (focus (intro wk hk; have cc : wk.cell? ⟨w.heap.size, 1, none⟩ = some (.int .i64 tf) := ((K6.Row.tr r2 hk id).cell 1).trans x1; go_simp; exact ⟨rfl, rfl⟩)); refine hK _ _ ?_; clear hK K)
    refine stepK rfl (by kernel_rfl) (fun K hK => ?_); go_simp
    first | (refine hK _ _ ?_; clear hK K) | (apply Exists.intro; apply And.intro; (focus (intro wk hk; go_simp; exact ⟨rfl, rfl⟩)); refine hK _ _ ?_; clear hK K)
    refine stepK rfl (by kernel_rfl) (fun K hK => ?_); go_simp
    first | (refine hK _ _ ?_; clear hK K) | (apply Exists.intro; apply And.intro; (focus (intro wk hk; have cc : wk.cell? ⟨w.heap.size + 1, 1, none⟩ = some (.int .i64 uf) := ((K6.Row.tr r3 hk id).cell 1).trans y1; go_simp; exact ⟨rfl, rfl⟩)); refine hK _ _ ?_; clear hK K)
    refine stepK rfl (by kernel_rfl) (fun K hK => ?_); go_simp
    first | (refine hK _ _ ?_; clear hK K) | (apply Exists.intro; apply And.intro; (focus (intro wk hk; go_simp; exact ⟨rfl, rfl⟩)); refine hK _ _ ?_; clear hK K)
    refine stepK rfl (by kernel_rfl) (fun K hK => ?_); go_simp
    apply Exists.intro; apply And.intro; (focus (intro wk hk; go_simp; exact ⟨rfl, rfl⟩)); refine hK _ _ ?_; clear hK K
    refine stepK rfl (by kernel_rfl) (fun K hK => ?_); go_simp
    apply Exists.intro; apply And.intro; (focus (intro wk hk; go_simp; exact ⟨rfl, rfl⟩)); refine hK _ _ ?_; clear hK K
    refine stepK rfl (by kernel_rfl) (fun K hK => ?_); go_simp
    first | (refine hK _ _ ?_; clear hK K) | (apply Exists.intro; apply And.intro; (focus (intro wk hk; go_simp; exact ⟨rfl, rfl⟩)); refine hK _ _ ?_; clear hK K)
    refine stepK rfl (by kernel_rfl) (fun K hK => ?_); go_simp
    first | (refine hK _ _ ?_; clear hK K) | (apply Exists.intro; apply And.intro; (focus (intro wk hk; have cc : wk.cell? ⟨w.heap.size, 2, none⟩ = some (.slice nq1 ln1 nc1) := ((K6.Row.tr r2 hk id).cell 2).trans x2; go_simp; exact ⟨rfl, rfl⟩)); refine hK _ _ ?_; clear hK K)
    refine stepK rfl (by kernel_rfl) (fun K hK => ?_); go_simp
    first | (refine hK _ _ ?_; clear hK K) | (apply Exists.intro; apply And.intro; (focus (intro wk hk; go_simp; exact ⟨rfl, rfl⟩)); refine hK _ _ ?_; clear hK K)
    refine stepK rfl (by kernel_rfl) (fun K hK => ?_); go_simp
    first | (refine hK _ _ ?_; clear hK K) | (apply Exists.intro; apply And.intro; (focus (intro wk hk; have cc : wk.cell? ⟨w.heap.size + 1, 2, none⟩ = some (.slice nq2 ln2 nc2) := ((K6.Row.tr r3 hk id).cell 2).trans y2; go_simp; exact ⟨rfl, rfl⟩)); refine hK _ _ ?_; clear hK K)
    refine stepS _ rfl (by kernel_rfl) (fun K hK => ?_); go_simp
    refine ⟨?_, ?_⟩
    · intro wk hk hg hu; go_simp; refine upon_enter ((kI.out _ (hl.trans (hk.below.mono hl.size))).mono ?_); rintro e w' ⟨rfl, hb⟩; exact ⟨_, rfl, left_V (p := fun u => u = .bool false) rfl (hb) rfl⟩
    rintro ⟨v17, lo17, hi17⟩ - - (rfl : v17 = _)
    refine hK _ _ ?_; clear hK K
    refine stepK rfl (by kernel_rfl) (fun K hK => ?_); go_simp
    apply Exists.intro; apply And.intro; (focus (intro wk hk; go_simp; exact ⟨rfl, rfl⟩)); refine hK _ _ ?_; clear hK K
    refine stepK rfl (by kernel_rfl) (fun K hK => ?_); go_simp
    apply Exists.intro; apply And.intro; (focus (intro wk hk; go_simp; exact ⟨rfl, rfl⟩)); refine hK _ _ ?_; clear hK K
    refine stepK rfl (by kernel_rfl) (fun K hK => ?_); go_simp
    first | (refine hK _ _ ?_; clear hK K) | (apply Exists.intro; apply And.intro; (focus (intro wk hk; go_simp; exact ⟨rfl, rfl⟩)); refine hK _ _ ?_; clear hK K)
    refine stepK rfl (by kernel_rfl) (fun K hK => ?_); go_simp
    first | (refine hK _ _ ?_; clear hK K) | (apply Exists.intro; apply And.intro; (focus (intro wk hk; go_simp; exact ⟨rfl, rfl⟩)); refine hK _ _ ?_; clear hK K)
    refine stepK rfl (by kernel_rfl) (fun K hK => ?_); go_simp
    first | (refine hK _ _ ?_; clear hK K) | (apply Exists.intro; apply And.intro; (focus (intro wk hk; go_simp; exact ⟨rfl, rfl⟩)); refine hK _ _ ?_; clear hK K)
    refine stepK rfl (by kernel_rfl) (fun K hK => ?_); go_simp
    first | (refine hK _ _ ?_; clear hK K) | (apply Exists.intro; apply And.intro; (focus (intro wk hk; go_simp; exact ⟨rfl, rfl⟩)); refine hK _ _ ?_; clear hK K)
    refine stepK rfl (by kernel_rfl) (fun K hK => ?_); go_simp
    first | (refine hK _ _ ?_; clear hK K) | (apply Exists.intro; apply And.intro; (focus (intro wk hk; go_simp; exact ⟨rfl, rfl⟩)); refine hK _ _ ?_; clear hK K)
    refine stepK rfl (by kernel_rfl) (fun K hK => ?_); go_simp
    apply Exists.intro; apply And.intro; (focus (intro wk hk; go_simp; exact ⟨rfl, rfl⟩)); refine hK _ _ ?_; clear hK K
    refine stepK rfl (by kernel_rfl) (fun K hK => ?_); go_simp
    apply Exists.intro; apply And.intro; (focus (intro wk hk; go_simp; exact ⟨rfl, rfl⟩)); refine hK _ _ ?_; clear hK K
    refine stepK rfl (by kernel_rfl) (fun K hK => ?_); go_simp
    first | (refine hK _ _ ?_; clear hK K) | (apply Exists.intro; apply And.intro; (focus (intro wk hk; go_simp; exact ⟨rfl, rfl⟩)); refine hK _ _ ?_; clear hK K)
    refine stepK rfl (by kernel_rfl) (fun K hK => ?_); go_simp
    first | (refine hK _ _ ?_; clear hK K) | (apply Exists.intro; apply And.intro; (focus (intro wk hk; go_simp; exact ⟨rfl, rfl⟩)); refine hK _ _ ?_; clear hK K)
    refine stepK rfl (by kernel_rfl) (fun K hK => ?_); go_simp
    first | (refine hK _ _ ?_; clear hK K) | (apply Exists.intro; apply And.intro; (focus (intro wk hk; go_simp; exact ⟨rfl, rfl⟩)); refine hK _ _ ?_; clear hK K)
    refine stepK rfl (by kernel_rfl) (fun K hK => ?_); go_simp
    first | (refine hK _ _ ?_; clear hK K) | (apply Exists.intro; apply And.intro; (focus (intro wk hk; go_simp; exact ⟨rfl, rfl⟩)); refine hK _ _ ?_; clear hK K)
    refine stepK rfl (by kernel_rfl) (fun K hK => ?_); go_simp
    first | (refine hK _ _ ?_; clear hK K) | (apply Exists.intro; apply And.intro; (focus (intro wk hk; go_simp; exact ⟨rfl, rfl⟩)); refine hK _ _ ?_; clear hK K)
    refine stepK rfl (by kernel_rfl) (fun K hK => ?_); go_simp
    apply Exists.intro; apply And.intro; (focus (intro wk hk; go_simp; exact ⟨rfl, rfl⟩)); refine hK _ _ ?_; clear hK K
    refine stepK rfl (by kernel_rfl) (fun K hK => ?_); go_simp
    apply Exists.intro; apply And.intro; (focus (intro wk hk; go_simp; exact ⟨rfl, rfl⟩)); refine hK _ _ ?_; clear hK K
    refine stepK rfl (by kernel_rfl) (fun K hK => ?_); go_simp
    first | (refine hK _ _ ?_; clear hK K) | (apply Exists.intro; apply And.intro; (focus (intro wk hk; go_simp; exact ⟨rfl, rfl⟩)); refine hK _ _ ?_; clear hK K)
    refine stepK rfl (by kernel_rfl) (fun K hK => ?_); go_simp
    first | (refine hK _ _ ?_; clear hK K) | (apply Exists.intro; apply And.intro; (focus (intro wk hk; go_simp; exact ⟨rfl, rfl⟩)); refine hK _ _ ?_; clear hK K)
    refine stepK rfl (by kernel_rfl) (fun K hK => ?_); go_simp
    first | (refine hK _ _ ?_; clear hK K) | (apply Exists.intro; apply And.intro; (focus (intro wk hk; go_simp; exact ⟨rfl, rfl⟩)); refine hK _ _ ?_; clear hK K)
    refine stepK rfl (by kernel_rfl) (fun K hK => ?_); go_simp
    first | (refine hK _ _ ?_; clear hK K) | (apply Exists.intro; apply And.intro; (focus (intro wk hk; go_simp; exact ⟨rfl, rfl⟩)); refine hK _ _ ?_; clear hK K)
    refine stepK rfl (by kernel_rfl) (fun K hK => ?_); go_simp
    first | (refine hK _ _ ?_; clear hK K) | (apply Exists.intro; apply And.intro; (focus (intro wk hk; go_simp; exact ⟨rfl, rfl⟩)); refine hK _ _ ?_; clear hK K)
    refine stepK rfl (by kernel_rfl) (fun K hK => ?_); go_simp
    apply Exists.intro; apply And.intro; (focus (intro wk hk; go_simp; exact ⟨rfl, rfl⟩)); refine hK _ _ ?_; clear hK K
    refine stepK rfl (by kernel_rfl) (fun K hK => ?_); go_simp
    apply Exists.intro; apply And.intro; (focus (intro wk hk; go_simp; exact ⟨rfl, rfl⟩)); refine hK _ _ ?_; clear hK K
    refine stepN ?_
    refine hQ _ _ ?_
    intro w9 hT hG hF
    have H9 := Lib.hid (hl.trans (hT.below.mono hl.size))
    clear hT hG hF hQ QQ L hl r2 r3
    go_wp2_with fail
    go_ret
    exact ⟨rfl, H9.out⟩
  cases bU
  · have hbb := HB.out.1 (.inr (.inr (.inr (.inl rfl))))
    subst hbb
    clear e0 e1 HB kH kC
    let L : List Sp := [sV 17 [] [] (fun u => u = .bool true), sV 24 [] [] (fun u => u = .bool false)]
    refine wp_region_six0 (shs L) (look6 L) (None_) (by kernel_rfl) (by kernel_rfl) (mk_St L [] [] (by kernel_rfl) (by kernel_rfl) ⟨ok_V ⟨_, rfl⟩, ok_V ⟨_, rfl⟩, trivial⟩ (by simp)) ?_
    intro QQ hQ
    refine stepK rfl (by kernel_rfl) (fun K hK => ?_); go_simp
    apply Exists.intro; apply And.intro; (focus (intro wk hk; go_simp; exact ⟨rfl, rfl⟩)); refine hK _ _ ?_; clear hK K
    refine stepK rfl (by kernel_rfl) (fun K hK => ?_); go_simp
    apply Exists.intro; apply And.intro; (focus (intro wk hk; have cc : wk.cell? ⟨w.heap.size, 0, none⟩ = some (.int .i64 tk) := ((K6.Row.tr r2 hk id).cell 0).trans x0; go_simp; exact ⟨rfl, rfl⟩)); refine hK _ _ ?_; clear hK K
    refine stepK rfl (by kernel_rfl) (fun K hK => ?_); go_simp
    apply Exists.intro; apply And.intro; (focus (intro wk hk; go_simp; exact ⟨rfl, rfl⟩)); refine hK _ _ ?_; clear hK K
    refine stepK rfl (by kernel_rfl) (fun K hK => ?_); go_simp
    apply Exists.intro; apply And.intro; (focus (intro wk hk; have cc : wk.cell? ⟨w.heap.size + 1, 0, none⟩ = some (.int .i64 uk) := ((K6.Row.tr r3 hk id).cell 0).trans y0; go_simp; exact ⟨rfl, rfl⟩)); refine hK _ _ ?_; clear hK K
    refine stepK rfl (by kernel_rfl) (fun K hK => ?_); go_simp
    apply Exists.intro; apply And.intro; (focus (intro wk hk; go_simp; exact ⟨rfl, rfl⟩)); refine hK _ _ ?_; clear hK K
    refine stepK rfl (by kernel_rfl) (fun K hK => ?_); go_simp
    apply Exists.intro; apply And.intro; (focus (intro wk hk; go_simp; exact ⟨rfl, rfl⟩)); refine hK _ _ ?_; clear hK K
    refine stepK rfl (by kernel_rfl) (fun K hK => ?_); go_simp
    first | (refine hK _ _ ?_; clear hK K) | (apply Exists.intro; apply And.intro; (focus (intro wk hk; go_simp; exact ⟨rfl, rfl⟩)); refine hK _ _ ?_; clear hK K)
    refine stepK rfl (by kernel_rfl) (fun K hK => ?_); go_simp
    first | (refine hK _ _ ?_; clear hK K) | (apply Exists.intro; apply And.intro; (focus (intro wk hk; have cc : wk.cell? ⟨w.heap.size, 1, none⟩ = some (.int .i64 tf) := ((K6.Row.tr r2 hk id).cell 1).trans x1; go_simp; exact ⟨rfl, rfl⟩)); refine hK _ _ ?_; clear hK K)
    refine stepK rfl (by kernel_rfl) (fun K hK => ?_); go_simp
    first | (refine hK _ _ ?_; clear hK K) | (apply Exists.intro; apply And.intro; (focus (intro wk hk; go_simp; exact ⟨rfl, rfl⟩)); refine hK _ _ ?_; clear hK K)
    refine stepK rfl (by kernel_rfl) (fun K hK => ?_); go_simp
    first | (refine hK _ _ ?_; clear hK K) | (apply Exists.intro; apply And.intro; (focus (intro wk hk; have cc : wk.cell? ⟨w.heap.size + 1, 1, none⟩ = some (.int .i64 uf) := ((K6.Row.tr r3 hk id).cell 1).trans y1; go_simp; exact ⟨rfl, rfl⟩)); refine hK _ _ ?_; clear hK K)
    refine stepK rfl (by kernel_rfl) (fun K hK => ?_); go_simp
    first | (refine hK _ _ ?_; clear hK K) | (apply Exists.intro; apply And.intro; (focus (intro wk hk; go_simp; exact ⟨rfl, rfl⟩)); refine hK _ _ ?_; clear hK K)
    refine stepK rfl (by kernel_rfl) (fun K hK => ?_); go_simp
    apply Exists.intro; apply And.intro; (focus (intro wk hk; go_simp; exact ⟨rfl, rfl⟩)); refine hK _ _ ?_; clear hK K
    refine stepK rfl (by kernel_rfl) (fun K hK => ?_); go_simp
    apply Exists.intro; apply And.intro; (focus (intro wk hk; go_simp; exact ⟨rfl, rfl⟩)); refine hK _ _ ?_; clear hK K
    refine stepK rfl (by kernel_rfl) (fun K hK => ?_); go_simp
    first | (refine hK _ _ ?_; clear hK K) | (apply Exists.intro; apply And.intro; (focus (intro wk hk; go_simp; exact ⟨rfl, rfl⟩)); refine hK _ _ ?_; clear hK K)
    refine stepK rfl (by kernel_rfl) (fun K hK => ?_); go_simp
    first | (refine hK _ _ ?_; clear hK K) | (apply Exists.intro; apply And.intro; (focus (intro wk hk; have cc : wk.cell? ⟨w.heap.size, 2, none⟩ = some (.slice nq1 ln1 nc1) := ((K6.Row.tr r2 hk id).cell 2).trans x2; go_simp; exact ⟨rfl, rfl⟩)); refine hK _ _ ?_; clear hK K)
    refine stepK rfl (by kernel_rfl) (fun K hK => ?_); go_simp
    first | (refine hK _ _ ?_; clear hK K) | (apply Exists.intro; apply And.intro; (focus (intro wk hk; go_simp; exact ⟨rfl, rfl⟩)); refine hK _ _ ?_; clear hK K)
    refine stepK rfl (by kernel_rfl) (fun K hK => ?_); go_simp
    first | (refine hK _ _ ?_; clear hK K) | (apply Exists.intro; apply And.intro; (focus (intro wk hk; have cc : wk.cell? ⟨w.heap.size + 1, 2, none⟩ = some (.slice nq2 ln2 nc2) := ((K6.Row.tr r3 hk id).cell 2).trans y2; go_simp; exact ⟨rfl, rfl⟩)); refine hK _ _ ?_; clear hK K)
    refine stepS _ rfl (by kernel_rfl) (fun K hK => ?_); go_simp
    refine ⟨?_, ?_⟩
    · intro wk hk hg hu; go_simp; refine upon_enter ((kI.out _ (hl.trans (hk.below.mono hl.size))).mono ?_); rintro e w' ⟨rfl, hb⟩; exact ⟨_, rfl, left_V (p := fun u => u = .bool true) rfl (hb) rfl⟩
    rintro ⟨v17, lo17, hi17⟩ - - (rfl : v17 = _)
    refine hK _ _ ?_; clear hK K
    refine stepK rfl (by kernel_rfl) (fun K hK => ?_); go_simp
    apply Exists.intro; apply And.intro; (focus (intro wk hk; go_simp; exact ⟨rfl, rfl⟩)); refine hK _ _ ?_; clear hK K
    refine stepK rfl (by kernel_rfl) (fun K hK => ?_); go_simp
    apply Exists.intro; apply And.intro; (focus (intro wk hk; go_simp; exact ⟨rfl, rfl⟩)); refine hK _ _ ?_; clear hK K
    refine stepK rfl (by kernel_rfl) (fun K hK => ?_); go_simp
    first | (refine hK _ _ ?_; clear hK K) | (apply Exists.intro; apply And.intro; (focus (intro wk hk; go_simp; exact ⟨rfl, rfl⟩)); refine hK _ _ ?_; clear hK K)
    refine stepK rfl (by kernel_rfl) (fun K hK => ?_); go_simp
    first | (refine hK _ _ ?_; clear hK K) | (apply Exists.intro; apply And.intro; (focus (intro wk hk; have cc : wk.cell? ⟨w.heap.size, 3, none⟩ = some (.slice aq1 la1 ac1) := ((K6.Row.tr r2 hk id).cell 3).trans x3; go_simp; exact ⟨rfl, rfl⟩)); refine hK _ _ ?_; clear hK K)
    refine stepK rfl (by kernel_rfl) (fun K hK => ?_); go_simp
    first | (refine hK _ _ ?_; clear hK K) | (apply Exists.intro; apply And.intro; (focus (intro wk hk; go_simp; exact ⟨rfl, rfl⟩)); refine hK _ _ ?_; clear hK K)
    refine stepK rfl (by kernel_rfl) (fun K hK => ?_); go_simp
    first | (refine hK _ _ ?_; clear hK K) | (apply Exists.intro; apply And.intro; (focus (intro wk hk; have cc : wk.cell? ⟨w.heap.size + 1, 3, none⟩ = some (.slice aq2 la2 ac2) := ((K6.Row.tr r3 hk id).cell 3).trans y3; go_simp; exact ⟨rfl, rfl⟩)); refine hK _ _ ?_; clear hK K)
    refine stepS _ rfl (by kernel_rfl) (fun K hK => ?_); go_simp
    refine ⟨?_, ?_⟩
    · intro wk hk hg hu; go_simp; refine upon_enter ((kU.out _ (hl.trans (hk.below.mono hl.size))).mono ?_); rintro e w' ⟨rfl, hb⟩; exact ⟨_, rfl, left_V (p := fun u => u = .bool false) rfl (hb) rfl⟩
    rintro ⟨v24, lo24, hi24⟩ - - (rfl : v24 = _)
    refine hK _ _ ?_; clear hK K
    refine stepK rfl (by kernel_rfl) (fun K hK => ?_); go_simp
    apply Exists.intro; apply And.intro; (focus (intro wk hk; go_simp; exact ⟨rfl, rfl⟩)); refine hK _ _ ?_; clear hK K
    refine stepK rfl (by kernel_rfl) (fun K hK => ?_); go_simp
    apply Exists.intro; apply And.intro; (focus (intro wk hk; go_simp; exact ⟨rfl, rfl⟩)); refine hK _ _ ?_; clear hK K
    refine stepK rfl (by kernel_rfl) (fun K hK => ?_); go_simp
    first | (refine hK _ _ ?_; clear hK K) | (apply Exists.intro; apply And.intro; (focus (intro wk hk; go_simp; exact ⟨rfl, rfl⟩)); refine hK _ _ ?_; clear hK K)
    refine stepK rfl (by kernel_rfl) (fun K hK => ?_); go_simp
    first | (refine hK _ _ ?_; clear hK K) | (apply Exists.intro; apply And.intro; (focus (intro wk hk; go_simp; exact ⟨rfl, rfl⟩)); refine hK _ _ ?_; clear hK K)
    refine stepK rfl (by kernel_rfl) (fun K hK => ?_); go_simp
    first | (refine hK _ _ ?_; clear hK K) | (apply Exists.intro; apply And.intro; (focus (intro wk hk; go_simp; exact ⟨rfl, rfl⟩)); refine hK _ _ ?_; clear hK K)
    refine stepK rfl (by kernel_rfl) (fun K hK => ?_); go_simp
    first | (refine hK _ _ ?_; clear hK K) | (apply Exists.intro; apply And.intro; (focus (intro wk hk; go_simp; exact ⟨rfl, rfl⟩)); refine hK _ _ ?_; clear hK K)
    refine stepK rfl (by kernel_rfl) (fun K hK => ?_); go_simp
    first | (refine hK _ _ ?_; clear hK K) | (apply Exists.intro; apply And.intro; (focus (intro wk hk; go_simp; exact ⟨rfl, rfl⟩)); refine hK _ _ ?_; clear hK K)
    refine stepK rfl (by kernel_rfl) (fun K hK => ?_); go_simp
    apply Exists.intro; apply And.intro; (focus (intro wk hk; go_simp; exact ⟨rfl, rfl⟩)); refine hK _ _ ?_; clear hK K
    refine stepK rfl (by kernel_rfl) (fun K hK => ?_); go_simp
    apply Exists.intro; apply And.intro; (focus (intro wk hk; go_simp; exact ⟨rfl, rfl⟩)); refine hK _ _ ?_; clear hK K
    refine stepK rfl (by kernel_rfl) (fun K hK => ?_); go_simp
    first | (refine hK _ _ ?_; clear hK K) | (apply Exists.intro; apply And.intro; (focus (intro wk hk; go_simp; exact ⟨rfl, rfl⟩)); refine hK _ _ ?_; clear hK K)
    refine stepK rfl (by kernel_rfl) (fun K hK => ?_); go_simp
    first | (refine hK _ _ ?_; clear hK K) | (apply Exists.intro; apply And.intro; (focus (intro wk hk; go_simp; exact ⟨rfl, rfl⟩)); refine hK _ _ ?_; clear hK K)
    refine stepK rfl (by kernel_rfl) (fun K hK => ?_); go_simp
    first | (refine hK _ _ ?_; clear hK K) | (apply Exists.intro; apply And.intro; (focus (intro wk hk; go_simp; exact ⟨rfl, rfl⟩)); refine hK _ _ ?_; clear hK K)
    refine stepK rfl (by kernel_rfl) (fun K hK => ?_); go_simp
    first | (refine hK _ _ ?_; clear hK K) | (apply Exists.intro; apply And.intro; (focus (intro wk hk; go_simp; exact ⟨rfl, rfl⟩)); refine hK _ _ ?_; clear hK K)
    refine stepK rfl (by kernel_rfl) (fun K hK => ?_); go_simp
    first | (refine hK _ _ ?_; clear hK K) | (apply Exists.intro; apply And.intro; (focus (intro wk hk; go_simp; exact ⟨rfl, rfl⟩)); refine hK _ _ ?_; clear hK K)
    refine stepK rfl (by kernel_rfl) (fun K hK => ?_); go_simp
    apply Exists.intro; apply And.intro; (focus (intro wk hk; go_simp; exact ⟨rfl, rfl⟩)); refine hK _ _ ?_; clear hK K
    refine stepK rfl (by kernel_rfl) (fun K hK => ?_); go_simp
    apply Exists.intro; apply And.intro; (focus (intro wk hk; go_simp; exact ⟨rfl, rfl⟩)); refine hK _ _ ?_; clear hK K
    refine stepN ?_
    refine hQ _ _ ?_
    intro w9 hT hG hF
    have H9 := Lib.hid (hl.trans (hT.below.mono hl.size))
    clear hT hG hF hQ QQ L hl r2 r3
    go_wp2_with fail
    go_ret
    exact ⟨rfl, H9.out⟩
  cases bH
  · have hbb := HB.out.1 (.inr (.inr (.inr (.inr rfl))))
    subst hbb
    clear e0 e1 HB kC
    let L : List Sp := [sV 17 [] [] (fun u => u = .bool true), sV 24 [] [] (fun u => u = .bool true), sV 31 [] [] (fun u => u = .bool false)]
    refine wp_region_six0 (shs L) (look6 L) (None_) (by kernel_rfl) (by kernel_rfl) (mk_St L [] [] (by kernel_rfl) (by kernel_rfl) ⟨ok_V ⟨_, rfl⟩, ok_V ⟨_, rfl⟩, ok_V ⟨_, rfl⟩, trivial⟩ (by simp)) ?_
    intro QQ hQ
    refine stepK rfl (by kernel_rfl) (fun K hK => ?_); go_simp
    apply Exists.intro; apply And.intro; (focus (intro wk hk; go_simp; exact ⟨rfl, rfl⟩)); refine hK _ _ ?_; clear hK K
    refine stepK rfl (by kernel_rfl) (fun K hK => ?_); go_simp
    apply Exists.intro; apply And.intro; (focus (intro wk hk; have cc : wk.cell? ⟨w.heap.size, 0, none⟩ = some (.int .i64 tk) := ((K6.Row.tr r2 hk id).cell 0).trans x0; go_simp; exact ⟨rfl, rfl⟩)); refine hK _ _ ?_; clear hK K
    refine stepK rfl (by kernel_rfl) (fun K hK => ?_); go_simp
    apply Exists.intro; apply And.intro; (focus (intro wk hk; go_simp; exact ⟨rfl, rfl⟩)); refine hK _ _ ?_; clear hK K
    refine stepK rfl (by kernel_rfl) (fun K hK => ?_); go_simp
    apply Exists.intro; apply And.intro; (focus (intro wk hk; have cc : wk.cell? ⟨w.heap.size + 1, 0, none⟩ = some (.int .i64 uk) := ((K6.Row.tr r3 hk id).cell 0).trans y0; go_simp; exact ⟨rfl, rfl⟩)); refine hK _ _ ?_; clear hK K
    refine stepK rfl (by kernel_rfl) (fun K hK => ?_); go_simp
    apply Exists.intro; apply And.intro; (focus (intro wk hk; go_simp; exact ⟨rfl, rfl⟩)); refine hK _ _ ?_; clear hK K
    refine stepK rfl (by kernel_rfl) (fun K hK => ?_); go_simp
    apply Exists.intro; apply And.intro; (focus (intro wk hk; go_simp; exact ⟨rfl, rfl⟩)); refine hK _ _ ?_; clear hK K
    refine stepK rfl (by kernel_rfl) (fun K hK => ?_); go_simp
    first | (refine hK _ _ ?_; clear hK K) | (apply Exists.intro; apply And.intro; (focus (intro wk hk; go_simp; exact ⟨rfl, rfl⟩)); refine hK _ _ ?_; clear hK K)
    refine stepK rfl (by kernel_rfl) (fun K hK => ?_); go_simp
    first | (refine hK _ _ ?_; clear hK K) | (apply Exists.intro; apply And.intro; (focus (intro wk hk; have cc : wk.cell? ⟨w.heap.size, 1, none⟩ = some (.int .i64 tf) := ((K6.Row.tr r2 hk id).cell 1).trans x1; go_simp; exact ⟨rfl, rfl⟩)); refine hK _ _ ?_; clear hK K)
    refine stepK rfl (by kernel_rfl) (fun K hK => ?_); go_simp
    first | (refine hK _ _ ?_; clear hK K) | (apply Exists.intro; apply And.intro; (focus (intro wk hk; go_simp; exact ⟨rfl, rfl⟩)); refine hK _ _ ?_; clear hK K)
    refine stepK rfl (by kernel_rfl) (fun K hK => ?_); go_simp
    first | (refine hK _ _ ?_; clear hK K) | (apply Exists.intro; apply And.intro; (focus (intro wk hk; have cc : wk.cell? ⟨w.heap.size + 1, 1, none⟩ = some (.int .i64 uf) := ((K6.Row.tr r3 hk id).cell 1).trans y1; go_simp; exact ⟨rfl, rfl⟩)); refine hK _ _ ?_; clear hK K)
    refine stepK rfl (by kernel_rfl) (fun K hK => ?_); go_simp
    first | (refine hK _ _ ?_; clear hK K) | (apply Exists.intro; apply And.intro; (focus (intro wk hk; go_simp; exact ⟨rfl, rfl⟩)); refine hK _ _ ?_; clear hK K)
    refine stepK rfl (by kernel_rfl) (fun K hK => ?_); go_simp
    apply Exists.intro; apply And.intro; (focus (intro wk hk; go_simp; exact ⟨rfl, rfl⟩)); refine hK _ _ ?_; clear hK K
    refine stepK rfl (by kernel_rfl) (fun K hK => ?_); go_simp
    apply Exists.intro; apply And.intro; (focus (intro wk hk; go_simp; exact ⟨rfl, rfl⟩)); refine hK _ _ ?_; clear hK K
    refine stepK rfl (by kernel_rfl) (fun K hK => ?_); go_simp
    first | (refine hK _ _ ?_; clear hK K) | (apply Exists.intro; apply And.intro; (focus (intro wk hk; go_simp; exact ⟨rfl, rfl⟩)); refine hK _ _ ?_; clear hK K)
    refine stepK rfl (by kernel_rfl) (fun K hK => ?_); go_simp
    first | (refine hK _ _ ?_; clear hK K) | (apply Exists.intro; apply And.intro; (focus (intro wk hk; have cc : wk.cell? ⟨w.heap.size, 2, none⟩ = some (.slice nq1 ln1 nc1) := ((K6.Row.tr r2 hk id).cell 2).trans x2; go_simp; exact ⟨rfl, rfl⟩)); refine hK _ _ ?_; clear hK K)
    refine stepK rfl (by kernel_rfl) (fun K hK => ?_); go_simp
    first | (refine hK _ _ ?_; clear hK K) | (apply Exists.intro; apply And.intro; (focus (intro wk hk; go_simp; exact ⟨rfl, rfl⟩)); refine hK _ _ ?_; clear hK K)
    refine stepK rfl (by kernel_rfl) (fun K hK => ?_); go_simp
    first | (refine hK _ _ ?_; clear hK K) | (apply Exists.intro; apply And.intro; (focus (intro wk hk; have cc : wk.cell? ⟨w.heap.size + 1, 2, none⟩ = some (.slice nq2 ln2 nc2) := ((K6.Row.tr r3 hk id).cell 2).trans y2; go_simp; exact ⟨rfl, rfl⟩)); refine hK _ _ ?_; clear hK K)
    refine stepS _ rfl (by kernel_rfl) (fun K hK => ?_); go_simp
    refine ⟨?_, ?_⟩
    · intro wk hk hg hu; go_simp; refine upon_enter ((kI.out _ (hl.trans (hk.below.mono hl.size))).mono ?_); rintro e w' ⟨rfl, hb⟩; exact ⟨_, rfl, left_V (p := fun u => u = .bool true) rfl (hb) rfl⟩
    rintro ⟨v17, lo17, hi17⟩ - - (rfl : v17 = _)
    refine hK _ _ ?_; clear hK K
    refine stepK rfl (by kernel_rfl) (fun K hK => ?_); go_simp
    apply Exists.intro; apply And.intro; (focus (intro wk hk; go_simp; exact ⟨rfl, rfl⟩)); refine hK _ _ ?_; clear hK K
    refine stepK rfl (by kernel_rfl) (fun K hK => ?_); go_simp
    apply Exists.intro; apply And.intro; (focus (intro wk hk; go_simp; exact ⟨rfl, rfl⟩)); refine hK _ _ ?_; clear hK K
    refine stepK rfl (by kernel_rfl) (fun K hK => ?_); go_simp
    first | (refine hK _ _ ?_; clear hK K) | (apply Exists.intro; apply And.intro; (focus (intro wk hk; go_simp; exact ⟨rfl, rfl⟩)); refine hK _ _ ?_; clear hK K)
    refine stepK rfl (by kernel_rfl) (fun K hK => ?_); go_simp
    first | (refine hK _ _ ?_; clear hK K) | (apply Exists.intro; apply And.intro; (focus (intro wk hk; have cc : wk.cell? ⟨w.heap.size, 3, none⟩ = some (.slice aq1 la1 ac1) := ((K6.Row.tr r2 hk id).cell 3).trans x3; go_simp; exact ⟨rfl, rfl⟩)); refine hK _ _ ?_; clear hK K)
    refine stepK rfl (by kernel_rfl) (fun K hK => ?_); go_simp
    first | (refine hK _ _ ?_; clear hK K) | (apply Exists.intro; apply And.intro; (focus (intro wk hk; go_simp; exact ⟨rfl, rfl⟩)); refine hK _ _ ?_; clear hK K)
    refine stepK rfl (by kernel_rfl) (fun K hK => ?_); go_simp
    first | (refine hK _ _ ?_; clear hK K) | (apply Exists.intro; apply And.intro; (focus (intro wk hk; have cc : wk.cell? ⟨w.heap.size + 1, 3, none⟩ = some (.slice aq2 la2 ac2) := ((K6.Row.tr r3 hk id).cell 3).trans y3; go_simp; exact ⟨rfl, rfl⟩)); refine hK _ _ ?_; clear hK K)
    refine stepS _ rfl (by kernel_rfl) (fun K hK => ?_); go_simp
    refine ⟨?_, ?_⟩
    · intro wk hk hg hu; go_simp; refine upon_enter ((kU.out _ (hl.trans (hk.below.mono hl.size))).mono ?_); rintro e w' ⟨rfl, hb⟩; exact ⟨_, rfl, left_V (p := fun u => u = .bool true) rfl (hb) rfl⟩
    rintro ⟨v24, lo24, hi24⟩ - - (rfl : v24 = _)
    refine hK _ _ ?_; clear hK K
    refine stepK rfl (by kernel_rfl) (fun K hK => ?_); go_simp
    apply Exists.intro; apply And.intro; (focus (intro wk hk; go_simp; exact ⟨rfl, rfl⟩)); refine hK _ _ ?_; clear hK K
    refine stepK rfl (by kernel_rfl) (fun K hK => ?_); go_simp
    apply Exists.intro; apply And.intro; (focus (intro wk hk; go_simp; exact ⟨rfl, rfl⟩)); refine hK _ _ ?_; clear hK K
    refine stepK rfl (by kernel_rfl) (fun K hK => ?_); go_simp
    first | (refine hK _ _ ?_; clear hK K) | (apply Exists.intro; apply And.intro; (focus (intro wk hk; go_simp; exact ⟨rfl, rfl⟩)); refine hK _ _ ?_; clear hK K)
    refine stepK rfl (by kernel_rfl) (fun K hK => ?_); go_simp
    first | (refine hK _ _ ?_; clear hK K) | (apply Exists.intro; apply And.intro; (focus (intro wk hk; have cc : wk.cell? ⟨w.heap.size, 4, none⟩ = some (.slice hq1 lh1 hc1) := ((K6.Row.tr r2 hk id).cell 4).trans x4; go_simp; exact ⟨rfl, rfl⟩)); refine hK _ _ ?_; clear hK K)
    refine stepK rfl (by kernel_rfl) (fun K hK => ?_); go_simp
    first | (refine hK _ _ ?_; clear hK K) | (apply Exists.intro; apply And.intro; (focus (intro wk hk; go_simp; exact ⟨rfl, rfl⟩)); refine hK _ _ ?_; clear hK K)
    refine stepK rfl (by kernel_rfl) (fun K hK => ?_); go_simp
    first | (refine hK _ _ ?_; clear hK K) | (apply Exists.intro; apply And.intro; (focus (intro wk hk; have cc : wk.cell? ⟨w.heap.size + 1, 4, none⟩ = some (.slice hq2 lh2 hc2) := ((K6.Row.tr r3 hk id).cell 4).trans y4; go_simp; exact ⟨rfl, rfl⟩)); refine hK _ _ ?_; clear hK K)
    refine stepS _ rfl (by kernel_rfl) (fun K hK => ?_); go_simp
    refine ⟨?_, ?_⟩
    · intro wk hk hg hu; go_simp; refine upon_enter ((kH.out _ (hl.trans (hk.below.mono hl.size))).mono ?_); rintro e w' ⟨rfl, hb⟩; exact ⟨_, rfl, left_V (p := fun u => u = .bool false) rfl (hb) rfl⟩
    rintro ⟨v31, lo31, hi31⟩ - - (rfl : v31 = _)
    refine hK _ _ ?_; clear hK K
    refine stepK rfl (by kernel_rfl) (fun K hK => ?_); go_simp
    apply Exists.intro; apply And.intro; (focus (intro wk hk; go_simp; exact ⟨rfl, rfl⟩)); refine hK _ _ ?_; clear hK K
    refine stepK rfl (by kernel_rfl) (fun K hK => ?_); go_simp
    apply Exists.intro; apply And.intro; (focus (intro wk hk; go_simp; exact ⟨rfl, rfl⟩)); refine hK _ _ ?_; clear hK K
    refine stepK rfl (by kernel_rfl) (fun K hK => ?_); go_simp
    first | (refine hK _ _ ?_; clear hK K) | (apply Exists.intro; apply And.intro; (focus (intro wk hk; go_simp; exact ⟨rfl, rfl⟩)); refine hK _ _ ?_; clear hK K)
    refine stepK rfl (by kernel_rfl) (fun K hK => ?_); go_simp
    first | (refine hK _ _ ?_; clear hK K) | (apply Exists.intro; apply And.intro; (focus (intro wk hk; go_simp; exact ⟨rfl, rfl⟩)); refine hK _ _ ?_; clear hK K)
    refine stepK rfl (by kernel_rfl) (fun K hK => ?_); go_simp
    first | (refine hK _ _ ?_; clear hK K) | (apply Exists.intro; apply And.intro; (focus (intro wk hk; go_simp; exact ⟨rfl, rfl⟩)); refine hK _ _ ?_; clear hK K)
    refine stepK rfl (by kernel_rfl) (fun K hK => ?_); go_simp
    first | (refine hK _ _ ?_; clear hK K) | (apply Exists.intro; apply And.intro; (focus (intro wk hk; go_simp; exact ⟨rfl, rfl⟩)); refine hK _ _ ?_; clear hK K)
    refine stepK rfl (by kernel_rfl) (fun K hK => ?_); go_simp
    first | (refine hK _ _ ?_; clear hK K) | (apply Exists.intro; apply And.intro; (focus (intro wk hk; go_simp; exact ⟨rfl, rfl⟩)); refine hK _ _ ?_; clear hK K)
    refine stepK rfl (by kernel_rfl) (fun K hK => ?_); go_simp
    apply Exists.intro; apply And.intro; (focus (intro wk hk; go_simp; exact ⟨rfl, rfl⟩)); refine hK _ _ ?_; clear hK K
    refine stepK rfl (by kernel_rfl) (fun K hK => ?_); go_simp
    apply Exists.intro; apply And.intro; (focus (intro wk hk; go_simp; exact ⟨rfl, rfl⟩)); refine hK _ _ ?_; clear hK K
    refine stepN ?_
    refine hQ _ _ ?_
    intro w9 hT hG hF
    have H9 := Lib.hid (hl.trans (hT.below.mono hl.size))
    clear hT hG hF hQ QQ L hl r2 r3
    go_wp2_with fail
    go_ret
    exact ⟨rfl, H9.out⟩
  have hbb := HB.out.2 e0 e1 rfl rfl rfl
  subst hbb
  clear e0 e1 HB 
  let L : List Sp := [sV 17 [] [] (fun u => u = .bool true), sV 24 [] [] (fun u => u = .bool true), sV 31 [] [] (fun u => u = .bool true), sV 38 [] [] (fun u => u = .bool bC)]
  refine wp_region_six0 (shs L) (look6 L) (None_) (by kernel_rfl) (by kernel_rfl) (mk_St L [] [] (by kernel_rfl) (by kernel_rfl) ⟨ok_V ⟨_, rfl⟩, ok_V ⟨_, rfl⟩, ok_V ⟨_, rfl⟩, ok_V ⟨_, rfl⟩, trivial⟩ (by simp)) ?_
  intro QQ hQ
  refine stepK rfl (by kernel_rfl) (fun K hK => ?_); go_simp
  apply Exists.intro; apply And.intro; (focus (intro wk hk; go_simp; exact ⟨rfl, rfl⟩)); refine hK _ _ ?_; clear hK K
  refine stepK rfl (by kernel_rfl) (fun K hK => ?_); go_simp
  apply Exists.intro; apply And.intro; (focus (intro wk hk; have cc : wk.cell? ⟨w.heap.size, 0, none⟩ = some (.int .i64 tk) := ((K6.Row.tr r2 hk id).cell 0).trans x0; go_simp; exact ⟨rfl, rfl⟩)); refine hK _ _ ?_; clear hK K
  refine stepK rfl (by kernel_rfl) (fun K hK => ?_); go_simp
  apply Exists.intro; apply And.intro; (focus (intro wk hk; go_simp; exact ⟨rfl, rfl⟩)); refine hK _ _ ?_; clear hK K
  refine stepK rfl (by kernel_rfl) (fun K hK => ?_); go_simp
  apply Exists.intro; apply And.intro; (focus (intro wk hk; have cc : wk.cell? ⟨w.heap.size + 1, 0, none⟩ = some (.int .i64 uk) := ((K6.Row.tr r3 hk id).cell 0).trans y0; go_simp; exact ⟨rfl, rfl⟩)); refine hK _ _ ?_; clear hK K
  refine stepK rfl (by kernel_rfl) (fun K hK => ?_); go_simp
  apply Exists.intro; apply And.intro; (focus (intro wk hk; go_simp; exact ⟨rfl, rfl⟩)); refine hK _ _ ?_; clear hK K
  refine stepK rfl (by kernel_rfl) (fun K hK => ?_); go_simp
  apply Exists.intro; apply And.intro; (focus (intro wk hk; go_simp; exact ⟨rfl, rfl⟩)); refine hK _ _ ?_; clear hK K
  refine stepK rfl (by kernel_rfl) (fun K hK => ?_); go_simp
  first | (refine hK _ _ ?_; clear hK K) | (apply Exists.intro; apply And.intro; (focus (intro wk hk; go_simp; exact ⟨rfl, rfl⟩)); refine hK _ _ ?_; clear hK K)
  refine stepK rfl (by kernel_rfl) (fun K hK => ?_); go_simp
  first | (refine hK _ _ ?_; clear hK K) | (apply Exists.intro; apply And.intro; (focus (intro wk hk; have cc : wk.cell? ⟨w.heap.size, 1, none⟩ = some (.int .i64 tf) := ((K6.Row.tr r2 hk id).cell 1).trans x1; go_simp; exact ⟨rfl, rfl⟩)); refine hK _ _ ?_; clear hK K)
  refine stepK rfl (by kernel_rfl) (fun K hK => ?_); go_simp
  first | (refine hK _ _ ?_; clear hK K) | (apply Exists.intro; apply And.intro; (focus (intro wk hk; go_simp; exact ⟨rfl, rfl⟩)); refine hK _ _ ?_; clear hK K)
  refine stepK rfl (by kernel_rfl) (fun K hK => ?_); go_simp
  first | (refine hK _ _ ?_; clear hK K) | (apply Exists.intro; apply And.intro; (focus (intro wk hk; have cc : wk.cell? ⟨w.heap.size + 1, 1, none⟩ = some (.int .i64 uf) := ((K6.Row.tr r3 hk id).cell 1).trans y1; go_simp; exact ⟨rfl, rfl⟩)); refine hK _ _ ?_; clear hK K)
  refine stepK rfl (by kernel_rfl) (fun K hK => ?_); go_simp
  first | (refine hK _ _ ?_; clear hK K) | (apply Exists.intro; apply And.intro; (focus (intro wk hk; go_simp; exact ⟨rfl, rfl⟩)); refine hK _ _ ?_; clear hK K)
  refine stepK rfl (by kernel_rfl) (fun K hK => ?_); go_simp
  apply Exists.intro; apply And.intro; (focus (intro wk hk; go_simp; exact ⟨rfl, rfl⟩)); refine hK _ _ ?_; clear hK K
  refine stepK rfl (by kernel_rfl) (fun K hK => ?_); go_simp
  apply Exists.intro; apply And.intro; (focus (intro wk hk; go_simp; exact ⟨rfl, rfl⟩)); refine hK _ _ ?_; clear hK K
  refine stepK rfl (by kernel_rfl) (fun K hK => ?_); go_simp
  first | (refine hK _ _ ?_; clear hK K) | (apply Exists.intro; apply And.intro; (focus (intro wk hk; go_simp; exact ⟨rfl, rfl⟩)); refine hK _ _ ?_; clear hK K)
  refine stepK rfl (by kernel_rfl) (fun K hK => ?_); go_simp
  first | (refine hK _ _ ?_; clear hK K) | (apply Exists.intro; apply And.intro; (focus (intro wk hk; have cc : wk.cell? ⟨w.heap.size, 2, none⟩ = some (.slice nq1 ln1 nc1) := ((K6.Row.tr r2 hk id).cell 2).trans x2; go_simp; exact ⟨rfl, rfl⟩)); refine hK _ _ ?_; clear hK K)
  refine stepK rfl (by kernel_rfl) (fun K hK => ?_); go_simp
  first | (refine hK _ _ ?_; clear hK K) | (apply Exists.intro; apply And.intro; (focus (intro wk hk; go_simp; exact ⟨rfl, rfl⟩)); refine hK _ _ ?_; clear hK K)
  refine stepK rfl (by kernel_rfl) (fun K hK => ?_); go_simp
  first | (refine hK _ _ ?_; clear hK K) | (apply Exists.intro; apply And.intro; (focus (intro wk hk; have cc : wk.cell? ⟨w.heap.size + 1, 2, none⟩ = some (.slice nq2 ln2 nc2) := ((K6.Row.tr r3 hk id).cell 2).trans y2; go_simp; exact ⟨rfl, rfl⟩)); refine hK _ _ ?_; clear hK K)
  refine stepS _ rfl (by kernel_rfl) (fun K hK => ?_); go_simp
  refine ⟨?_, ?_⟩
  · intro wk hk hg hu; go_simp; refine upon_enter ((kI.out _ (hl.trans (hk.below.mono hl.size))).mono ?_); rintro e w' ⟨rfl, hb⟩; exact ⟨_, rfl, left_V (p := fun u => u = .bool true) rfl (hb) rfl⟩
  rintro ⟨v17, lo17, hi17⟩ - - (rfl : v17 = _)
  refine hK _ _ ?_; clear hK K
  refine stepK rfl (by kernel_rfl) (fun K hK => ?_); go_simp
  apply Exists.intro; apply And.intro; (focus (intro wk hk; go_simp; exact ⟨rfl, rfl⟩)); refine hK _ _ ?_; clear hK K
  refine stepK rfl (by kernel_rfl) (fun K hK => ?_); go_simp
  apply Exists.intro; apply And.intro; (focus (intro wk hk; go_simp; exact ⟨rfl, rfl⟩)); refine hK _ _ ?_; clear hK K
  refine stepK rfl (by kernel_rfl) (fun K hK => ?_); go_simp
  first | (refine hK _ _ ?_; clear hK K) | (apply Exists.intro; apply And.intro; (focus (intro wk hk; go_simp; exact ⟨rfl, rfl⟩)); refine hK _ _ ?_; clear hK K)
  refine stepK rfl (by kernel_rfl) (fun K hK => ?_); go_simp
  first | (refine hK _ _ ?_; clear hK K) | (apply Exists.intro; apply And.intro; (focus (intro wk hk; have cc : wk.cell? ⟨w.heap.size, 3, none⟩ = some (.slice aq1 la1 ac1) := ((K6.Row.tr r2 hk id).cell 3).trans x3; go_simp; exact ⟨rfl, rfl⟩)); refine hK _ _ ?_; clear hK K)
  refine stepK rfl (by kernel_rfl) (fun K hK => ?_); go_simp
  first | (refine hK _ _ ?_; clear hK K) | (apply Exists.intro; apply And.intro; (focus (intro wk hk; go_simp; exact ⟨rfl, rfl⟩)); refine hK _ _ ?_; clear hK K)
  refine stepK rfl (by kernel_rfl) (fun K hK => ?_); go_simp
  first | (refine hK _ _ ?_; clear hK K) | (apply Exists.intro; apply And.intro; (focus (intro wk hk; have cc : wk.cell? ⟨w.heap.size + 1, 3, none⟩ = some (.slice aq2 la2 ac2) := ((K6.Row.tr r3 hk id).cell 3).trans y3; go_simp; exact ⟨rfl, rfl⟩)); refine hK _ _ ?_; clear hK K)
  refine stepS _ rfl (by kernel_rfl) (fun K hK => ?_); go_simp
  refine ⟨?_, ?_⟩
  · intro wk hk hg hu; go_simp; refine upon_enter ((kU.out _ (hl.trans (hk.below.mono hl.size))).mono ?_); rintro e w' ⟨rfl, hb⟩; exact ⟨_, rfl, left_V (p := fun u => u = .bool true) rfl (hb) rfl⟩
  rintro ⟨v24, lo24, hi24⟩ - - (rfl : v24 = _)
  refine hK _ _ ?_; clear hK K
  refine stepK rfl (by kernel_rfl) (fun K hK => ?_); go_simp
  apply Exists.intro; apply And.intro; (focus (intro wk hk; go_simp; exact ⟨rfl, rfl⟩)); refine hK _ _ ?_; clear hK K
  refine stepK rfl (by kernel_rfl) (fun K hK => ?_); go_simp
  apply Exists.intro; apply And.intro; (focus (intro wk hk; go_simp; exact ⟨rfl, rfl⟩)); refine hK _ _ ?_; clear hK K
  refine stepK rfl (by kernel_rfl) (fun K hK => ?_); go_simp
  first | (refine hK _ _ ?_; clear hK K) | (apply Exists.intro; apply And.intro; (focus (intro wk hk; go_simp; exact ⟨rfl, rfl⟩)); refine hK _ _ ?_; clear hK K)
  refine stepK rfl (by kernel_rfl) (fun K hK => ?_); go_simp
  first | (refine hK _ _ ?_; clear hK K) | (apply Exists.intro; apply And.intro; (focus (intro wk hk; have cc : wk.cell? ⟨w.heap.size, 4, none⟩ = some (.slice hq1 lh1 hc1) := ((K6.Row.tr r2 hk id).cell 4).trans x4; go_simp; exact ⟨rfl, rfl⟩)); refine hK _ _ ?_; clear hK K)
  refine stepK rfl (by kernel_rfl) (fun K hK => ?_); go_simp
  first | (refine hK _ _ ?_; clear hK K) | (apply Exists.intro; apply And.intro; (focus (intro wk hk; go_simp; exact ⟨rfl, rfl⟩)); refine hK _ _ ?_; clear hK K)
  refine stepK rfl (by kernel_rfl) (fun K hK => ?_); go_simp
  first | (refine hK _ _ ?_; clear hK K) | (apply Exists.intro; apply And.intro; (focus (intro wk hk; have cc : wk.cell? ⟨w.heap.size + 1, 4, none⟩ = some (.slice hq2 lh2 hc2) := ((K6.Row.tr r3 hk id).cell 4).trans y4; go_simp; exact ⟨rfl, rfl⟩)); refine hK _ _ ?_; clear hK K)
  refine stepS _ rfl (by kernel_rfl) (fun K hK => ?_); go_simp
  refine ⟨?_, ?_⟩
  · intro wk hk hg hu; go_simp; refine upon_enter ((kH.out _ (hl.trans (hk.below.mono hl.size))).mono ?_); rintro e w' ⟨rfl, hb⟩; exact ⟨_, rfl, left_V (p := fun u => u = .bool true) rfl (hb) rfl⟩
  rintro ⟨v31, lo31, hi31⟩ - - (rfl : v31 = _)
  refine hK _ _ ?_; clear hK K
  refine stepK rfl (by kernel_rfl) (fun K hK => ?_); go_simp
  apply Exists.intro; apply And.intro; (focus (intro wk hk; go_simp; exact ⟨rfl, rfl⟩)); refine hK _ _ ?_; clear hK K
  refine stepK rfl (by kernel_rfl) (fun K hK => ?_); go_simp
  apply Exists.intro; apply And.intro; (focus (intro wk hk; go_simp; exact ⟨rfl, rfl⟩)); refine hK _ _ ?_; clear hK K
  refine stepK rfl (by kernel_rfl) (fun K hK => ?_); go_simp
  first | (refine hK _ _ ?_; clear hK K) | (apply Exists.intro; apply And.intro; (focus (intro wk hk; go_simp; exact ⟨rfl, rfl⟩)); refine hK _ _ ?_; clear hK K)
  refine stepK rfl (by kernel_rfl) (fun K hK => ?_); go_simp
  first | (refine hK _ _ ?_; clear hK K) | (apply Exists.intro; apply And.intro; (focus exact kLoadMid rfl rfl aggT114 r2 xm xs id); refine hK _ _ ?_; clear hK K)
  refine stepK rfl (by kernel_rfl) (fun K hK => ?_); go_simp
  first | (refine hK _ _ ?_; clear hK K) | (apply Exists.intro; apply And.intro; (focus (intro wk hk; go_simp; exact ⟨rfl, rfl⟩)); refine hK _ _ ?_; clear hK K)
  refine stepK rfl (by kernel_rfl) (fun K hK => ?_); go_simp
  first | (refine hK _ _ ?_; clear hK K) | (apply Exists.intro; apply And.intro; (focus exact kLoadMid rfl rfl aggT114 r3 ym ys id); refine hK _ _ ?_; clear hK K)
  refine stepS _ rfl (by kernel_rfl) (fun K hK => ?_); go_simp
  refine ⟨?_, ?_⟩
  · intro wk hk hg hu; go_simp; refine upon_enter ((kC.out _ (hl.trans (hk.below.mono hl.size))).mono ?_); rintro e w' ⟨rfl, hb⟩; exact ⟨_, rfl, left_V (p := fun u => u = .bool bC) rfl (hb) rfl⟩
  rintro ⟨v38, lo38, hi38⟩ - - (rfl : v38 = _)
  refine hK _ _ ?_; clear hK K
  refine stepK rfl (by kernel_rfl) (fun K hK => ?_); go_simp
  apply Exists.intro; apply And.intro; (focus (intro wk hk; go_simp; exact ⟨rfl, rfl⟩)); refine hK _ _ ?_; clear hK K
  refine stepK rfl (by kernel_rfl) (fun K hK => ?_); go_simp
  apply Exists.intro; apply And.intro; (focus (intro wk hk; go_simp; exact ⟨rfl, rfl⟩)); refine hK _ _ ?_; clear hK K
  refine stepN ?_
  refine hQ _ _ ?_
  intro w9 hT hG hF
  have H9 := Lib.hid (hl.trans (hT.below.mono hl.size))
  clear hT hG hF hQ QQ L hl r2 r3
  go_wp2_with fail
  go_ret
  exact ⟨rfl, H9.out⟩
end Go.Proofs.Ytpdenhmkpiafiaa
namespace Go.Proofs.Ytpdenhmkpiafiaa
open Go Go.RowKit K6
def lightB (t : Txv) : Bool := decide (t.n.length ≤ 50) && (decide (t.a.length ≤ 50) && (decide (t.h.length ≤ 50) && (decide (t.c.p.length ≤ 50) && (decide (t.c.l.length ≤ 50) && t.c.l.all fun x => decide (x.p.length ≤ 50)))))
theorem lightB_is {t : Txv} (h : lightB t = true) : LightT t := by
  unfold lightB at h
  simp only [Bool.and_eq_true, decide_eq_true_eq, List.all_eq_true] at h
  exact ⟨h.1, h.2.1, h.2.2.1, h.2.2.2.1, h.2.2.2.2.1, h.2.2.2.2.2⟩
structure LenT (t : Txv) : Prop where
  n : t.n.length ≤ 9223372036854775807
  a : t.a.length ≤ 9223372036854775807
  h : t.h.length ≤ 9223372036854775807
  p : t.c.p.length ≤ 9223372036854775807
  l : t.c.l.length ≤ 9223372036854775807
  q : ∀ x ∈ t.c.l, x.p.length ≤ 9223372036854775807
set_option maxRecDepth 100000 in
set_option maxHeartbeats 64000000 in
theorem light15_at (t : Txv) (w : World) (ht : TxOk w t) (hm : LenT t) :
    Calls Try.prog 134 #[.agg t.cs.toArray] w fun r w' => r = .returned (.bool (lightB t)) ∧ Below w.heap.size w w' := by
  have x2 := tA2 t
  have x3 := tA3 t
  have x4 := tA4 t
  have x5 : t.cs.toArray[40]? = some (.slice t.c.pq t.c.p.length t.c.pc) := Txv.c_ t 35 _ (cA35 ht.c.tok)
  have x6 : t.cs.toArray[41]? = some (.slice t.c.lq t.c.l.length t.c.lc) := Txv.c_ t 36 _ (cA36 ht.c.tok)
  obtain ⟨b, hb⟩ : ∃ b, lightB t = b := ⟨_, rfl⟩
  have hb' : (decide (t.n.length ≤ 50) && (decide (t.a.length ≤ 50) && (decide (t.h.length ≤ 50) && (decide (t.c.p.length ≤ 50) && (decide (t.c.l.length ≤ 50) && t.c.l.all fun x => decide (x.p.length ≤ 50)))))) = b := hb
  rw [hb]
  have HLs := ht.c.l
  unfold Cm.lv at HLs
  have hqq := hm.q
  obtain ⟨nn, hnn⟩ : ∃ n, t.n.length = n := ⟨_, rfl⟩
  have hmn := hm.n
  rw [hnn] at hmn hb' x2
  obtain ⟨na, hna⟩ : ∃ n, t.a.length = n := ⟨_, rfl⟩
  have hma := hm.a
  rw [hna] at hma hb' x3
  obtain ⟨nh, hnh⟩ : ∃ n, t.h.length = n := ⟨_, rfl⟩
  have hmh := hm.h
  rw [hnh] at hmh hb' x4
  obtain ⟨np, hnp⟩ : ∃ n, t.c.p.length = n := ⟨_, rfl⟩
  have hmp := hm.p
  rw [hnp] at hmp hb' x5
  obtain ⟨nl, hnl⟩ : ∃ n, t.c.l.length = n := ⟨_, rfl⟩
  have hml := hm.l
  rw [hnl] at hml hb' x6 HLs
  obtain ⟨ll, hll⟩ : ∃ l, t.c.l = l := ⟨_, rfl⟩
  rw [hll] at HLs hb' hqq hnl
  obtain ⟨lq, hlq⟩ : ∃ q, t.c.lq = q := ⟨_, rfl⟩
  obtain ⟨lc, hlc⟩ : ∃ q, t.c.lc = q := ⟨_, rfl⟩
  rw [hlq, hlc] at x6 HLs
  obtain ⟨nq, hnq⟩ : ∃ q, t.nq = q := ⟨_, rfl⟩
  obtain ⟨nc, hnc⟩ : ∃ q, t.nc = q := ⟨_, rfl⟩
  rw [hnq, hnc] at x2
  obtain ⟨aq, haq⟩ : ∃ q, t.aq = q := ⟨_, rfl⟩
  obtain ⟨ac, hac⟩ : ∃ q, t.ac = q := ⟨_, rfl⟩
  rw [haq, hac] at x3
  obtain ⟨hq, hhq⟩ : ∃ q, t.hq = q := ⟨_, rfl⟩
  obtain ⟨hc, hhc⟩ : ∃ q, t.hc = q := ⟨_, rfl⟩
  rw [hhq, hhc] at x4
  obtain ⟨pq, hpq⟩ : ∃ q, t.c.pq = q := ⟨_, rfl⟩
  obtain ⟨pc, hpc⟩ : ∃ q, t.c.pc = q := ⟨_, rfl⟩
  rw [hpq, hpc] at x5
  obtain ⟨ct, hct⟩ : ∃ c, t.cs.toArray = c := ⟨_, rfl⟩
  rw [hct] at x2 x3 x4 x5 x6 ⊢
  have HB := Lib.hid hb'
  have HC := Lib.hid (show _ ∧ _ ∧ _ from ⟨HLs, hqq, hnl⟩)
  have mn : (nn : Int) ≤ 9223372036854775807 := by omega
  have ma : (na : Int) ≤ 9223372036854775807 := by omega
  have mh : (nh : Int) ≤ 9223372036854775807 := by omega
  have mp : (np : Int) ≤ 9223372036854775807 := by omega
  have ml : (nl : Int) ≤ 9223372036854775807 := by omega
  clear hb hb' HLs hqq hnn hna hnh hnp hnl hmn hma hmh hmp hml hll hlq hlc hnq hnc haq hac hhq hhc hpq hpc hct ht hm
  go_enter Try.func134, Try.ntmps134
  go_upto_region 1 with (fail)
  refine wp_abs (Mem w [(w.heap.size, 116, ct)]) ⟨by go_grown, by (repeat (first | (refine Row.new_at ?_; simp; done) | refine Row.alloc ?_ _)), trivial⟩ ?_
  intro w0 hM
  obtain ⟨hl, r1, -⟩ := hM
  have d2 := (r1.cell 2).trans x2
  have d3 := (r1.cell 3).trans x3
  have d4 := (r1.cell 4).trans x4
  have d5 := (r1.cell 40).trans x5
  have d6 := (r1.cell 41).trans x6
  have HL := Lib.hid hl
  clear hl r1 x2 x3 x4 x5 x6
  by_cases h0 : 50 < nn
  · have q0 : 50 < (nn : Int) := by omega
    have hbb : b = false := by rw [← HB.out, decide_eq_false (show ¬ nn ≤ 50 by omega)]; simp
    subst hbb
    clear HB HC h0
    go_wp2_with fail
    go_ret
    exact ⟨rfl, HL.out⟩
  have q0 : (nn : Int) ≤ 50 := by omega
  by_cases h1 : 50 < na
  · have q1 : 50 < (na : Int) := by omega
    have hbb : b = false := by rw [← HB.out, decide_eq_false (show ¬ na ≤ 50 by omega)]; simp
    subst hbb
    clear HB HC h1
    go_wp2_with fail
    go_ret
    exact ⟨rfl, HL.out⟩
  have q1 : (na : Int) ≤ 50 := by omega
  by_cases h2 : 50 < nh
  · have q2 : 50 < (nh : Int) := by omega
    have hbb : b = false := by rw [← HB.out, decide_eq_false (show ¬ nh ≤ 50 by omega)]; simp
    subst hbb
    clear HB HC h2
    go_wp2_with fail
    go_ret
    exact ⟨rfl, HL.out⟩
  have q2 : (nh : Int) ≤ 50 := by omega
  by_cases h3 : 50 < np
  · have q3 : 50 < (np : Int) := by omega
    have hbb : b = false := by rw [← HB.out, decide_eq_false (show ¬ np ≤ 50 by omega)]; simp
    subst hbb
    clear HB HC h3
    go_wp2_with fail
    go_ret
    exact ⟨rfl, HL.out⟩
  have q3 : (np : Int) ≤ 50 := by omega
  by_cases h4 : 50 < nl
  · have q4 : 50 < (nl : Int) := by omega
    have hbb : b = false := by rw [← HB.out, decide_eq_false (show ¬ nl ≤ 50 by omega)]; simp
    subst hbb
    clear HB HC h4
    go_wp2_with fail
    go_ret
    exact ⟨rfl, HL.out⟩
  have q4 : (nl : Int) ≤ 50 := by omega
  have HB2 := Lib.hid (show (ll.all fun x => decide (x.p.length ≤ 50)) = b by have h := HB.out; rw [decide_eq_true (show nn ≤ 50 by omega), decide_eq_true (show na ≤ 50 by omega), decide_eq_true (show nh ≤ 50 by omega), decide_eq_true (show np ≤ 50 by omega), decide_eq_true (show nl ≤ 50 by omega)] at h; simpa using h)
  clear HB h0 h1 h2 h3 h4
  go_wp2_with fail
  clear d2 d3 d4 d5 d6
  go_loopg [39] nl (fun gg s39 wr => ∃ i : Nat, i + gg = nl ∧ s39 = .int .i64 (i : Int) ∧ Hid (∀ (j : Nat) (x : Lf), j < i → ll[j]? = some x → decide (x.p.length ≤ 50) = true) ∧ Hid (Below w.heap.size w wr))
  case atStart => exact ⟨0, by omega, rfl, Lib.hid (fun j e h => absurd h (Nat.not_lt_zero j)), HL⟩
  case round =>
    clear HL
    obtain ⟨i, him, rfl, hall, hinv⟩ := hrel
    by_cases hi : i < nl
    · obtain ⟨x, hx⟩ : ∃ x, ll[i]? = some x := ⟨_, List.getElem?_eq_getElem (by have := HC.out.2.2; omega)⟩
      obtain ⟨gx, ox, cx', hu, hgx, hcx⟩ := (HC.out.1.below hinv.out).1.get hx
      simp only [Value.slice.injEq] at hu
      obtain ⟨rfl, -, -⟩ := hu
      have hql := HC.out.2.1 x (List.mem_of_getElem? hx)
      have y6 := lA6 x
      obtain ⟨Y, hY⟩ : ∃ Y, (lfc x).toArray = Y := ⟨_, rfl⟩
      have hYsz : (lfc x).toArray.size = 7 := rfl
      have hYone := lfc_one x
      replace hcx : ∀ j v, (lfc x).toArray.toList[j]? = some v → wr.cell? ⟨gx, ox + i * 7 + j, none⟩ = some v := hcx
      rw [hY] at y6 hYsz hYone hcx
      have hinf := info198 hYsz
      have HO := Lib.hid hx
      obtain ⟨xn, hxn⟩ : ∃ n, x.p.length = n := ⟨_, rfl⟩
      obtain ⟨xq, hxq⟩ : ∃ n, x.pq = n := ⟨_, rfl⟩
      obtain ⟨xc, hxc⟩ : ∃ n, x.pc = n := ⟨_, rfl⟩
      rw [hxn] at hql
      rw [hxn, hxq, hxc] at y6
      have hqi : (xn : Int) ≤ 9223372036854775807 := by omega
      have HXN := Lib.hid hxn
      clear hx hY hql hxq hxc hxn
      have hlt : (i : Int) < (nl : Int) := by omega
      go_upto_region 5 with (fail)
      let L : List Sp := [sA 2 198 [3] #[.int .i64 0, .int .i64 0, .int .u64 0, .int .u64 0, .int .u64 0, .int .u64 0, .slice none 0 0], sT 3 2 198 [1] (fun g => aggOf g 1)]
      refine wp_region_six0 (shs L) (look6 L) (None_) (by kernel_rfl) (by kernel_rfl) (mk_St L [] [] (by kernel_rfl) (by kernel_rfl) ⟨ok_A, ok_T aggOf_congr, trivial⟩ (by simp)) ?_
      intro QQ hQ
      refine stepK rfl (by kernel_rfl) (fun K hK => ?_); go_simp
      apply Exists.intro; apply And.intro; (focus (intro wk hk; go_simp; exact ⟨rfl, rfl⟩)); refine hK _ _ ?_; clear hK K
      refine stepK rfl (by kernel_rfl) (fun K hK => ?_); go_simp
      apply Exists.intro; apply And.intro; (focus exact kLoadA rfl rfl aggT198 hcx hYsz hgx id); refine hK _ _ ?_; clear hK K
      refine stepS _ rfl (by kernel_rfl) (fun K hK => ?_); go_simp
      refine ⟨?_, ?_⟩
      · intro wk hk hg hu; go_simp; exact left_A rfl rfl
      rintro ⟨v2, lo2, hi2⟩ hlo2 hhi2 ⟨e2, f2⟩
      replace e2 : v2 = .pointer (some ⟨lo2, 0, none⟩) := e2; replace f2 : hi2 = lo2 + 1 := f2; replace hlo2 : _ ≤ lo2 := hlo2; subst e2; subst f2
      refine hK _ _ ?_; clear hK K
      refine stepS _ rfl (by kernel_rfl) (fun K hK => ?_); go_simp
      refine ⟨?_, ?_⟩
      · exact sStoreT rfl rfl rfl rfl rfl rfl rfl hinf hYsz.symm hYone (by decide) aggOf_congr
      rintro ⟨v3, lo3, hi3⟩ - - (rfl : v3 = undef)
      refine hK _ _ ?_; clear hK K
      refine stepN ?_
      refine hQ _ _ ?_
      intro w4 hT hG hF
      have hbw4 := hT.below
      have rY : Row w4 lo2 198 Y := (hF 3 _ rfl rfl (by decide)).2
      clear hT hG hF hQ QQ L hcx hgx
      have HL5 := Lib.hid (hinv.out.trans (hbw4.mono hinv.out.size))
      have d6 := (rY.cell 6).trans y6
      clear hbw4 hinv rY hYone hinf hYsz
      by_cases h5 : 50 < xn
      · have h5i : 50 < (xn : Int) := by omega
        have hbb : b = false := by rw [← HB2.out]; exact all_not HO.out (decide_eq_false (by have := HXN.out; omega))
        subst hbb
        clear hall HB2 HC HO HXN h5
        go_wp2_with fail
        go_ret
        exact ⟨rfl, HL5.out⟩
      · have h5i : (xn : Int) ≤ 50 := by omega
        have hnext := Lib.hid (show decide (x.p.length ≤ 50) = true from decide_eq_true (by have := HXN.out; omega))
        clear h5 HXN
        go_wp2_with fail
        go_roundg (gk - 1)
        case measure => omega
        case rel =>
          refine ⟨i + 1, by omega, by go_num, Lib.hid fun j e hj hje => ?_, HL5⟩
          rcases Nat.lt_or_ge j i with h | h
          · exact hall.out j e h hje
          · obtain rfl : j = i := by omega
            have h1 := HO.out.symm.trans hje
            injection h1 with h1
            rw [← h1]
            exact of_eq_true (by simp [of_decide_eq_true hnext.out])
    · obtain rfl : i = nl := by omega
      have hlt : ¬ (i : Int) < (i : Int) := by omega
      have hbt : b = true := by rw [← HB2.out]; exact all_all (fun j e hj hje => hall.out j e (by have := HC.out.2.2; omega) hje)
      subst hbt
      go_wp2_with fail
      go_ret
      exact ⟨rfl, hinv.out⟩
end Go.Proofs.Ytpdenhmkpiafiaa
namespace Go.Proofs.Ytpdenhmkpiafiaa
open Go Go.RowKit K6
def rnA : Array Value := #[.string (ByteArray.mk #[109, 105, 110, 116]), .string (ByteArray.mk #[112, 97, 117, 115, 101]), .string (ByteArray.mk #[115, 116, 114, 97, 116, 101, 103, 121]), .string (ByteArray.mk #[97, 108, 108, 111, 119]), .string (ByteArray.mk #[116, 114, 97, 110, 115, 102, 101, 114]), .string (ByteArray.mk #[100, 101, 112, 111, 115, 105, 116]), .string (ByteArray.mk #[100, 111, 110, 97, 116, 101]), .string (ByteArray.mk #[111, 112, 101, 114, 97, 116, 111, 114]), .string (ByteArray.mk #[100, 101, 108, 101, 103, 97, 116, 101]), .string (ByteArray.mk #[117, 110, 100, 101, 108, 101, 103, 97, 116, 101]), .string (ByteArray.mk #[114, 101, 100, 101, 108, 101, 103, 97, 116, 101]), .string (ByteArray.mk #[101, 120, 105, 116]), .string (ByteArray.mk #[99, 111, 109, 112, 108, 101, 116, 101]), .string (ByteArray.mk #[100, 101, 108, 97, 121]), .string (ByteArray.mk #[115, 101, 114, 118, 105, 99, 101]), .string (ByteArray.mk #[115, 101, 116]), .string (ByteArray.mk #[105, 110, 99, 108, 117, 100, 101]), .string (ByteArray.mk #[101, 120, 99, 108, 117, 100, 101]), .string (ByteArray.mk #[106, 111, 105, 110]), .string (ByteArray.mk #[108, 101, 97, 118, 101]), .string (ByteArray.mk #[97, 108, 108, 111, 99, 97, 116, 101]), .string (ByteArray.mk #[115, 108, 97, 115, 104]), .string (ByteArray.mk #[115, 117, 98, 109, 105, 116]), .string (ByteArray.mk #[112, 111, 115, 116]), .string (ByteArray.mk #[100, 105, 115, 97, 98, 108, 101]), .string (ByteArray.mk #[99, 108, 97, 105, 109, 101, 114]), .string (ByteArray.mk #[99, 108, 97, 105, 109]), .string (ByteArray.mk #[115, 112, 108, 105, 116])]
theorem rnA_at : ∀ i, i < 28 → rnA[i]? = some (.string (txB.getD (i + 1) txU)) := fun i hi => by
  have h : i = 0 ∨ i = 1 ∨ i = 2 ∨ i = 3 ∨ i = 4 ∨ i = 5 ∨ i = 6 ∨ i = 7 ∨ i = 8 ∨ i = 9 ∨ i = 10 ∨ i = 11 ∨ i = 12 ∨ i = 13 ∨ i = 14 ∨ i = 15 ∨ i = 16 ∨ i = 17 ∨ i = 18 ∨ i = 19 ∨ i = 20 ∨ i = 21 ∨ i = 22 ∨ i = 23 ∨ i = 24 ∨ i = 25 ∨ i = 26 ∨ i = 27 := by omega
  rcases h with rfl | rfl | rfl | rfl | rfl | rfl | rfl | rfl | rfl | rfl | rfl | rfl | rfl | rfl | rfl | rfl | rfl | rfl | rfl | rfl | rfl | rfl | rfl | rfl | rfl | rfl | rfl | rfl <;> rfl
def rsA : Array Value := #[.int .i64 2, .bool false, .int .i64 1, .bool false, .int .i64 0, .bool false, .int .i64 1, .bool false, .int .i64 0, .bool false, .int .i64 0, .bool false, .int .i64 1, .bool false, .int .i64 0, .bool false, .int .i64 0, .bool false, .int .i64 2, .bool false, .int .i64 0, .bool false, .int .i64 0, .bool false, .int .i64 2, .bool false, .int .i64 1, .bool false, .int .i64 0, .bool false, .int .i64 1, .bool false, .int .i64 1, .bool false, .int .i64 0, .bool false, .int .i64 1, .bool false, .int .i64 1, .bool false, .int .i64 0, .bool false, .int .i64 1, .bool false, .int .i64 0, .bool false, .int .i64 0, .bool false, .int .i64 1, .bool false, .int .i64 0, .bool false, .int .i64 0, .bool false, .int .i64 1, .bool false, .int .i64 0, .bool false, .int .i64 0, .bool false, .int .i64 1, .bool false, .int .i64 0, .bool false, .int .i64 0, .bool false, .int .i64 1, .bool false, .int .i64 1, .bool false, .int .i64 0, .bool false, .int .i64 2, .bool false, .int .i64 0, .bool false, .int .i64 0, .bool false, .int .i64 1, .bool false, .int .i64 0, .bool false, .int .i64 0, .bool false, .int .i64 0, .bool false, .int .i64 0, .bool false, .int .i64 0, .bool false, .int .i64 0, .bool true, .int .i64 0, .bool false, .int .i64 0, .bool false, .int .i64 2, .bool false, .int .i64 0, .bool false, .int .i64 0, .bool false, .int .i64 2, .bool false, .int .i64 0, .bool false, .int .i64 0, .bool false, .int .i64 2, .bool false, .int .i64 0, .bool false, .int .i64 0, .bool false, .int .i64 3, .bool false, .int .i64 0, .bool false, .int .i64 0, .bool false, .int .i64 3, .bool false, .int .i64 1, .bool false, .int .i64 0, .bool false, .int .i64 2, .bool true, .int .i64 0, .bool true, .int .i64 0, .bool false, .int .i64 1, .bool false, .int .i64 1, .bool false, .int .i64 0, .bool false, .int .i64 0, .bool false, .int .i64 0, .bool false, .int .i64 1, .bool false, .int .i64 1, .bool false, .int .i64 0, .bool false, .int .i64 0, .bool false, .int .i64 1, .bool false, .int .i64 0, .bool false, .int .i64 0, .bool false, .int .i64 0, .bool false, .int .i64 0, .bool false, .int .i64 0, .bool true, .int .i64 2, .bool false, .int .i64 0, .bool false, .int .i64 0, .bool false]
set_option maxRecDepth 100000 in
theorem rsA_at : ∀ i, i < 28 → ∀ j v, (shpL.getD i shpZ).cs[j]? = some v → rsA[i * 6 + j]? = some v := fun i hi j v hj => by
  have hj6 : j < 6 := (Array.getElem?_eq_some_iff.1 hj).1
  rw [← hj]
  have h : i = 0 ∨ i = 1 ∨ i = 2 ∨ i = 3 ∨ i = 4 ∨ i = 5 ∨ i = 6 ∨ i = 7 ∨ i = 8 ∨ i = 9 ∨ i = 10 ∨ i = 11 ∨ i = 12 ∨ i = 13 ∨ i = 14 ∨ i = 15 ∨ i = 16 ∨ i = 17 ∨ i = 18 ∨ i = 19 ∨ i = 20 ∨ i = 21 ∨ i = 22 ∨ i = 23 ∨ i = 24 ∨ i = 25 ∨ i = 26 ∨ i = 27 := by omega
  have h2 : j = 0 ∨ j = 1 ∨ j = 2 ∨ j = 3 ∨ j = 4 ∨ j = 5 := by omega
  rcases h with rfl | rfl | rfl | rfl | rfl | rfl | rfl | rfl | rfl | rfl | rfl | rfl | rfl | rfl | rfl | rfl | rfl | rfl | rfl | rfl | rfl | rfl | rfl | rfl | rfl | rfl | rfl | rfl <;> rcases h2 with rfl | rfl | rfl | rfl | rfl | rfl <;> rfl
theorem upon_run {P : Program} {V : Value → World → Prop} {r : Result Next} {u : Value} {w2 : World} (h : r = .ok (.value u) w2) (hv : V u w2) : sUpon P V r := by rw [h]; exact upon_value hv
theorem aggT118 : AggT Try.prog 118 6 := ⟨⟨_, Try.underlying118, rfl⟩, by kernel_rfl⟩
set_option maxRecDepth 100000 in
set_option maxHeartbeats 16000000 in
theorem rname15_at (k : Int) (w : World) : Calls Try.prog 142 #[.int .i64 k] w fun e w' => e = .returned (.string (txOf k)) ∧ Below w.heap.size w w' := by
  obtain ⟨S, hS⟩ : ∃ S, txOf k = S := ⟨_, rfl⟩
  rw [hS]
  have hS' := Lib.hid hS
  clear hS
  go_enter Try.func142, Try.ntmps142
  go_upto_region 2 with (fail)
  refine wp_abs (fun wx => Below w.heap.size w wx ∧ Row wx w.heap.size 9 rnA) ⟨by go_grown, show Row (w.alloc (.cells rnA 9)) w.heap.size 9 rnA from Row.new_at rfl⟩ ?_
  rintro w1 ⟨hb, hr⟩
  have H := Lib.hid hb
  clear hb
  by_cases h1 : k < 1
  · have e : S = txU := by rw [← hS'.out]; unfold txOf; rw [if_neg (by omega)]
    replace e := Lib.hid e
    clear hr hS'
    go_wp2_with fail
    go_ret
    exact ⟨by rw [e.out]; first | rfl | (simp; done), H.out⟩
  · by_cases h2 : 28 < k
    · have e : S = txU := by rw [← hS'.out]; unfold txOf; rw [if_neg (by omega)]
      replace e := Lib.hid e
      clear hr hS'
      go_wp2_with fail
      go_ret
      exact ⟨by rw [e.out]; first | rfl | (simp; done), H.out⟩
    · obtain ⟨i, hi⟩ : ∃ i : Nat, k - 1 = (i : Int) := ⟨(k - 1).toNat, by omega⟩
      have e : txB.getD (i + 1) txU = S := by rw [← hS'.out]; unfold txOf; rw [if_pos (by omega), show k.toNat = i + 1 by omega]
      have c0 : w1.cell? ⟨w.heap.size, i, none⟩ = some (.string S) := by rw [← e, ← rnA_at i (by omega)]; exact hr.cell i
      have hw : IntKind.i64.wrap (i : Int) = (i : Int) := by rw [IntKind.wrap_i64]; omega
      have hw1 : IntKind.i64.wrap (k - 1) = (i : Int) := by rw [IntKind.wrap_i64]; omega
      have hlt : (i : Int) < 28 := by omega
      have hge : (0 : Int) ≤ (i : Int) := by omega
      clear e hr hS'
      go_wp2_with fail
      go_ret
      exact ⟨by first | rfl | (simp; done), H.out⟩
theorem okK_dec (k : Int) : okK k = decide (1 ≤ k ∧ k ≤ 28) := by
  unfold okK
  rw [Bool.decide_and]
set_option maxRecDepth 100000 in
set_option maxHeartbeats 64000000 in
theorem rof15_at (k : Int) (w : World) : Calls Try.prog 135 #[.int .i64 k] w (OfP w k) := by
  unfold OfP
  obtain ⟨S, hS⟩ : ∃ S, shpOf k = S := ⟨_, rfl⟩
  obtain ⟨ok, hok⟩ : ∃ b, okK k = b := ⟨_, rfl⟩
  rw [hS, hok]
  have HS := Lib.hid (show _ ∧ _ from ⟨hS, hok⟩)
  clear hS hok
  go_enter Try.func135, Try.ntmps135
  go_upto_region 1 with (fail)
  refine wp_abs (Mem w [(w.heap.size, 118, #[.int .i64 0, .bool false, .int .i64 0, .bool false, .int .i64 0, .bool false])]) ⟨by go_grown, by (repeat (first | (refine Row.new_at ?_; simp; done) | refine Row.alloc ?_ _)), trivial⟩ ?_
  intro w0 hM
  obtain ⟨hl, r0, -⟩ := hM
  let L : List Sp := [sL 28 118 [] 28 rsA]
  refine wp_region_six0 (shs L) (look6 L) (None_) (by kernel_rfl) (by kernel_rfl) (mk_St L [] [] (by kernel_rfl) (by kernel_rfl) ⟨ok_L, trivial⟩ (by simp)) ?_
  intro QQ hQ
  refine stepK rfl (by kernel_rfl) (fun K hK => ?_); go_simp
  apply Exists.intro; apply And.intro; (focus (intro wk hk; go_simp; exact ⟨rfl, rfl⟩)); refine hK _ _ ?_; clear hK K
  refine stepK rfl (by kernel_rfl) (fun K hK => ?_); go_simp
  apply Exists.intro; apply And.intro; (focus (intro wk hk; go_simp; exact ⟨rfl, rfl⟩)); refine hK _ _ ?_; clear hK K
  refine stepK rfl (by kernel_rfl) (fun K hK => ?_); go_simp
  apply Exists.intro; apply And.intro; (focus (intro wk hk; go_simp; exact ⟨rfl, rfl⟩)); refine hK _ _ ?_; clear hK K
  refine stepK rfl (by kernel_rfl) (fun K hK => ?_); go_simp
  apply Exists.intro; apply And.intro; (focus (intro wk hk; go_simp; exact ⟨rfl, rfl⟩)); refine hK _ _ ?_; clear hK K
  refine stepK rfl (by kernel_rfl) (fun K hK => ?_); go_simp
  apply Exists.intro; apply And.intro; (focus (intro wk hk; go_simp; exact ⟨rfl, rfl⟩)); refine hK _ _ ?_; clear hK K
  refine stepK rfl (by kernel_rfl) (fun K hK => ?_); go_simp
  apply Exists.intro; apply And.intro; (focus (intro wk hk; go_simp; exact ⟨rfl, rfl⟩)); refine hK _ _ ?_; clear hK K
  refine stepK rfl (by kernel_rfl) (fun K hK => ?_); go_simp
  apply Exists.intro; apply And.intro; (focus (intro wk hk; go_simp; exact ⟨rfl, rfl⟩)); refine hK _ _ ?_; clear hK K
  refine stepK rfl (by kernel_rfl) (fun K hK => ?_); go_simp
  apply Exists.intro; apply And.intro; (focus (intro wk hk; go_simp; exact ⟨rfl, rfl⟩)); refine hK _ _ ?_; clear hK K
  refine stepK rfl (by kernel_rfl) (fun K hK => ?_); go_simp
  apply Exists.intro; apply And.intro; (focus (intro wk hk; go_simp; exact ⟨rfl, rfl⟩)); refine hK _ _ ?_; clear hK K
  refine stepK rfl (by kernel_rfl) (fun K hK => ?_); go_simp
  apply Exists.intro; apply And.intro; (focus (intro wk hk; go_simp; exact ⟨rfl, rfl⟩)); refine hK _ _ ?_; clear hK K
  refine stepK rfl (by kernel_rfl) (fun K hK => ?_); go_simp
  apply Exists.intro; apply And.intro; (focus (intro wk hk; go_simp; exact ⟨rfl, rfl⟩)); refine hK _ _ ?_; clear hK K
  refine stepK rfl (by kernel_rfl) (fun K hK => ?_); go_simp
  apply Exists.intro; apply And.intro; (focus (intro wk hk; go_simp; exact ⟨rfl, rfl⟩)); refine hK _ _ ?_; clear hK K
  refine stepK rfl (by kernel_rfl) (fun K hK => ?_); go_simp
  apply Exists.intro; apply And.intro; (focus (intro wk hk; go_simp; exact ⟨rfl, rfl⟩)); refine hK _ _ ?_; clear hK K
  refine stepK rfl (by kernel_rfl) (fun K hK => ?_); go_simp
  apply Exists.intro; apply And.intro; (focus (intro wk hk; go_simp; exact ⟨rfl, rfl⟩)); refine hK _ _ ?_; clear hK K
  refine stepK rfl (by kernel_rfl) (fun K hK => ?_); go_simp
  apply Exists.intro; apply And.intro; (focus (intro wk hk; go_simp; exact ⟨rfl, rfl⟩)); refine hK _ _ ?_; clear hK K
  refine stepK rfl (by kernel_rfl) (fun K hK => ?_); go_simp
  apply Exists.intro; apply And.intro; (focus (intro wk hk; go_simp; exact ⟨rfl, rfl⟩)); refine hK _ _ ?_; clear hK K
  refine stepK rfl (by kernel_rfl) (fun K hK => ?_); go_simp
  apply Exists.intro; apply And.intro; (focus (intro wk hk; go_simp; exact ⟨rfl, rfl⟩)); refine hK _ _ ?_; clear hK K
  refine stepK rfl (by kernel_rfl) (fun K hK => ?_); go_simp
  apply Exists.intro; apply And.intro; (focus (intro wk hk; go_simp; exact ⟨rfl, rfl⟩)); refine hK _ _ ?_; clear hK K
  refine stepK rfl (by kernel_rfl) (fun K hK => ?_); go_simp
  apply Exists.intro; apply And.intro; (focus (intro wk hk; go_simp; exact ⟨rfl, rfl⟩)); refine hK _ _ ?_; clear hK K
  refine stepK rfl (by kernel_rfl) (fun K hK => ?_); go_simp
  apply Exists.intro; apply And.intro; (focus (intro wk hk; go_simp; exact ⟨rfl, rfl⟩)); refine hK _ _ ?_; clear hK K
  refine stepK rfl (by kernel_rfl) (fun K hK => ?_); go_simp
  apply Exists.intro; apply And.intro; (focus (intro wk hk; go_simp; exact ⟨rfl, rfl⟩)); refine hK _ _ ?_; clear hK K
  refine stepK rfl (by kernel_rfl) (fun K hK => ?_); go_simp
  apply Exists.intro; apply And.intro; (focus (intro wk hk; go_simp; exact ⟨rfl, rfl⟩)); refine hK _ _ ?_; clear hK K
  refine stepK rfl (by kernel_rfl) (fun K hK => ?_); go_simp
  apply Exists.intro; apply And.intro; (focus (intro wk hk; go_simp; exact ⟨rfl, rfl⟩)); refine hK _ _ ?_; clear hK K
  refine stepK rfl (by kernel_rfl) (fun K hK => ?_); go_simp
  apply Exists.intro; apply And.intro; (focus (intro wk hk; go_simp; exact ⟨rfl, rfl⟩)); refine hK _ _ ?_; clear hK K
  refine stepK rfl (by kernel_rfl) (fun K hK => ?_); go_simp
  apply Exists.intro; apply And.intro; (focus (intro wk hk; go_simp; exact ⟨rfl, rfl⟩)); refine hK _ _ ?_; clear hK K
  refine stepK rfl (by kernel_rfl) (fun K hK => ?_); go_simp
  apply Exists.intro; apply And.intro; (focus (intro wk hk; go_simp; exact ⟨rfl, rfl⟩)); refine hK _ _ ?_; clear hK K
  refine stepK rfl (by kernel_rfl) (fun K hK => ?_); go_simp
  apply Exists.intro; apply And.intro; (focus (intro wk hk; go_simp; exact ⟨rfl, rfl⟩)); refine hK _ _ ?_; clear hK K
  refine stepK rfl (by kernel_rfl) (fun K hK => ?_); go_simp
  apply Exists.intro; apply And.intro; (focus (intro wk hk; go_simp; exact ⟨rfl, rfl⟩)); refine hK _ _ ?_; clear hK K
  refine stepS _ rfl (by kernel_rfl) (fun K hK => ?_); go_simp
  refine ⟨?_, ?_⟩
  · intro wk hk hg hu; refine upon_run (u := .slice (some ⟨wk.heap.size, 0, none⟩) 28 28) (w2 := wk.alloc (.cells rsA 118)) (by kernel_rfl) (left_L rfl rfl)
  rintro ⟨v28, lo28, hi28⟩ hlo28 hhi28 ⟨e28, f28⟩
  replace e28 : v28 = .slice (some ⟨lo28, 0, none⟩) 28 28 := e28; replace f28 : hi28 = lo28 + 1 := f28; replace hlo28 : _ ≤ lo28 := hlo28; subst e28; subst f28
  refine hK _ _ ?_; clear hK K
  refine stepK rfl (by kernel_rfl) (fun K hK => ?_); go_simp
  apply Exists.intro; apply And.intro; (focus (intro wk hk; go_simp; exact ⟨rfl, rfl⟩)); refine hK _ _ ?_; clear hK K
  refine stepN ?_
  refine hQ _ _ ?_
  intro w1 hT hG hF
  have hb1 := hT.below
  have r1 : Row w1 lo28 118 rsA := (hF 28 _ rfl rfl (by decide)).2
  replace r0 := r0.below hb1 r0.lt
  replace hl := hl.trans (hb1.mono hl.size)
  clear hT hG hF hQ QQ L hb1
  by_cases h1 : k < 1
  · have e1 := Lib.hid (show shpOf k = shpZ from by unfold shpOf; rw [if_neg (by omega)])
    have e2 := Lib.hid (show okK k = false from by rw [okK_dec]; exact decide_eq_false (by omega))
    clear r1
    go_upto_region 3 with (fail)
    let L : List Sp := [sO 1 (w.heap.size) 118 [0] (fun g => aggOf g 0)]
    refine wp_region_six0 (shs L) (look6 L) (fun c => c = w.heap.size) (by kernel_rfl) (by kernel_rfl) (mk_St L [1] [1] (by kernel_rfl) (by kernel_rfl) ⟨ok_O aggOf_congr r0.lt (rfl), trivial⟩ (by simp)) ?_
    intro QQ hQ
    refine stepK rfl (by kernel_rfl) (fun K hK => ?_); go_simp
    apply Exists.intro; apply And.intro; (focus (intro wk hk; go_simp; exact ⟨rfl, rfl⟩)); refine hK _ _ ?_; clear hK K
    refine stepS _ rfl (by kernel_rfl) (fun K hK => ?_); go_simp
    refine ⟨?_, ?_⟩
    · exact sStoreO rfl rfl rfl rfl rfl rfl r0 id (by kernel_rfl) rfl (by kernel_rfl) (by decide) aggOf_congr
    rintro ⟨v1, lo1, hi1⟩ - - (rfl : v1 = undef)
    refine hK _ _ ?_; clear hK K
    refine stepKz rfl (fun K hK => ?_); go_simp
    apply Exists.intro; apply And.intro; (focus (intro wk hk; go_simp; exact ⟨rfl, rfl⟩)); refine hK _ _ ?_; clear hK K
    refine stepN ?_
    refine hQ _ _ ?_
    intro w9 hT hG hF
    have x0 : Row w9 w.heap.size 118 (#[.int .i64 0, .bool false, .int .i64 0, .bool false, .int .i64 0, .bool false]) := hF 1 _ rfl rfl (by decide)
    have hl9 := Lib.hid (hl.trans (hT.below_of hl.size (by intro c hc; have hc' : c = w.heap.size := hc; omega)))
    clear hT hG hF hQ QQ L hl r0
    go_wp2_with fail
    refine bodyPost_ret (results_ct rfl aggT118 rfl x0 rfl) rfl ?_
    exact ⟨by rw [← HS.out.1, ← HS.out.2, e1.out, e2.out]; rfl, hl9.out⟩
  · by_cases h2 : 28 < k
    · have e1 := Lib.hid (show shpOf k = shpZ from by unfold shpOf; rw [if_neg (by omega)])
      have e2 := Lib.hid (show okK k = false from by rw [okK_dec]; exact decide_eq_false (by omega))
      clear r1
      go_upto_region 3 with (fail)
      let L : List Sp := [sO 1 (w.heap.size) 118 [0] (fun g => aggOf g 0)]
      refine wp_region_six0 (shs L) (look6 L) (fun c => c = w.heap.size) (by kernel_rfl) (by kernel_rfl) (mk_St L [1] [1] (by kernel_rfl) (by kernel_rfl) ⟨ok_O aggOf_congr r0.lt (rfl), trivial⟩ (by simp)) ?_
      intro QQ hQ
      refine stepK rfl (by kernel_rfl) (fun K hK => ?_); go_simp
      apply Exists.intro; apply And.intro; (focus (intro wk hk; go_simp; exact ⟨rfl, rfl⟩)); refine hK _ _ ?_; clear hK K
      refine stepS _ rfl (by kernel_rfl) (fun K hK => ?_); go_simp
      refine ⟨?_, ?_⟩
      · exact sStoreO rfl rfl rfl rfl rfl rfl r0 id (by kernel_rfl) rfl (by kernel_rfl) (by decide) aggOf_congr
      rintro ⟨v1, lo1, hi1⟩ - - (rfl : v1 = undef)
      refine hK _ _ ?_; clear hK K
      refine stepKz rfl (fun K hK => ?_); go_simp
      apply Exists.intro; apply And.intro; (focus (intro wk hk; go_simp; exact ⟨rfl, rfl⟩)); refine hK _ _ ?_; clear hK K
      refine stepN ?_
      refine hQ _ _ ?_
      intro w9 hT hG hF
      have x0 : Row w9 w.heap.size 118 (#[.int .i64 0, .bool false, .int .i64 0, .bool false, .int .i64 0, .bool false]) := hF 1 _ rfl rfl (by decide)
      have hl9 := Lib.hid (hl.trans (hT.below_of hl.size (by intro c hc; have hc' : c = w.heap.size := hc; omega)))
      clear hT hG hF hQ QQ L hl r0
      go_wp2_with fail
      refine bodyPost_ret (results_ct rfl aggT118 rfl x0 rfl) rfl ?_
      exact ⟨by rw [← HS.out.1, ← HS.out.2, e1.out, e2.out]; rfl, hl9.out⟩
    · obtain ⟨i, hi⟩ : ∃ i : Nat, k - 1 = (i : Int) := ⟨(k - 1).toNat, by omega⟩
      have e1 : shpOf k = shpL.getD i shpZ := by unfold shpOf; rw [if_pos (by omega), show (k - 1).toNat = i by omega]
      have e2 := Lib.hid (show okK k = true from by rw [okK_dec]; exact decide_eq_true (by omega))
      have hsub := rsA_at i (by omega)
      rw [← e1, HS.out.1] at hsub
      have hok := Lib.hid HS.out.2
      clear HS
      obtain ⟨sn, st, sa, se, sh, sc⟩ := S
      simp only [Shp.cs] at hsub
      have hw : IntKind.i64.wrap (i : Int) = (i : Int) := by rw [IntKind.wrap_i64]; omega
      have hw1 : IntKind.i64.wrap (k - 1) = (i : Int) := by rw [IntKind.wrap_i64]; omega
      have hlt : (i : Int) < 28 := by omega
      have hge : (0 : Int) ≤ (i : Int) := by omega
      clear e1
      go_upto_region 4 with (fail)
      let L : List Sp := [sO 5 (w.heap.size) 118 [4] (fun g => aggOf g 4)]
      refine wp_region_six0 (shs L) (look6 L) (fun c => c = w.heap.size) (by kernel_rfl) (by kernel_rfl) (mk_St L [5] [5] (by kernel_rfl) (by kernel_rfl) ⟨ok_O aggOf_congr r0.lt (rfl), trivial⟩ (by simp)) ?_
      intro QQ hQ
      refine stepK rfl (by kernel_rfl) (fun K hK => ?_); go_simp
      apply Exists.intro; apply And.intro; (focus (intro wk hk; go_simp; exact ⟨rfl, rfl⟩)); refine hK _ _ ?_; clear hK K
      refine stepK rfl (by kernel_rfl) (fun K hK => ?_); go_simp
      apply Exists.intro; apply And.intro; (focus (intro wk hk; go_simp; exact ⟨rfl, rfl⟩)); refine hK _ _ ?_; clear hK K
      refine stepK rfl (by kernel_rfl) (fun K hK => ?_); go_simp
      apply Exists.intro; apply And.intro; (focus (intro wk hk; go_simp; exact ⟨rfl, rfl⟩)); refine hK _ _ ?_; clear hK K
      refine stepK rfl (by kernel_rfl) (fun K hK => ?_); go_simp
      apply Exists.intro; apply And.intro; (focus (intro wk hk; go_simp; exact ⟨rfl, rfl⟩)); refine hK _ _ ?_; clear hK K
      refine stepK rfl (by kernel_rfl) (fun K hK => ?_); go_simp
      apply Exists.intro; apply And.intro; (focus exact kLoadMid rfl rfl aggT118 r1 hsub rfl id); refine hK _ _ ?_; clear hK K
      refine stepS _ rfl (by kernel_rfl) (fun K hK => ?_); go_simp
      refine ⟨?_, ?_⟩
      · exact sStoreO rfl rfl rfl rfl rfl rfl r0 id (by kernel_rfl) rfl (by kernel_rfl) (by decide) aggOf_congr
      rintro ⟨v5, lo5, hi5⟩ - - (rfl : v5 = undef)
      refine hK _ _ ?_; clear hK K
      refine stepKz rfl (fun K hK => ?_); go_simp
      apply Exists.intro; apply And.intro; (focus (intro wk hk; go_simp; exact ⟨rfl, rfl⟩)); refine hK _ _ ?_; clear hK K
      refine stepN ?_
      refine hQ _ _ ?_
      intro w9 hT hG hF
      have x0 : Row w9 w.heap.size 118 (#[.int .i64 sn, .bool st, .int .i64 sa, .bool se, .int .i64 sh, .bool sc]) := hF 5 _ rfl rfl (by decide)
      have hl9 := Lib.hid (hl.trans (hT.below_of hl.size (by intro c hc; have hc' : c = w.heap.size := hc; omega)))
      clear hT hG hF hQ QQ L hl r0 r1 hsub
      go_wp2_with fail
      refine bodyPost_ret (results_ct rfl aggT118 rfl x0 rfl) rfl ?_
      exact ⟨by rw [← hok.out, e2.out]; rfl, hl9.out⟩
end Go.Proofs.Ytpdenhmkpiafiaa
namespace Go.Proofs.Ytpdenhmkpiafiaa
open Go Go.RowKit K6 Ref
namespace Ref
theorem len_lt {a b : Nat} (h : (digs a).length < (digs b).length) : a < b := by
  have h1 : a < B ^ (digs a).length := by
    have := val_lt (dig_digs a)
    rwa [val_digs] at this
  refine Nat.lt_of_not_le fun h2 => ?_
  have := digs_len (Nat.lt_of_le_of_lt h2 h1)
  omega
theorem val_split {xs : List Nat} {j : Nat} (h : j < xs.length) : val xs = val (xs.take j) + B ^ j * (dg xs j + B * val (xs.drop (j + 1))) := by
  conv => lhs; rw [← List.take_append_drop j xs, List.drop_eq_getElem_cons h]
  rw [val_append, List.length_take, Nat.min_eq_left (Nat.le_of_lt h)]
  congr 2
  show xs[j] + _ = _
  congr 1
  have := dg_some h
  rw [List.getElem?_eq_getElem h] at this
  exact Option.some.inj this
theorem take_lt {xs : List Nat} (h : Dig xs) (j : Nat) (hj : j ≤ xs.length) : val (xs.take j) < B ^ j := by
  have := val_lt (xs := xs.take j) (fun x hx => h x (List.mem_of_mem_take hx))
  rwa [List.length_take, Nat.min_eq_left hj] at this
theorem dig_lt {xs ys : List Nat} {j : Nat} (hx : Dig xs) (hjx : j < xs.length) (hjy : j < ys.length) (hd : xs.drop (j + 1) = ys.drop (j + 1)) (hl : dg xs j < dg ys j) : val xs < val ys := by
  rw [val_split hjx, val_split hjy, hd]
  have h1 := take_lt hx j (Nat.le_of_lt hjx)
  have h2 : B ^ j * (dg xs j + B * val (ys.drop (j + 1)) + 1) ≤ B ^ j * (dg ys j + B * val (ys.drop (j + 1))) := Nat.mul_le_mul_left _ (by omega)
  rw [Nat.mul_add, Nat.mul_one] at h2
  omega
theorem drop_step {xs ys : List Nat} {j : Nat} (hjx : j < xs.length) (hjy : j < ys.length) (hd : xs.drop (j + 1) = ys.drop (j + 1)) (he : dg xs j = dg ys j) : xs.drop j = ys.drop j := by
  have h1 := dg_some hjx
  have h2 := dg_some hjy
  rw [List.getElem?_eq_getElem hjx] at h1
  rw [List.getElem?_eq_getElem hjy] at h2
  rw [List.drop_eq_getElem_cons hjx, List.drop_eq_getElem_cons hjy, hd, Option.some.inj h1, Option.some.inj h2, he]
end Ref
theorem Sl.cell {w : World} {g o n c : Nat} {xs : List Nat} (h : Sl w (.slice (some ⟨g, o, none⟩) n c) xs) {i : Nat} (hi : i < xs.length) : g < w.heap.size ∧ w.cell? ⟨g, o + i, none⟩ = some (.int .u32 ((dg xs i : Nat) : Int)) := by
  obtain ⟨r, c', e, hc, h0, h1⟩ := h
  cases e
  obtain ⟨g', o', e', hg, hi'⟩ := h1 _ rfl
  cases e'
  exact ⟨hg, hi' i hi⟩
theorem Sl.addr {w : World} {v : Value} {xs : List Nat} (h : Sl w v xs) (h0 : 0 < xs.length) : ∃ g o c, v = .slice (some ⟨g, o, none⟩) xs.length c := by
  obtain ⟨r, c, rfl, hc, hr, h1⟩ := h
  cases r with
  | none => exfalso; have := hr rfl; omega
  | some a => obtain ⟨g, o, rfl, _⟩ := h1 a rfl; exact ⟨g, o, c, rfl⟩
theorem Sl.addr' {w : World} {r : Option Addr} {n c : Nat} {xs : List Nat} (h : Sl w (.slice r n c) xs) (h0 : 0 < xs.length) : ∃ g o, r = some ⟨g, o, none⟩ := by
  obtain ⟨g, o, c', e⟩ := h.addr h0
  exact ⟨g, o, by cases e; rfl⟩
set_option maxRecDepth 100000 in
set_option maxHeartbeats 4000000 in
theorem natcmp_any (v u : Value) (xs ys : List Nat) (w : World) (hx : Dig xs) (hy : Dig ys) (sv : Sl w v xs) (su : Sl w u ys) (lx : xs.length < 1099511627776) (ly : ys.length < 1099511627776) :
    Calls Try.prog 173 #[v, u] w fun e w' => e = .returned (.int .i64 (cmpN (val xs) (val ys))) ∧ Below w.heap.size w w' := by
  have lp : (digs (val xs)).length < 1099511627776 := Nat.lt_of_le_of_lt (digs_len (val_lt hx)) lx
  have lq : (digs (val ys)).length < 1099511627776 := Nat.lt_of_le_of_lt (digs_len (val_lt hy)) ly
  have HT := trim_any v xs w hx sv lx
  have HU := trim_any u ys w hy su ly
  clear sv su lx ly hx hy
  obtain ⟨a, ha⟩ : ∃ a, a = val xs := ⟨_, rfl⟩
  obtain ⟨b, hb⟩ : ∃ b, b = val ys := ⟨_, rfl⟩
  rw [← ha] at HT lp ⊢
  rw [← hb] at HU lq ⊢
  clear ha hb
  replace HT := Lib.hid HT
  replace HU := Lib.hid HU
  go_enter Try.func173, Try.ntmps173
  go_wp2_with fail
  refine HT.out.mono ?_
  rintro e w1 ⟨rfl, v1, rfl, s1⟩
  go_wp2_with fail
  refine HU.out.mono ?_
  rintro e w2 ⟨rfl, u1, rfl, s2⟩
  clear HT HU
  obtain ⟨r1, c1, e1, k1, -, -⟩ := id s1
  obtain ⟨r2, c2, e2, k2, -, -⟩ := id s2
  have dx := dig_digs a
  have dy := dig_digs b
  have va := val_digs a
  have vb := val_digs b
  have lt1 := @len_lt a b
  have lt2 := @len_lt b a
  generalize digs a = p at *
  generalize digs b = q at *
  subst e1
  subst e2
  obtain ⟨n, hn⟩ : ∃ n, p.length = n := ⟨_, rfl⟩
  obtain ⟨m, hm⟩ : ∃ m, q.length = m := ⟨_, rfl⟩
  rw [hn] at s1 lp k1 lt1 lt2 ⊢
  rw [hm] at s2 lq k2 lt1 lt2 ⊢
  by_cases hl1 : n < m
  · have hv : cmpN a b = -1 := by unfold cmpN; rw [if_pos (lt1 hl1)]
    replace hv := Lib.hid hv
    have g1 : ((n : Int) != (m : Int)) = true := by simp; omega
    have g2 : ((n : Int) < (m : Int)) := by omega
    clear va vb dx dy lt1 lt2 s1 s2
    go_wp2_with fail
    go_ret
    exact ⟨by rw [hv.out]; rfl, Below.refl _ _⟩
  by_cases hl2 : m < n
  · have hv : cmpN a b = 1 := by have := lt2 hl2; unfold cmpN; rw [if_neg (by omega), if_pos this]
    replace hv := Lib.hid hv
    have g1 : ((n : Int) != (m : Int)) = true := by simp; omega
    have g2 : ¬ ((n : Int) < (m : Int)) := by omega
    clear va vb dx dy lt1 lt2 s1 s2
    go_wp2_with fail
    go_ret
    exact ⟨by rw [hv.out]; rfl, Below.refl _ _⟩
  obtain rfl : m = n := by omega
  have S := Lib.hid (show _ ∧ _ ∧ _ ∧ _ ∧ _ ∧ _ from ⟨dx, dy, va, vb, s1, s2⟩)
  clear dx dy va vb s1 s2 lt1 lt2
  go_wp2_with fail
  go_loopg [5] m (fun gg s5 wr => gg ≤ m ∧ s5 = .int .i64 ((gg : Int) - 1) ∧ Below w2.heap.size w2 wr ∧ p.drop gg = q.drop gg)
  case atStart => exact ⟨Nat.le_refl _, rfl, Below.refl _ _, by rw [List.drop_eq_nil_of_le (by omega), List.drop_eq_nil_of_le (by omega)]⟩
  case round =>
    obtain ⟨hk, rfl, hl, hd⟩ := hrel
    rcases Nat.eq_zero_or_pos gk with h0 | h0
    · subst h0
      have hv : cmpN a b = 0 := by
        have e : p = q := by simpa using hd
        have : a = b := by rw [← S.out.2.2.1, ← S.out.2.2.2.1, e]
        unfold cmpN; rw [if_neg (by omega), if_neg (by omega)]
      replace hv := Lib.hid hv
      clear hd
      go_wp2_with fail
      go_ret
      exact ⟨by rw [hv.out]; rfl, hl⟩
    · obtain ⟨g, o, rfl⟩ := S.out.2.2.2.2.1.addr' (by omega)
      obtain ⟨g', o', rfl⟩ := S.out.2.2.2.2.2.addr' (by omega)
      obtain ⟨j, rfl⟩ : ∃ j, gk = j + 1 := ⟨gk - 1, by omega⟩
      have c1j := S.out.2.2.2.2.1.cell (i := j) (by omega)
      have c2j := S.out.2.2.2.2.2.cell (i := j) (by omega)
      have e1 : ((j : Int) + 1) - 1 = (j : Int) := by omega
      have hI : (j : Int) < (m : Int) := by omega
      have HD := Lib.hid hd
      clear hd
      obtain ⟨x, hx⟩ : ∃ x, dg p j = x := ⟨_, rfl⟩
      obtain ⟨y, hy⟩ : ∃ y, dg q j = y := ⟨_, rfl⟩
      rw [hx] at c1j
      rw [hy] at c2j
      replace c1j := And.intro c1j.1 (((bcell hl).1 g (o + j) c1j.1).trans c1j.2)
      replace c2j := And.intro c2j.1 (((bcell hl).1 g' (o' + j) c2j.1).trans c2j.2)
      have hg1 : g < wr.heap.size := Nat.lt_of_lt_of_le c1j.1 hl.size
      have hg2 : g' < wr.heap.size := Nat.lt_of_lt_of_le c2j.1 hl.size
      replace c1j := c1j.2
      replace c2j := c2j.2
      have fin : (x = y → p.drop j = q.drop j) ∧ (x < y → cmpN a b = -1) ∧ (y < x → cmpN a b = 1) := by
        refine ⟨fun h => drop_step (by omega) (by omega) HD.out (by rw [hx, hy, h]), fun h => ?_, fun h => ?_⟩
        · have := dig_lt S.out.1 (by omega) (by omega) HD.out (by rw [hx, hy]; exact h)
          rw [S.out.2.2.1, S.out.2.2.2.1] at this
          unfold cmpN; rw [if_pos this]
        · have := dig_lt S.out.2.1 (by omega) (by omega) HD.out.symm (by rw [hx, hy]; exact h)
          rw [S.out.2.2.1, S.out.2.2.2.1] at this
          unfold cmpN; rw [if_neg (by omega), if_pos this]
      have HF := Lib.hid fin
      clear fin hx hy HD
      go_upto_region 9 with (fail)
      refine wp_abs (fun w5 => Below w2.heap.size w2 w5 ∧ g < w5.heap.size ∧ g' < w5.heap.size ∧ w5.cell? ⟨g, o + j, none⟩ = some (.int .u32 ((x : Nat) : Int)) ∧ w5.cell? ⟨g', o' + j, none⟩ = some (.int .u32 ((y : Nat) : Int))) ⟨hl, hg1, hg2, c1j, c2j⟩ ?_
      clear hl hg1 hg2 c1j c2j
      rintro w5 ⟨hl, hg1, hg2, c1j, c2j⟩
      let L : List Sp := []
      refine wp_region_six (shs L) (look6 L) (None_) (by kernel_rfl) (by kernel_rfl) (mk_St L [] [] (by kernel_rfl) (by kernel_rfl) trivial (by simp)) ?_
      intro QQ hQ
      refine stepK rfl (by kernel_rfl) (fun K hK => ?_); go_simp
      apply Exists.intro; apply And.intro; (focus (intro wk hk; go_simp; exact ⟨rfl, rfl⟩)); refine hK _ _ ?_; clear hK K
      refine stepK rfl (by kernel_rfl) (fun K hK => ?_); go_simp
      apply Exists.intro; apply And.intro; (focus (intro wk hk; go_simp; exact ⟨rfl, rfl⟩)); refine hK _ _ ?_; clear hK K
      refine stepK rfl (by kernel_rfl) (fun K hK => ?_); go_simp
      apply Exists.intro; apply And.intro; (focus (intro wk hk; go_simp; exact ⟨rfl, rfl⟩)); refine hK _ _ ?_; clear hK K
      refine stepK rfl (by kernel_rfl) (fun K hK => ?_); go_simp
      apply Exists.intro; apply And.intro; (focus (intro wk hk; have cc := ((bcell hk.undrew.below).1 g (o + j) hg1).trans c1j; go_simp; exact ⟨rfl, rfl⟩)); refine hK _ _ ?_; clear hK K
      refine stepK rfl (by kernel_rfl) (fun K hK => ?_); go_simp
      apply Exists.intro; apply And.intro; (focus (intro wk hk; go_simp; exact ⟨rfl, rfl⟩)); refine hK _ _ ?_; clear hK K
      refine stepK rfl (by kernel_rfl) (fun K hK => ?_); go_simp
      apply Exists.intro; apply And.intro; (focus (intro wk hk; go_simp; exact ⟨rfl, rfl⟩)); refine hK _ _ ?_; clear hK K
      refine stepK rfl (by kernel_rfl) (fun K hK => ?_); go_simp
      apply Exists.intro; apply And.intro; (focus (intro wk hk; go_simp; exact ⟨rfl, rfl⟩)); refine hK _ _ ?_; clear hK K
      refine stepK rfl (by kernel_rfl) (fun K hK => ?_); go_simp
      apply Exists.intro; apply And.intro; (focus (intro wk hk; have cc := ((bcell hk.undrew.below).1 g' (o' + j) hg2).trans c2j; go_simp; exact ⟨rfl, rfl⟩)); refine hK _ _ ?_; clear hK K
      refine stepK rfl (by kernel_rfl) (fun K hK => ?_); go_simp
      apply Exists.intro; apply And.intro; (focus (intro wk hk; go_simp; exact ⟨rfl, rfl⟩)); refine hK _ _ ?_; clear hK K
      refine stepN ?_
      refine hQ _ _ ?_
      intro w6 hT hG hF
      have hb6 := hT.undrew.below
      replace c1j := ((bcell hb6).1 g (o + j) hg1).trans c1j
      replace c2j := ((bcell hb6).1 g' (o' + j) hg2).trans c2j
      replace hg1 := Nat.lt_of_lt_of_le hg1 hb6.size
      replace hg2 := Nat.lt_of_lt_of_le hg2 hb6.size
      replace hl := hl.trans (hb6.mono hl.size)
      clear hT hG hF hQ QQ L hb6
      by_cases hz : x = y
      · have hF := HF.out.1 hz
        subst hz
        have HG := Lib.hid hF
        clear hF HF
        go_wp2_with fail
        go_roundg j
        case measure => omega
        case rel => exact ⟨by omega, rfl, hl, HG.out⟩
      · have hz' : ((x : Int) != (y : Int)) = true := by simp; omega
        go_upto_region 10 with (fail)
        let L : List Sp := []
        refine wp_region_six (shs L) (look6 L) (None_) (by kernel_rfl) (by kernel_rfl) (mk_St L [] [] (by kernel_rfl) (by kernel_rfl) trivial (by simp)) ?_
        intro QQ hQ
        refine stepK rfl (by kernel_rfl) (fun K hK => ?_); go_simp
        apply Exists.intro; apply And.intro; (focus (intro wk hk; go_simp; exact ⟨rfl, rfl⟩)); refine hK _ _ ?_; clear hK K
        refine stepK rfl (by kernel_rfl) (fun K hK => ?_); go_simp
        apply Exists.intro; apply And.intro; (focus (intro wk hk; go_simp; exact ⟨rfl, rfl⟩)); refine hK _ _ ?_; clear hK K
        refine stepK rfl (by kernel_rfl) (fun K hK => ?_); go_simp
        apply Exists.intro; apply And.intro; (focus (intro wk hk; go_simp; exact ⟨rfl, rfl⟩)); refine hK _ _ ?_; clear hK K
        refine stepK rfl (by kernel_rfl) (fun K hK => ?_); go_simp
        apply Exists.intro; apply And.intro; (focus (intro wk hk; have cc := ((bcell hk.undrew.below).1 g (o + j) hg1).trans c1j; go_simp; exact ⟨rfl, rfl⟩)); refine hK _ _ ?_; clear hK K
        refine stepK rfl (by kernel_rfl) (fun K hK => ?_); go_simp
        apply Exists.intro; apply And.intro; (focus (intro wk hk; go_simp; exact ⟨rfl, rfl⟩)); refine hK _ _ ?_; clear hK K
        refine stepK rfl (by kernel_rfl) (fun K hK => ?_); go_simp
        apply Exists.intro; apply And.intro; (focus (intro wk hk; go_simp; exact ⟨rfl, rfl⟩)); refine hK _ _ ?_; clear hK K
        refine stepK rfl (by kernel_rfl) (fun K hK => ?_); go_simp
        apply Exists.intro; apply And.intro; (focus (intro wk hk; go_simp; exact ⟨rfl, rfl⟩)); refine hK _ _ ?_; clear hK K
        refine stepK rfl (by kernel_rfl) (fun K hK => ?_); go_simp
        apply Exists.intro; apply And.intro; (focus (intro wk hk; have cc := ((bcell hk.undrew.below).1 g' (o' + j) hg2).trans c2j; go_simp; exact ⟨rfl, rfl⟩)); refine hK _ _ ?_; clear hK K
        refine stepK rfl (by kernel_rfl) (fun K hK => ?_); go_simp
        apply Exists.intro; apply And.intro; (focus (intro wk hk; go_simp; exact ⟨rfl, rfl⟩)); refine hK _ _ ?_; clear hK K
        refine stepN ?_
        refine hQ _ _ ?_
        intro w7 hT hG hF
        have hb7 := hT.undrew.below
        replace hl := hl.trans (hb7.mono hl.size)
        clear hT hG hF hQ QQ L hb7
        by_cases hlt : x < y
        · have hv := HF.out.2.1 hlt
          replace hv := Lib.hid hv
          have g2 : ((x : Int) < (y : Int)) := by omega
          clear HF
          go_wp2_with fail
          go_ret
          exact ⟨by rw [hv.out]; rfl, hl⟩
        · have hv := HF.out.2.2 (by omega)
          replace hv := Lib.hid hv
          have g2 : ¬ ((x : Int) < (y : Int)) := by omega
          clear HF
          go_wp2_with fail
          go_ret
          exact ⟨by rw [hv.out]; rfl, hl⟩
theorem M_B : M = B ^ 8 := by unfold M; decide
theorem len8 {a : Nat} (ha : a < M) : (digs a).length < 1099511627776 := Nat.lt_of_le_of_lt (digs_len (k := 8) (Nat.lt_of_lt_of_eq ha M_B)) (by omega)
set_option maxRecDepth 100000 in
set_option maxHeartbeats 4000000 in
theorem refcmpU {a b : Nat} (ha : a < M) (hb : b < M) (w : World) : Calls Try.prog 57 #[.agg (W4 a), .agg (W4 b)] w (Ret w (.int .i64 (cmpN a b))) := by
  have hc : ∀ wx v u, Sl wx v (digs a) → Sl wx u (digs b) → Calls Try.prog 173 #[v, u] wx (Ret wx (.int .i64 (cmpN a b))) := fun wx v u s1 s2 => by
    have := natcmp_any v u _ _ wx (dig_digs a) (dig_digs b) s1 s2 (len8 ha) (len8 hb)
    rw [val_digs, val_digs] at this
    exact this
  go_enter Try.func57, Try.ntmps57
  apply wp_seq_eq
  focus
    intro J hJ
    go_wp2_with fail
    exact hJ
  refine wp_abs (Mem w [(w.heap.size, 31, W4 a), (w.heap.size + 1, 31, W4 b)]) ⟨by go_grown, ?_, ?_, trivial⟩ ?_
  · repeat (first | (refine Row.new_at ?_; simp; done) | refine Row.alloc ?_ _)
  · repeat (first | (refine Row.new_at ?_; simp; done) | refine Row.alloc ?_ _)
  intro w0 hM
  obtain ⟨hl, ra, rb, -⟩ := hM
  go_upto_region 1 with (fail)
  let L : List Sp := [sF 1 [] [] [] (fun _ => True) (fun x w => Sl w x.v (digs (a))), sF 3 [] [] [] (fun _ => True) (fun x w => Sl w x.v (digs (b))), sV 4 [1, 3] [1, 3] (fun u => u = .int .i64 (cmpN a b))]
  refine wp_region_six (shs L) (look6 L) (None_) (by kernel_rfl) (by kernel_rfl) (mk_St L [] [] (by kernel_rfl) (by kernel_rfl) ⟨ok_F (any_some _) (fun _ _ _ h hb => Sl.below h hb), ok_F (any_some _) (fun _ _ _ h hb => Sl.below h hb), ok_V ⟨_, rfl⟩, trivial⟩ (by simp)) ?_
  intro QQ hQ
  refine stepK rfl (by kernel_rfl) (fun K hK => ?_); go_simp
  apply Exists.intro; apply And.intro; (focus exact kLoad rfl rfl aggT31 ra rfl id); refine hK _ _ ?_; clear hK K
  refine stepS _ rfl (by kernel_rfl) (fun K hK => ?_); go_simp
  refine ⟨?_, ?_⟩
  · intro wk hk hg hu; go_simp; refine upon_enter ((of164 a ha _).mono ?_); rintro e w' ⟨v, rfl, hv, hb⟩; exact ⟨_, rfl, left_F rfl rfl hb trivial hv⟩
  rintro ⟨v1, lo1, hi1⟩ - - -
  refine hK _ _ ?_; clear hK K
  refine stepK rfl (by kernel_rfl) (fun K hK => ?_); go_simp
  apply Exists.intro; apply And.intro; (focus exact kLoad rfl rfl aggT31 rb rfl id); refine hK _ _ ?_; clear hK K
  refine stepS _ rfl (by kernel_rfl) (fun K hK => ?_); go_simp
  refine ⟨?_, ?_⟩
  · intro wk hk hg hu; go_simp; refine upon_enter ((of164 b hb _).mono ?_); rintro e w' ⟨v, rfl, hv, hb⟩; exact ⟨_, rfl, left_F rfl rfl hb trivial hv⟩
  rintro ⟨v3, lo3, hi3⟩ - - -
  refine hK _ _ ?_; clear hK K
  refine stepS _ rfl (by kernel_rfl) (fun K hK => ?_); go_simp
  refine ⟨?_, ?_⟩
  · intro wk hk hg hu; have u1 := hu 1 (show 1 ∈ [1, 3] by decide); have u3 := hu 3 (show 3 ∈ [1, 3] by decide); have s1 : Sl wk v1 (digs a) := u1; have s3 : Sl wk v3 (digs b) := u3; go_simp; refine upon_enter ((hc _ v1 v3 s1 s3).mono ?_); rintro e w' ⟨rfl, hb⟩; exact ⟨_, rfl, left_V (p := fun u => u = .int .i64 (cmpN a b)) rfl (hb) rfl⟩
  rintro ⟨v4, lo4, hi4⟩ - - (rfl : v4 = _)
  refine hK _ _ ?_; clear hK K
  refine stepK rfl (by kernel_rfl) (fun K hK => ?_); go_simp
  apply Exists.intro; apply And.intro; (focus (intro wk hk; go_simp; exact ⟨rfl, rfl⟩)); refine hK _ _ ?_; clear hK K
  refine stepN ?_
  refine hQ _ _ ?_
  intro w1 hT hG hF
  have hbw1 := hT.undrew.below
  replace hl := hl.trans (hbw1.mono hl.size)
  clear hT hG hF hbw1 hQ QQ L 
  go_wp2_with fail
  go_ret
  exact ⟨rfl, hl⟩
end Go.Proofs.Ytpdenhmkpiafiaa
namespace Go.Proofs.Ytpdenhmkpiafiaa
open Go Go.RowKit K6
theorem cmpN_le {a b : Nat} (h : a ≤ b) : cmpN a b ≤ 0 := by unfold cmpN; split <;> (try split) <;> omega
theorem cmpN_gt {a b : Nat} (h : b < a) : 0 < cmpN a b := by unfold cmpN; rw [if_neg (by omega), if_pos h]; omega
def M3 : Nat := 340282366920938463463374607431768211455
theorem M3_lt : M3 < M := by unfold M3 M; omega
theorem W4_M3 : #[Value.int .u64 18446744073709551615, .int .u64 18446744073709551615, .int .u64 0, .int .u64 0] = W4 M3 := by
  unfold W4
  rw [show wordsOf M3 0 = 18446744073709551615 by decide, show wordsOf M3 1 = 18446744073709551615 by decide, show wordsOf M3 2 = 0 by decide, show wordsOf M3 3 = 0 by decide]
theorem amt_M3 (a : Nat) : decide (a < M2) = decide (cmpN a M3 ≤ 0) := by
  congr 1
  refine propext ⟨fun h => cmpN_le (by unfold M2 at h; unfold M3; omega), fun h => ?_⟩
  refine Nat.lt_of_not_le fun h1 => ?_
  have := cmpN_gt (a := a) (b := M3) (by unfold M2 at h1; unfold M3; omega)
  omega
set_option maxRecDepth 100000 in
set_option maxHeartbeats 16000000 in
theorem refMostU (w : World) : Calls Try.prog 130 #[] w (Ret w (.agg (W4 M3))) := by
  go_enter Try.func130, Try.ntmps130
  apply wp_seq_eq
  focus
    intro J hJ
    go_wp2_with fail
    exact hJ
  refine wp_abs (Mem w [(w.heap.size, 31, arr .u64 (fun _ => 0) 4)]) ⟨by go_grown, ?_, trivial⟩ ?_
  · repeat (first | (refine Row.new_at ?_; simp; done) | refine Row.alloc ?_ _)
  intro w0 hM
  obtain ⟨hl, r0, -⟩ := hM
  go_upto_region 1 with (fail)
  let L : List Sp := [sO 1 (w.heap.size) 31 [0] (fun g => aggOf g 0)]
  refine wp_region_six0 (shs L) (look6 L) (fun c => c = w.heap.size) (by kernel_rfl) (by kernel_rfl) (mk_St L [1] [1] (by kernel_rfl) (by kernel_rfl) ⟨ok_O aggOf_congr r0.lt (rfl), trivial⟩ (by simp)) ?_
  intro QQ hQ
  refine stepK rfl (by kernel_rfl) (fun K hK => ?_); go_simp
  apply Exists.intro; apply And.intro; (focus (intro wk hk; go_simp; exact ⟨rfl, rfl⟩)); refine hK _ _ ?_; clear hK K
  refine stepS _ rfl (by kernel_rfl) (fun K hK => ?_); go_simp
  refine ⟨?_, ?_⟩
  · exact sStoreO rfl rfl rfl rfl rfl rfl r0 id (by kernel_rfl) rfl (by kernel_rfl) (by decide) aggOf_congr
  rintro ⟨v1, lo1, hi1⟩ - - (rfl : v1 = undef)
  refine hK _ _ ?_; clear hK K
  refine stepN ?_
  refine hQ _ _ ?_
  intro w1 hT hG hF
  have hT' := hT
  have xr0 : Row w1 (w.heap.size) 31 (#[.int .u64 18446744073709551615, .int .u64 18446744073709551615, .int .u64 0, .int .u64 0]) := hF 1 _ rfl rfl (by decide)
  have hl9 : Below w.heap.size w w1 := hl.trans (hT'.below_of hl.size (by intro c hc; omega))
  clear hT hT' hG hF hQ QQ L hl r0
  have hl := hl9; clear hl9
  have r0 := xr0; clear xr0
  replace r0 := Row.congr r0 W4_M3
  go_wp2_with fail
  refine bodyPost_ret (results_c rfl aggT31 rfl r0 rfl) rfl ?_
  exact ⟨rfl, hl⟩
set_option maxRecDepth 100000 in
set_option maxHeartbeats 16000000 in
theorem refAmountU {a : Nat} (ha : a < M) (w : World) : Calls Try.prog 126 #[.agg (W4 a)] w (Ret w (.bool (decide (a < M2)))) := by
  have hh0 := amt_M3 a
  obtain ⟨c, hc⟩ : ∃ c, c = cmpN a M3 := ⟨_, rfl⟩
  rw [← hc] at hh0
  have hh := Lib.hid hh0
  clear hh0
  have k0 := Lib.hid (show ∀ wx, Calls Try.prog 130 #[] wx (Ret wx (.agg (W4 M3))) from fun wx => by have h := refMostU  wx; exact h)
  have k1 := Lib.hid (show ∀ wx, Calls Try.prog 57 #[.agg (W4 a), .agg (W4 M3)] wx (Ret wx (.int .i64 c)) from fun wx => by have h := refcmpU ha M3_lt wx; rw [← hc] at h; exact h)
  clear hc
  go_enter Try.func126, Try.ntmps126
  apply wp_seq_eq
  focus
    intro J hJ
    go_wp2_with fail
    exact hJ
  refine wp_abs (Mem w [(w.heap.size, 31, W4 a)]) ⟨by go_grown, ?_, trivial⟩ ?_
  · repeat (first | (refine Row.new_at ?_; simp; done) | refine Row.alloc ?_ _)
  intro w0 hM
  obtain ⟨hl, r0, -⟩ := hM
  go_upto_region 1 with (fail)
  let L : List Sp := [sV 1 [] [] (fun u => u = .agg (W4 M3)), sV 2 [] [] (fun u => u = .int .i64 c)]
  refine wp_region_six (shs L) (look6 L) (None_) (by kernel_rfl) (by kernel_rfl) (mk_St L [] [] (by kernel_rfl) (by kernel_rfl) ⟨ok_V ⟨_, rfl⟩, ok_V ⟨_, rfl⟩, trivial⟩ (by simp)) ?_
  intro QQ hQ
  refine stepK rfl (by kernel_rfl) (fun K hK => ?_); go_simp
  apply Exists.intro; apply And.intro; (focus exact kLoad rfl rfl aggT31 r0 rfl id); refine hK _ _ ?_; clear hK K
  refine stepS _ rfl (by kernel_rfl) (fun K hK => ?_); go_simp
  refine ⟨?_, ?_⟩
  · intro wk hk hg hu; go_simp; refine upon_enter ((k0.out _).mono ?_); rintro e w' ⟨rfl, hb⟩; exact ⟨_, rfl, left_V (p := fun u => u = .agg (W4 M3)) rfl (hb) rfl⟩
  rintro ⟨v1, lo1, hi1⟩ - - (rfl : v1 = _)
  refine hK _ _ ?_; clear hK K
  refine stepS _ rfl (by kernel_rfl) (fun K hK => ?_); go_simp
  refine ⟨?_, ?_⟩
  · intro wk hk hg hu; go_simp; refine upon_enter ((k1.out _).mono ?_); rintro e w' ⟨rfl, hb⟩; exact ⟨_, rfl, left_V (p := fun u => u = .int .i64 c) rfl (hb) rfl⟩
  rintro ⟨v2, lo2, hi2⟩ - - (rfl : v2 = _)
  refine hK _ _ ?_; clear hK K
  refine stepK rfl (by kernel_rfl) (fun K hK => ?_); go_simp
  apply Exists.intro; apply And.intro; (focus (intro wk hk; go_simp; exact ⟨rfl, rfl⟩)); refine hK _ _ ?_; clear hK K
  refine stepK rfl (by kernel_rfl) (fun K hK => ?_); go_simp
  apply Exists.intro; apply And.intro; (focus (intro wk hk; go_simp; exact ⟨rfl, rfl⟩)); refine hK _ _ ?_; clear hK K
  refine stepN ?_
  refine hQ _ _ ?_
  intro w1 hT hG hF
  have hbw1 := hT.undrew.below
  replace r0 := r0.below hbw1 r0.lt
  replace hl := hl.trans (hbw1.mono hl.size)
  clear hT hG hF hbw1 hQ QQ L 
  go_wp2_with fail
  go_ret
  exact ⟨by rw [hh.out] <;> rfl, hl⟩
end Go.Proofs.Ytpdenhmkpiafiaa
