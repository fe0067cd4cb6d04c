/-
 What the statement rests on, part 11: TxRef3.
-/
import Derived.Test.YtpdenhmkpiafiaaQTR7
import Derived.Test.YtpdenhmkpiafiaaQTR8
namespace Go.Proofs.Ytpdenhmkpiafiaa
open Go Go.RowKit K6
theorem take_key {α β : Type} {f : α → β} {l k : List α} {i : Nat} {x y : α} (hx : l[i]? = some x) (hy : k[i]? = some y) (h : (l.take i).map f = (k.take i).map f) (hxy : f x = f y) : (l.take (i + 1)).map f = (k.take (i + 1)).map f := by
 rw [List.take_add_one, List.take_add_one, hx, hy, List.map_append, List.map_append, h]
 congr 1
 show [f x] = [f y]
 rw [hxy]
theorem map_ne {α β : Type} {f : α → β} {l k : List α} {i : Nat} {x y : α} (hx : l[i]? = some x) (hy : k[i]? = some y) (hxy : f x ≠ f y) : l.map f ≠ k.map f := fun h => hxy (by
 have h1 := congrArg (·[i]?) h
 simp only [List.getElem?_map, hx, hy, Option.map_some, Option.some.injEq] at h1
 exact h1)
set_option maxRecDepth 100000 in
set_option maxHeartbeats 64000000 in
theorem rsameClaim_at (c d : Cm) (w : World) (hcO : CmOk w c) (hdO : CmOk w d) (hp : c.p.length ≤ 100000) (hlE : c.l.length ≤ 100000) (hlP : ∀ e ∈ c.l, e.p.length ≤ 100000) :
  Calls Try.prog 214 #[.agg c.cs.toArray, .agg d.cs.toArray] w fun r w' => r = .returned (.bool (decide (c.key = d.key))) ∧ Below w.heap.size w w' := by
 obtain ⟨b, hb⟩ : ∃ b, decide (c.key = d.key) = b := ⟨_, rfl⟩
 rw [hb]
 have kP := fun wx (hbw : Below w.heap.size w wx) => hsRef_at c.pv d.pv c.p d.p wx (hcO.p.below hbw) (hdO.p.below hbw) (fun z hz => (hcO.h z hz).1) (fun z hz => (hdO.h z hz).1) (by omega)
 unfold Cm.pv at kP
 obtain ⟨bp, hbp⟩ : ∃ x, decide (c.p = d.p) = x := ⟨_, rfl⟩
 rw [hbp] at kP
 have HB := Lib.hid (show ((c.r ≠ d.r ∨ c.x ≠ d.x ∨ c.e ≠ d.e ∨ c.z ≠ d.z ∨ c.tok ≠ d.tok ∨ bp = false ∨ c.l.map Lf.key ≠ d.l.map Lf.key) → b = false) ∧ (c.r = d.r → c.x = d.x → c.e = d.e → c.z = d.z → c.tok = d.tok → bp = true → c.l.map Lf.key = d.l.map Lf.key → b = true) from by
  subst hb hbp
  constructor
  ·intro h
   refine decide_eq_false fun he => ?_
   unfold Cm.key at he
   simp only [Prod.mk.injEq] at he
   obtain ⟨e1, e2, e3, e4, e5, e6, e7⟩ := he
   rcases h with h | h | h | h | h | h | h
   ·exact h e1
   ·exact h e2
   ·exact h e3
   ·exact h e5
   ·exact h e4
   ·rw [decide_eq_true e6] at h; cases h
   ·exact h e7
  ·intro e1 e2 e3 e5 e4 e6 e7
   refine decide_eq_true ?_
   unfold Cm.key
   rw [e1, e2, e3, e4, e5, of_decide_eq_true e6, e7])
 have q1 : ∀ wx, (Op.equalIn 10000 35 (.agg (bv c.tok).toArray) (.agg (bv d.tok).toArray)).run Try.prog wx = .ok (decide (c.tok = d.tok)) wx := fun wx => eqH hcO.tok hdO.tok wx
 have HC := hcO.l
 have HD := hdO.l
 unfold Cm.lv at HC HD
 have x0 := cA0 c
 have x1 := cA1 c
 have x2 := cA2 c
 have x4 := cA35 hcO.tok
 have x5 := cA36 hcO.tok
 have x6 := cA37 hcO.tok
 have xt := Cm.tok_ hcO.tok
 have xs : (bv c.tok).toArray.size = 32 := bv_arr hcO.tok
 have y0 := cA0 d
 have y1 := cA1 d
 have y2 := cA2 d
 have y4 := cA35 hdO.tok
 have y5 := cA36 hdO.tok
 have y6 := cA37 hdO.tok
 have yt := Cm.tok_ hdO.tok
 have ys : (bv d.tok).toArray.size = 32 := bv_arr hdO.tok
 obtain ⟨np1, hnp1⟩ : ∃ q, c.p.length = q := ⟨_, rfl⟩
 obtain ⟨nl1, hnl1⟩ : ∃ q, c.l.length = q := ⟨_, rfl⟩
 obtain ⟨pq1, hpq1⟩ : ∃ q, c.pq = q := ⟨_, rfl⟩
 obtain ⟨pc1, hpc1⟩ : ∃ q, c.pc = q := ⟨_, rfl⟩
 obtain ⟨lq1, hlq1⟩ : ∃ q, c.lq = q := ⟨_, rfl⟩
 obtain ⟨lc1, hlc1⟩ : ∃ q, c.lc = q := ⟨_, rfl⟩
 obtain ⟨l1, hl1⟩ : ∃ q, c.l = q := ⟨_, rfl⟩
 obtain ⟨cs1, hcs1⟩ : ∃ q, c.cs.toArray = q := ⟨_, rfl⟩
 obtain ⟨tk1, htk1⟩ : ∃ q, (bv c.tok).toArray = q := ⟨_, rfl⟩
 obtain ⟨cr, hcr⟩ : ∃ q, c.r = q := ⟨_, rfl⟩
 obtain ⟨cx, hcx⟩ : ∃ q, c.x = q := ⟨_, rfl⟩
 obtain ⟨ce, hce⟩ : ∃ q, c.e = q := ⟨_, rfl⟩
 obtain ⟨cz, hcz⟩ : ∃ q, c.z = q := ⟨_, rfl⟩
 obtain ⟨ct, hct⟩ : ∃ q, c.tok = q := ⟨_, rfl⟩
 obtain ⟨np2, hnp2⟩ : ∃ q, d.p.length = q := ⟨_, rfl⟩
 obtain ⟨nl2, hnl2⟩ : ∃ q, d.l.length = q := ⟨_, rfl⟩
 obtain ⟨pq2, hpq2⟩ : ∃ q, d.pq = q := ⟨_, rfl⟩
 obtain ⟨pc2, hpc2⟩ : ∃ q, d.pc = q := ⟨_, rfl⟩
 obtain ⟨lq2, hlq2⟩ : ∃ q, d.lq = q := ⟨_, rfl⟩
 obtain ⟨lc2, hlc2⟩ : ∃ q, d.lc = q := ⟨_, rfl⟩
 obtain ⟨l2, hl2⟩ : ∃ q, d.l = q := ⟨_, rfl⟩
 obtain ⟨cs2, hcs2⟩ : ∃ q, d.cs.toArray = q := ⟨_, rfl⟩
 obtain ⟨tk2, htk2⟩ : ∃ q, (bv d.tok).toArray = q := ⟨_, rfl⟩
 obtain ⟨dr, hdr⟩ : ∃ q, d.r = q := ⟨_, rfl⟩
 obtain ⟨dx, hdx⟩ : ∃ q, d.x = q := ⟨_, rfl⟩
 obtain ⟨de, hde⟩ : ∃ q, d.e = q := ⟨_, rfl⟩
 obtain ⟨dz, hdz⟩ : ∃ q, d.z = q := ⟨_, rfl⟩
 obtain ⟨dt, hdt⟩ : ∃ q, d.tok = q := ⟨_, rfl⟩
 rw [hnp1] at hp x4 kP
 rw [hnp2] at y4 kP
 rw [hpq1, hpc1] at x4 kP
 rw [hpq2, hpc2] at y4 kP
 rw [hnl1, hlq1, hlc1] at x5 HC
 rw [hnl2, hlq2, hlc2] at y5 HD
 rw [hnl1] at hlE
 rw [hcs1] at x0 x1 x2 x4 x5 x6 xt ⊢
 rw [hcs2] at y0 y1 y2 y4 y5 y6 yt ⊢
 rw [htk1] at xt xs q1
 rw [htk2] at yt ys q1
 rw [hcr] at x0 HB
 rw [hdr] at y0 HB
 rw [hcx] at x1 HB
 rw [hdx] at y1 HB
 rw [hce] at x2 HB
 rw [hde] at y2 HB
 rw [hcz] at x6 HB
 rw [hdz] at y6 HB
 rw [hct] at q1 HB
 rw [hdt] at q1 HB
 rw [hl1] at HC HB hlP hnl1
 rw [hl2] at HD HB hnl2
 have HLL := Lib.hid (show _ ∧ _ ∧ _ ∧ _ ∧ _ from ⟨HC, HD, hlP, hnl1, hnl2⟩)
 replace kP := Lib.hid kP
 clear hb hbp hnp1 hnp2 hpq1 hpq2 hpc1 hpc2 hnl1 hnl2 hlq1 hlq2 hlc1 hlc2 hl1 hl2 hcs1 hcs2 htk1 htk2 hcr hdr hcx hdx hce hde hcz hdz hct hdt hcO hdO hp hlP HC HD
 have hni : (nl1 : Int) ≤ 100000 := by omega
 clear hlE
 go_enter Try.func214, Try.ntmps214
 go_upto_region 1 with (fail)
 refine wp_abs (Mem w [(w.heap.size, 114, cs1), (w.heap.size + 1, 114, cs2)]) ⟨by go_grown, by (repeat (first | (refine Row.new_at ?_; simp; done) | refine Row.alloc ?_ _)), by (repeat (first | (refine Row.new_at ?_; simp; done) | refine Row.alloc ?_ _)), trivial⟩ ?_
 intro w0 hM
 obtain ⟨hl, r2, r3, -⟩ := hM
 by_cases e0 : cr = dr
 case neg =>
  have h0 : (cr != dr) = true := by rw [bne_iff_ne]; exact e0
  have hbb := HB.out.1 (.inl e0)
  subst hbb
  clear HB HLL kP q1 e0
  let L : List Sp := []
  refine wp_region_six0 (shs L) (look6 L) (None_) (by kernel_rfl) (by kernel_rfl) (mk_St L [] [] (by kernel_rfl) (by kernel_rfl) trivial (by simp)) ?_
  intro QQ hQ
  refine stepK rfl (by kernel_rfl) (fun K hK => ?_); go_simp
  apply Exists.intro; apply And.intro; (focus (intro wk hk; go_simp; exact ⟨rfl, rfl⟩)); refine hK _ _ ?_; clear hK K
  refine stepK rfl (by kernel_rfl) (fun K hK => ?_); go_simp
  apply Exists.intro; apply And.intro; (focus (intro wk hk; have cc : wk.cell? ⟨w.heap.size, 0, none⟩ = some (.int .i64 cr) := ((K6.Row.tr r2 hk id).cell 0).trans x0; go_simp; exact ⟨rfl, rfl⟩)); refine hK _ _ ?_; clear hK K
  refine stepK rfl (by kernel_rfl) (fun K hK => ?_); go_simp
  apply Exists.intro; apply And.intro; (focus (intro wk hk; go_simp; exact ⟨rfl, rfl⟩)); refine hK _ _ ?_; clear hK K
  refine stepK rfl (by kernel_rfl) (fun K hK => ?_); go_simp
  apply Exists.intro; apply And.intro; (focus (intro wk hk; have cc : wk.cell? ⟨w.heap.size + 1, 0, none⟩ = some (.int .i64 dr) := ((K6.Row.tr r3 hk id).cell 0).trans y0; go_simp; exact ⟨rfl, rfl⟩)); refine hK _ _ ?_; clear hK K
  iterate 2 (refine stepK rfl (by kernel_rfl) (fun K hK => ?_); go_simp; apply Exists.intro; apply And.intro; (focus (intro wk hk; go_simp; exact ⟨rfl, rfl⟩)); refine hK _ _ ?_; clear hK K)
  iterate 5 (refine stepK rfl (by kernel_rfl) (fun K hK => ?_); go_simp; (first | (refine hK _ _ ?_; clear hK K) | (apply Exists.intro; apply And.intro; (focus (intro wk hk; go_simp; exact ⟨rfl, rfl⟩)); refine hK _ _ ?_; clear hK K)))
  iterate 2 (refine stepK rfl (by kernel_rfl) (fun K hK => ?_); go_simp; apply Exists.intro; apply And.intro; (focus (intro wk hk; go_simp; exact ⟨rfl, rfl⟩)); refine hK _ _ ?_; clear hK K)
  iterate 5 (refine stepK rfl (by kernel_rfl) (fun K hK => ?_); go_simp; (first | (refine hK _ _ ?_; clear hK K) | (apply Exists.intro; apply And.intro; (focus (intro wk hk; go_simp; exact ⟨rfl, rfl⟩)); refine hK _ _ ?_; clear hK K)))
  iterate 2 (refine stepK rfl (by kernel_rfl) (fun K hK => ?_); go_simp; apply Exists.intro; apply And.intro; (focus (intro wk hk; go_simp; exact ⟨rfl, rfl⟩)); refine hK _ _ ?_; clear hK K)
  iterate 5 (refine stepK rfl (by kernel_rfl) (fun K hK => ?_); go_simp; (first | (refine hK _ _ ?_; clear hK K) | (apply Exists.intro; apply And.intro; (focus (intro wk hk; go_simp; exact ⟨rfl, rfl⟩)); refine hK _ _ ?_; clear hK K)))
  iterate 2 (refine stepK rfl (by kernel_rfl) (fun K hK => ?_); go_simp; apply Exists.intro; apply And.intro; (focus (intro wk hk; go_simp; exact ⟨rfl, rfl⟩)); refine hK _ _ ?_; clear hK K)
  iterate 5 (refine stepK rfl (by kernel_rfl) (fun K hK => ?_); go_simp; (first | (refine hK _ _ ?_; clear hK K) | (apply Exists.intro; apply And.intro; (focus (intro wk hk; go_simp; exact ⟨rfl, rfl⟩)); refine hK _ _ ?_; clear hK K)))
  iterate 2 (refine stepK rfl (by kernel_rfl) (fun K hK => ?_); go_simp; apply Exists.intro; apply And.intro; (focus (intro wk hk; go_simp; exact ⟨rfl, rfl⟩)); refine hK _ _ ?_; clear hK K)
  iterate 6 (refine stepK rfl (by kernel_rfl) (fun K hK => ?_); go_simp; (first | (refine hK _ _ ?_; clear hK K) | (apply Exists.intro; apply And.intro; (focus (intro wk hk; go_simp; exact ⟨rfl, rfl⟩)); refine hK _ _ ?_; clear hK K)))
  iterate 2 (refine stepK rfl (by kernel_rfl) (fun K hK => ?_); go_simp; apply Exists.intro; apply And.intro; (focus (intro wk hk; go_simp; exact ⟨rfl, rfl⟩)); refine hK _ _ ?_; clear hK K)
  iterate 7 (refine stepK rfl (by kernel_rfl) (fun K hK => ?_); go_simp; (first | (refine hK _ _ ?_; clear hK K) | (apply Exists.intro; apply And.intro; (focus (intro wk hk; go_simp; exact ⟨rfl, rfl⟩)); refine hK _ _ ?_; clear hK K)))
  refine stepK rfl (by kernel_rfl) (fun K hK => ?_); go_simp
  apply Exists.intro; apply And.intro; (focus (intro wk hk; go_simp; exact ⟨rfl, rfl⟩)); refine hK _ _ ?_; clear hK K
  refine stepN ?_
  refine hQ _ _ ?_
  intro w9 hT hG hF
  have hb9 := hT.below
  have H9 := Lib.hid (hl.trans (hb9.mono hl.size))
  clear hT hG hF hQ QQ L hl r2 r3 hb9
  go_wp2_with fail
  go_ret
  exact ⟨rfl, H9.out⟩
 have h0 : (cr != dr) = false := by rw [e0]; exact bne_self_eq_false _
 by_cases e1 : cx = dx
 case neg =>
  have h1 : (cx != dx) = true := by rw [bne_iff_ne]; exact e1
  have hbb := HB.out.1 (.inr (.inl e1))
  subst hbb
  clear HB HLL kP q1 e0 e1
  let L : List Sp := []
  refine wp_region_six0 (shs L) (look6 L) (None_) (by kernel_rfl) (by kernel_rfl) (mk_St L [] [] (by kernel_rfl) (by kernel_rfl) trivial (by simp)) ?_
  intro QQ hQ
  refine stepK rfl (by kernel_rfl) (fun K hK => ?_); go_simp
  apply Exists.intro; apply And.intro; (focus (intro wk hk; go_simp; exact ⟨rfl, rfl⟩)); refine hK _ _ ?_; clear hK K
  refine stepK rfl (by kernel_rfl) (fun K hK => ?_); go_simp
  apply Exists.intro; apply And.intro; (focus (intro wk hk; have cc : wk.cell? ⟨w.heap.size, 0, none⟩ = some (.int .i64 cr) := ((K6.Row.tr r2 hk id).cell 0).trans x0; go_simp; exact ⟨rfl, rfl⟩)); refine hK _ _ ?_; clear hK K
  refine stepK rfl (by kernel_rfl) (fun K hK => ?_); go_simp
  apply Exists.intro; apply And.intro; (focus (intro wk hk; go_simp; exact ⟨rfl, rfl⟩)); refine hK _ _ ?_; clear hK K
  refine stepK rfl (by kernel_rfl) (fun K hK => ?_); go_simp
  apply Exists.intro; apply And.intro; (focus (intro wk hk; have cc : wk.cell? ⟨w.heap.size + 1, 0, none⟩ = some (.int .i64 dr) := ((K6.Row.tr r3 hk id).cell 0).trans y0; go_simp; exact ⟨rfl, rfl⟩)); refine hK _ _ ?_; clear hK K
  iterate 2 (refine stepK rfl (by kernel_rfl) (fun K hK => ?_); go_simp; apply Exists.intro; apply And.intro; (focus (intro wk hk; go_simp; exact ⟨rfl, rfl⟩)); refine hK _ _ ?_; clear hK K)
  refine stepK rfl (by kernel_rfl) (fun K hK => ?_); go_simp
  first | (refine hK _ _ ?_; clear hK K) | (apply Exists.intro; apply And.intro; (focus (intro wk hk; go_simp; exact ⟨rfl, rfl⟩)); refine hK _ _ ?_; clear hK K)
  refine stepK rfl (by kernel_rfl) (fun K hK => ?_); go_simp
  first | (refine hK _ _ ?_; clear hK K) | (apply Exists.intro; apply And.intro; (focus (intro wk hk; have cc : wk.cell? ⟨w.heap.size, 1, none⟩ = some (.int .i64 cx) := ((K6.Row.tr r2 hk id).cell 1).trans x1; go_simp; exact ⟨rfl, rfl⟩)); refine hK _ _ ?_; clear hK K)
  refine stepK rfl (by kernel_rfl) (fun K hK => ?_); go_simp
  first | (refine hK _ _ ?_; clear hK K) | (apply Exists.intro; apply And.intro; (focus (intro wk hk; go_simp; exact ⟨rfl, rfl⟩)); refine hK _ _ ?_; clear hK K)
  refine stepK rfl (by kernel_rfl) (fun K hK => ?_); go_simp
  first | (refine hK _ _ ?_; clear hK K) | (apply Exists.intro; apply And.intro; (focus (intro wk hk; have cc : wk.cell? ⟨w.heap.size + 1, 1, none⟩ = some (.int .i64 dx) := ((K6.Row.tr r3 hk id).cell 1).trans y1; go_simp; exact ⟨rfl, rfl⟩)); refine hK _ _ ?_; clear hK K)
  refine stepK rfl (by kernel_rfl) (fun K hK => ?_); go_simp
  first | (refine hK _ _ ?_; clear hK K) | (apply Exists.intro; apply And.intro; (focus (intro wk hk; go_simp; exact ⟨rfl, rfl⟩)); refine hK _ _ ?_; clear hK K)
  iterate 2 (refine stepK rfl (by kernel_rfl) (fun K hK => ?_); go_simp; apply Exists.intro; apply And.intro; (focus (intro wk hk; go_simp; exact ⟨rfl, rfl⟩)); refine hK _ _ ?_; clear hK K)
  iterate 5 (refine stepK rfl (by kernel_rfl) (fun K hK => ?_); go_simp; (first | (refine hK _ _ ?_; clear hK K) | (apply Exists.intro; apply And.intro; (focus (intro wk hk; go_simp; exact ⟨rfl, rfl⟩)); refine hK _ _ ?_; clear hK K)))
  iterate 2 (refine stepK rfl (by kernel_rfl) (fun K hK => ?_); go_simp; apply Exists.intro; apply And.intro; (focus (intro wk hk; go_simp; exact ⟨rfl, rfl⟩)); refine hK _ _ ?_; clear hK K)
  iterate 5 (refine stepK rfl (by kernel_rfl) (fun K hK => ?_); go_simp; (first | (refine hK _ _ ?_; clear hK K) | (apply Exists.intro; apply And.intro; (focus (intro wk hk; go_simp; exact ⟨rfl, rfl⟩)); refine hK _ _ ?_; clear hK K)))
  iterate 2 (refine stepK rfl (by kernel_rfl) (fun K hK => ?_); go_simp; apply Exists.intro; apply And.intro; (focus (intro wk hk; go_simp; exact ⟨rfl, rfl⟩)); refine hK _ _ ?_; clear hK K)
  iterate 5 (refine stepK rfl (by kernel_rfl) (fun K hK => ?_); go_simp; (first | (refine hK _ _ ?_; clear hK K) | (apply Exists.intro; apply And.intro; (focus (intro wk hk; go_simp; exact ⟨rfl, rfl⟩)); refine hK _ _ ?_; clear hK K)))
  iterate 2 (refine stepK rfl (by kernel_rfl) (fun K hK => ?_); go_simp; apply Exists.intro; apply And.intro; (focus (intro wk hk; go_simp; exact ⟨rfl, rfl⟩)); refine hK _ _ ?_; clear hK K)
  iterate 6 (refine stepK rfl (by kernel_rfl) (fun K hK => ?_); go_simp; (first | (refine hK _ _ ?_; clear hK K) | (apply Exists.intro; apply And.intro; (focus (intro wk hk; go_simp; exact ⟨rfl, rfl⟩)); refine hK _ _ ?_; clear hK K)))
  iterate 2 (refine stepK rfl (by kernel_rfl) (fun K hK => ?_); go_simp; apply Exists.intro; apply And.intro; (focus (intro wk hk; go_simp; exact ⟨rfl, rfl⟩)); refine hK _ _ ?_; clear hK K)
  iterate 7 (refine stepK rfl (by kernel_rfl) (fun K hK => ?_); go_simp; (first | (refine hK _ _ ?_; clear hK K) | (apply Exists.intro; apply And.intro; (focus (intro wk hk; go_simp; exact ⟨rfl, rfl⟩)); refine hK _ _ ?_; clear hK K)))
  refine stepK rfl (by kernel_rfl) (fun K hK => ?_); go_simp
  apply Exists.intro; apply And.intro; (focus (intro wk hk; go_simp; exact ⟨rfl, rfl⟩)); refine hK _ _ ?_; clear hK K
  refine stepN ?_
  refine hQ _ _ ?_
  intro w9 hT hG hF
  have hb9 := hT.below
  have H9 := Lib.hid (hl.trans (hb9.mono hl.size))
  clear hT hG hF hQ QQ L hl r2 r3 hb9
  go_wp2_with fail
  go_ret
  exact ⟨rfl, H9.out⟩
 have h1 : (cx != dx) = false := by rw [e1]; exact bne_self_eq_false _
 by_cases e2 : ce = de
 case neg =>
  have h2 : (ce != de) = true := by rw [bne_iff_ne]; exact e2
  have hbb := HB.out.1 (.inr (.inr (.inl e2)))
  subst hbb
  clear HB HLL kP q1 e0 e1 e2
  let L : List Sp := []
  refine wp_region_six0 (shs L) (look6 L) (None_) (by kernel_rfl) (by kernel_rfl) (mk_St L [] [] (by kernel_rfl) (by kernel_rfl) trivial (by simp)) ?_
  intro QQ hQ
  refine stepK rfl (by kernel_rfl) (fun K hK => ?_); go_simp
  apply Exists.intro; apply And.intro; (focus (intro wk hk; go_simp; exact ⟨rfl, rfl⟩)); refine hK _ _ ?_; clear hK K
  refine stepK rfl (by kernel_rfl) (fun K hK => ?_); go_simp
  apply Exists.intro; apply And.intro; (focus (intro wk hk; have cc : wk.cell? ⟨w.heap.size, 0, none⟩ = some (.int .i64 cr) := ((K6.Row.tr r2 hk id).cell 0).trans x0; go_simp; exact ⟨rfl, rfl⟩)); refine hK _ _ ?_; clear hK K
  refine stepK rfl (by kernel_rfl) (fun K hK => ?_); go_simp
  apply Exists.intro; apply And.intro; (focus (intro wk hk; go_simp; exact ⟨rfl, rfl⟩)); refine hK _ _ ?_; clear hK K
  refine stepK rfl (by kernel_rfl) (fun K hK => ?_); go_simp
  apply Exists.intro; apply And.intro; (focus (intro wk hk; have cc : wk.cell? ⟨w.heap.size + 1, 0, none⟩ = some (.int .i64 dr) := ((K6.Row.tr r3 hk id).cell 0).trans y0; go_simp; exact ⟨rfl, rfl⟩)); refine hK _ _ ?_; clear hK K
  iterate 2 (refine stepK rfl (by kernel_rfl) (fun K hK => ?_); go_simp; apply Exists.intro; apply And.intro; (focus (intro wk hk; go_simp; exact ⟨rfl, rfl⟩)); refine hK _ _ ?_; clear hK K)
  refine stepK rfl (by kernel_rfl) (fun K hK => ?_); go_simp
  first | (refine hK _ _ ?_; clear hK K) | (apply Exists.intro; apply And.intro; (focus (intro wk hk; go_simp; exact ⟨rfl, rfl⟩)); refine hK _ _ ?_; clear hK K)
  refine stepK rfl (by kernel_rfl) (fun K hK => ?_); go_simp
  first | (refine hK _ _ ?_; clear hK K) | (apply Exists.intro; apply And.intro; (focus (intro wk hk; have cc : wk.cell? ⟨w.heap.size, 1, none⟩ = some (.int .i64 cx) := ((K6.Row.tr r2 hk id).cell 1).trans x1; go_simp; exact ⟨rfl, rfl⟩)); refine hK _ _ ?_; clear hK K)
  refine stepK rfl (by kernel_rfl) (fun K hK => ?_); go_simp
  first | (refine hK _ _ ?_; clear hK K) | (apply Exists.intro; apply And.intro; (focus (intro wk hk; go_simp; exact ⟨rfl, rfl⟩)); refine hK _ _ ?_; clear hK K)
  refine stepK rfl (by kernel_rfl) (fun K hK => ?_); go_simp
  first | (refine hK _ _ ?_; clear hK K) | (apply Exists.intro; apply And.intro; (focus (intro wk hk; have cc : wk.cell? ⟨w.heap.size + 1, 1, none⟩ = some (.int .i64 dx) := ((K6.Row.tr r3 hk id).cell 1).trans y1; go_simp; exact ⟨rfl, rfl⟩)); refine hK _ _ ?_; clear hK K)
  refine stepK rfl (by kernel_rfl) (fun K hK => ?_); go_simp
  first | (refine hK _ _ ?_; clear hK K) | (apply Exists.intro; apply And.intro; (focus (intro wk hk; go_simp; exact ⟨rfl, rfl⟩)); refine hK _ _ ?_; clear hK K)
  iterate 2 (refine stepK rfl (by kernel_rfl) (fun K hK => ?_); go_simp; apply Exists.intro; apply And.intro; (focus (intro wk hk; go_simp; exact ⟨rfl, rfl⟩)); refine hK _ _ ?_; clear hK K)
  refine stepK rfl (by kernel_rfl) (fun K hK => ?_); go_simp
  first | (refine hK _ _ ?_; clear hK K) | (apply Exists.intro; apply And.intro; (focus (intro wk hk; go_simp; exact ⟨rfl, rfl⟩)); refine hK _ _ ?_; clear hK K)
  refine stepK rfl (by kernel_rfl) (fun K hK => ?_); go_simp
  first | (refine hK _ _ ?_; clear hK K) | (apply Exists.intro; apply And.intro; (focus (intro wk hk; have cc : wk.cell? ⟨w.heap.size, 2, none⟩ = some (.int .i64 ce) := ((K6.Row.tr r2 hk id).cell 2).trans x2; go_simp; exact ⟨rfl, rfl⟩)); refine hK _ _ ?_; clear hK K)
  refine stepK rfl (by kernel_rfl) (fun K hK => ?_); go_simp
  first | (refine hK _ _ ?_; clear hK K) | (apply Exists.intro; apply And.intro; (focus (intro wk hk; go_simp; exact ⟨rfl, rfl⟩)); refine hK _ _ ?_; clear hK K)
  refine stepK rfl (by kernel_rfl) (fun K hK => ?_); go_simp
  first | (refine hK _ _ ?_; clear hK K) | (apply Exists.intro; apply And.intro; (focus (intro wk hk; have cc : wk.cell? ⟨w.heap.size + 1, 2, none⟩ = some (.int .i64 de) := ((K6.Row.tr r3 hk id).cell 2).trans y2; go_simp; exact ⟨rfl, rfl⟩)); refine hK _ _ ?_; clear hK K)
  refine stepK rfl (by kernel_rfl) (fun K hK => ?_); go_simp
  first | (refine hK _ _ ?_; clear hK K) | (apply Exists.intro; apply And.intro; (focus (intro wk hk; go_simp; exact ⟨rfl, rfl⟩)); refine hK _ _ ?_; clear hK K)
  iterate 2 (refine stepK rfl (by kernel_rfl) (fun K hK => ?_); go_simp; apply Exists.intro; apply And.intro; (focus (intro wk hk; go_simp; exact ⟨rfl, rfl⟩)); refine hK _ _ ?_; clear hK K)
  iterate 5 (refine stepK rfl (by kernel_rfl) (fun K hK => ?_); go_simp; (first | (refine hK _ _ ?_; clear hK K) | (apply Exists.intro; apply And.intro; (focus (intro wk hk; go_simp; exact ⟨rfl, rfl⟩)); refine hK _ _ ?_; clear hK K)))
  iterate 2 (refine stepK rfl (by kernel_rfl) (fun K hK => ?_); go_simp; apply Exists.intro; apply And.intro; (focus (intro wk hk; go_simp; exact ⟨rfl, rfl⟩)); refine hK _ _ ?_; clear hK K)
  iterate 5 (refine stepK rfl (by kernel_rfl) (fun K hK => ?_); go_simp; (first | (refine hK _ _ ?_; clear hK K) | (apply Exists.intro; apply And.intro; (focus (intro wk hk; go_simp; exact ⟨rfl, rfl⟩)); refine hK _ _ ?_; clear hK K)))
  iterate 2 (refine stepK rfl (by kernel_rfl) (fun K hK => ?_); go_simp; apply Exists.intro; apply And.intro; (focus (intro wk hk; go_simp; exact ⟨rfl, rfl⟩)); refine hK _ _ ?_; clear hK K)
  iterate 6 (refine stepK rfl (by kernel_rfl) (fun K hK => ?_); go_simp; (first | (refine hK _ _ ?_; clear hK K) | (apply Exists.intro; apply And.intro; (focus (intro wk hk; go_simp; exact ⟨rfl, rfl⟩)); refine hK _ _ ?_; clear hK K)))
  iterate 2 (refine stepK rfl (by kernel_rfl) (fun K hK => ?_); go_simp; apply Exists.intro; apply And.intro; (focus (intro wk hk; go_simp; exact ⟨rfl, rfl⟩)); refine hK _ _ ?_; clear hK K)
  iterate 7 (refine stepK rfl (by kernel_rfl) (fun K hK => ?_); go_simp; (first | (refine hK _ _ ?_; clear hK K) | (apply Exists.intro; apply And.intro; (focus (intro wk hk; go_simp; exact ⟨rfl, rfl⟩)); refine hK _ _ ?_; clear hK K)))
  refine stepK rfl (by kernel_rfl) (fun K hK => ?_); go_simp
  apply Exists.intro; apply And.intro; (focus (intro wk hk; go_simp; exact ⟨rfl, rfl⟩)); refine hK _ _ ?_; clear hK K
  refine stepN ?_
  refine hQ _ _ ?_
  intro w9 hT hG hF
  have hb9 := hT.below
  have H9 := Lib.hid (hl.trans (hb9.mono hl.size))
  clear hT hG hF hQ QQ L hl r2 r3 hb9
  go_wp2_with fail
  go_ret
  exact ⟨rfl, H9.out⟩
 have h2 : (ce != de) = false := by rw [e2]; exact bne_self_eq_false _
 by_cases e3 : cz = dz
 case neg =>
  have h3 : (cz != dz) = true := by rw [bne_iff_ne]; exact e3
  have hbb := HB.out.1 (.inr (.inr (.inr (.inl e3))))
  subst hbb
  clear HB HLL kP q1 e0 e1 e2 e3
  let L : List Sp := []
  refine wp_region_six0 (shs L) (look6 L) (None_) (by kernel_rfl) (by kernel_rfl) (mk_St L [] [] (by kernel_rfl) (by kernel_rfl) trivial (by simp)) ?_
  intro QQ hQ
  refine stepK rfl (by kernel_rfl) (fun K hK => ?_); go_simp
  apply Exists.intro; apply And.intro; (focus (intro wk hk; go_simp; exact ⟨rfl, rfl⟩)); refine hK _ _ ?_; clear hK K
  refine stepK rfl (by kernel_rfl) (fun K hK => ?_); go_simp
  apply Exists.intro; apply And.intro; (focus (intro wk hk; have cc : wk.cell? ⟨w.heap.size, 0, none⟩ = some (.int .i64 cr) := ((K6.Row.tr r2 hk id).cell 0).trans x0; go_simp; exact ⟨rfl, rfl⟩)); refine hK _ _ ?_; clear hK K
  refine stepK rfl (by kernel_rfl) (fun K hK => ?_); go_simp
  apply Exists.intro; apply And.intro; (focus (intro wk hk; go_simp; exact ⟨rfl, rfl⟩)); refine hK _ _ ?_; clear hK K
  refine stepK rfl (by kernel_rfl) (fun K hK => ?_); go_simp
  apply Exists.intro; apply And.intro; (focus (intro wk hk; have cc : wk.cell? ⟨w.heap.size + 1, 0, none⟩ = some (.int .i64 dr) := ((K6.Row.tr r3 hk id).cell 0).trans y0; go_simp; exact ⟨rfl, rfl⟩)); refine hK _ _ ?_; clear hK K
  iterate 2 (refine stepK rfl (by kernel_rfl) (fun K hK => ?_); go_simp; apply Exists.intro; apply And.intro; (focus (intro wk hk; go_simp; exact ⟨rfl, rfl⟩)); refine hK _ _ ?_; clear hK K)
  refine stepK rfl (by kernel_rfl) (fun K hK => ?_); go_simp
  first | (refine hK _ _ ?_; clear hK K) | (apply Exists.intro; apply And.intro; (focus (intro wk hk; go_simp; exact ⟨rfl, rfl⟩)); refine hK _ _ ?_; clear hK K)
  refine stepK rfl (by kernel_rfl) (fun K hK => ?_); go_simp
  first | (refine hK _ _ ?_; clear hK K) | (apply Exists.intro; apply And.intro; (focus (intro wk hk; have cc : wk.cell? ⟨w.heap.size, 1, none⟩ = some (.int .i64 cx) := ((K6.Row.tr r2 hk id).cell 1).trans x1; go_simp; exact ⟨rfl, rfl⟩)); refine hK _ _ ?_; clear hK K)
  refine stepK rfl (by kernel_rfl) (fun K hK => ?_); go_simp
  first | (refine hK _ _ ?_; clear hK K) | (apply Exists.intro; apply And.intro; (focus (intro wk hk; go_simp; exact ⟨rfl, rfl⟩)); refine hK _ _ ?_; clear hK K)
  refine stepK rfl (by kernel_rfl) (fun K hK => ?_); go_simp
  first | (refine hK _ _ ?_; clear hK K) | (apply Exists.intro; apply And.intro; (focus (intro wk hk; have cc : wk.cell? ⟨w.heap.size + 1, 1, none⟩ = some (.int .i64 dx) := ((K6.Row.tr r3 hk id).cell 1).trans y1; go_simp; exact ⟨rfl, rfl⟩)); refine hK _ _ ?_; clear hK K)
  refine stepK rfl (by kernel_rfl) (fun K hK => ?_); go_simp
  first | (refine hK _ _ ?_; clear hK K) | (apply Exists.intro; apply And.intro; (focus (intro wk hk; go_simp; exact ⟨rfl, rfl⟩)); refine hK _ _ ?_; clear hK K)
  iterate 2 (refine stepK rfl (by kernel_rfl) (fun K hK => ?_); go_simp; apply Exists.intro; apply And.intro; (focus (intro wk hk; go_simp; exact ⟨rfl, rfl⟩)); refine hK _ _ ?_; clear hK K)
  refine stepK rfl (by kernel_rfl) (fun K hK => ?_); go_simp
  first | (refine hK _ _ ?_; clear hK K) | (apply Exists.intro; apply And.intro; (focus (intro wk hk; go_simp; exact ⟨rfl, rfl⟩)); refine hK _ _ ?_; clear hK K)
  refine stepK rfl (by kernel_rfl) (fun K hK => ?_); go_simp
  first | (refine hK _ _ ?_; clear hK K) | (apply Exists.intro; apply And.intro; (focus (intro wk hk; have cc : wk.cell? ⟨w.heap.size, 2, none⟩ = some (.int .i64 ce) := ((K6.Row.tr r2 hk id).cell 2).trans x2; go_simp; exact ⟨rfl, rfl⟩)); refine hK _ _ ?_; clear hK K)
  refine stepK rfl (by kernel_rfl) (fun K hK => ?_); go_simp
  first | (refine hK _ _ ?_; clear hK K) | (apply Exists.intro; apply And.intro; (focus (intro wk hk; go_simp; exact ⟨rfl, rfl⟩)); refine hK _ _ ?_; clear hK K)
  refine stepK rfl (by kernel_rfl) (fun K hK => ?_); go_simp
  first | (refine hK _ _ ?_; clear hK K) | (apply Exists.intro; apply And.intro; (focus (intro wk hk; have cc : wk.cell? ⟨w.heap.size + 1, 2, none⟩ = some (.int .i64 de) := ((K6.Row.tr r3 hk id).cell 2).trans y2; go_simp; exact ⟨rfl, rfl⟩)); refine hK _ _ ?_; clear hK K)
  refine stepK rfl (by kernel_rfl) (fun K hK => ?_); go_simp
  first | (refine hK _ _ ?_; clear hK K) | (apply Exists.intro; apply And.intro; (focus (intro wk hk; go_simp; exact ⟨rfl, rfl⟩)); refine hK _ _ ?_; clear hK K)
  iterate 2 (refine stepK rfl (by kernel_rfl) (fun K hK => ?_); go_simp; apply Exists.intro; apply And.intro; (focus (intro wk hk; go_simp; exact ⟨rfl, rfl⟩)); refine hK _ _ ?_; clear hK K)
  refine stepK rfl (by kernel_rfl) (fun K hK => ?_); go_simp
  first | (refine hK _ _ ?_; clear hK K) | (apply Exists.intro; apply And.intro; (focus (intro wk hk; go_simp; exact ⟨rfl, rfl⟩)); refine hK _ _ ?_; clear hK K)
  refine stepK rfl (by kernel_rfl) (fun K hK => ?_); go_simp
  first | (refine hK _ _ ?_; clear hK K) | (apply Exists.intro; apply And.intro; (focus (intro wk hk; have cc : wk.cell? ⟨w.heap.size, 37, none⟩ = some (.int .i64 cz) := ((K6.Row.tr r2 hk id).cell 37).trans x6; go_simp; exact ⟨rfl, rfl⟩)); refine hK _ _ ?_; clear hK K)
  refine stepK rfl (by kernel_rfl) (fun K hK => ?_); go_simp
  first | (refine hK _ _ ?_; clear hK K) | (apply Exists.intro; apply And.intro; (focus (intro wk hk; go_simp; exact ⟨rfl, rfl⟩)); refine hK _ _ ?_; clear hK K)
  refine stepK rfl (by kernel_rfl) (fun K hK => ?_); go_simp
  first | (refine hK _ _ ?_; clear hK K) | (apply Exists.intro; apply And.intro; (focus (intro wk hk; have cc : wk.cell? ⟨w.heap.size + 1, 37, none⟩ = some (.int .i64 dz) := ((K6.Row.tr r3 hk id).cell 37).trans y6; go_simp; exact ⟨rfl, rfl⟩)); refine hK _ _ ?_; clear hK K)
  refine stepK rfl (by kernel_rfl) (fun K hK => ?_); go_simp
  first | (refine hK _ _ ?_; clear hK K) | (apply Exists.intro; apply And.intro; (focus (intro wk hk; go_simp; exact ⟨rfl, rfl⟩)); refine hK _ _ ?_; clear hK K)
  iterate 2 (refine stepK rfl (by kernel_rfl) (fun K hK => ?_); go_simp; apply Exists.intro; apply And.intro; (focus (intro wk hk; go_simp; exact ⟨rfl, rfl⟩)); refine hK _ _ ?_; clear hK K)
  iterate 5 (refine stepK rfl (by kernel_rfl) (fun K hK => ?_); go_simp; (first | (refine hK _ _ ?_; clear hK K) | (apply Exists.intro; apply And.intro; (focus (intro wk hk; go_simp; exact ⟨rfl, rfl⟩)); refine hK _ _ ?_; clear hK K)))
  iterate 2 (refine stepK rfl (by kernel_rfl) (fun K hK => ?_); go_simp; apply Exists.intro; apply And.intro; (focus (intro wk hk; go_simp; exact ⟨rfl, rfl⟩)); refine hK _ _ ?_; clear hK K)
  iterate 6 (refine stepK rfl (by kernel_rfl) (fun K hK => ?_); go_simp; (first | (refine hK _ _ ?_; clear hK K) | (apply Exists.intro; apply And.intro; (focus (intro wk hk; go_simp; exact ⟨rfl, rfl⟩)); refine hK _ _ ?_; clear hK K)))
  iterate 2 (refine stepK rfl (by kernel_rfl) (fun K hK => ?_); go_simp; apply Exists.intro; apply And.intro; (focus (intro wk hk; go_simp; exact ⟨rfl, rfl⟩)); refine hK _ _ ?_; clear hK K)
  iterate 7 (refine stepK rfl (by kernel_rfl) (fun K hK => ?_); go_simp; (first | (refine hK _ _ ?_; clear hK K) | (apply Exists.intro; apply And.intro; (focus (intro wk hk; go_simp; exact ⟨rfl, rfl⟩)); refine hK _ _ ?_; clear hK K)))
  refine stepK rfl (by kernel_rfl) (fun K hK => ?_); go_simp
  apply Exists.intro; apply And.intro; (focus (intro wk hk; go_simp; exact ⟨rfl, rfl⟩)); refine hK _ _ ?_; clear hK K
  refine stepN ?_
  refine hQ _ _ ?_
  intro w9 hT hG hF
  have hb9 := hT.below
  have H9 := Lib.hid (hl.trans (hb9.mono hl.size))
  clear hT hG hF hQ QQ L hl r2 r3 hb9
  go_wp2_with fail
  go_ret
  exact ⟨rfl, H9.out⟩
 have h3 : (cz != dz) = false := by rw [e3]; exact bne_self_eq_false _
 by_cases e4 : ct = dt
 case neg =>
  simp only [decide_eq_false e4] at q1
  have hbb := HB.out.1 (.inr (.inr (.inr (.inr (.inl e4)))))
  subst hbb
  clear HB HLL kP e0 e1 e2 e3 e4
  let L : List Sp := []
  refine wp_region_six0 (shs L) (look6 L) (None_) (by kernel_rfl) (by kernel_rfl) (mk_St L [] [] (by kernel_rfl) (by kernel_rfl) trivial (by simp)) ?_
  intro QQ hQ
  refine stepK rfl (by kernel_rfl) (fun K hK => ?_); go_simp
  apply Exists.intro; apply And.intro; (focus (intro wk hk; go_simp; exact ⟨rfl, rfl⟩)); refine hK _ _ ?_; clear hK K
  refine stepK rfl (by kernel_rfl) (fun K hK => ?_); go_simp
  apply Exists.intro; apply And.intro; (focus (intro wk hk; have cc : wk.cell? ⟨w.heap.size, 0, none⟩ = some (.int .i64 cr) := ((K6.Row.tr r2 hk id).cell 0).trans x0; go_simp; exact ⟨rfl, rfl⟩)); refine hK _ _ ?_; clear hK K
  refine stepK rfl (by kernel_rfl) (fun K hK => ?_); go_simp
  apply Exists.intro; apply And.intro; (focus (intro wk hk; go_simp; exact ⟨rfl, rfl⟩)); refine hK _ _ ?_; clear hK K
  refine stepK rfl (by kernel_rfl) (fun K hK => ?_); go_simp
  apply Exists.intro; apply And.intro; (focus (intro wk hk; have cc : wk.cell? ⟨w.heap.size + 1, 0, none⟩ = some (.int .i64 dr) := ((K6.Row.tr r3 hk id).cell 0).trans y0; go_simp; exact ⟨rfl, rfl⟩)); refine hK _ _ ?_; clear hK K
  iterate 2 (refine stepK rfl (by kernel_rfl) (fun K hK => ?_); go_simp; apply Exists.intro; apply And.intro; (focus (intro wk hk; go_simp; exact ⟨rfl, rfl⟩)); refine hK _ _ ?_; clear hK K)
  refine stepK rfl (by kernel_rfl) (fun K hK => ?_); go_simp
  first | (refine hK _ _ ?_; clear hK K) | (apply Exists.intro; apply And.intro; (focus (intro wk hk; go_simp; exact ⟨rfl, rfl⟩)); refine hK _ _ ?_; clear hK K)
  refine stepK rfl (by kernel_rfl) (fun K hK => ?_); go_simp
  first | (refine hK _ _ ?_; clear hK K) | (apply Exists.intro; apply And.intro; (focus (intro wk hk; have cc : wk.cell? ⟨w.heap.size, 1, none⟩ = some (.int .i64 cx) := ((K6.Row.tr r2 hk id).cell 1).trans x1; go_simp; exact ⟨rfl, rfl⟩)); refine hK _ _ ?_; clear hK K)
  refine stepK rfl (by kernel_rfl) (fun K hK => ?_); go_simp
  first | (refine hK _ _ ?_; clear hK K) | (apply Exists.intro; apply And.intro; (focus (intro wk hk; go_simp; exact ⟨rfl, rfl⟩)); refine hK _ _ ?_; clear hK K)
  refine stepK rfl (by kernel_rfl) (fun K hK => ?_); go_simp
  first | (refine hK _ _ ?_; clear hK K) | (apply Exists.intro; apply And.intro; (focus (intro wk hk; have cc : wk.cell? ⟨w.heap.size + 1, 1, none⟩ = some (.int .i64 dx) := ((K6.Row.tr r3 hk id).cell 1).trans y1; go_simp; exact ⟨rfl, rfl⟩)); refine hK _ _ ?_; clear hK K)
  refine stepK rfl (by kernel_rfl) (fun K hK => ?_); go_simp
  first | (refine hK _ _ ?_; clear hK K) | (apply Exists.intro; apply And.intro; (focus (intro wk hk; go_simp; exact ⟨rfl, rfl⟩)); refine hK _ _ ?_; clear hK K)
  iterate 2 (refine stepK rfl (by kernel_rfl) (fun K hK => ?_); go_simp; apply Exists.intro; apply And.intro; (focus (intro wk hk; go_simp; exact ⟨rfl, rfl⟩)); refine hK _ _ ?_; clear hK K)
  refine stepK rfl (by kernel_rfl) (fun K hK => ?_); go_simp
  first | (refine hK _ _ ?_; clear hK K) | (apply Exists.intro; apply And.intro; (focus (intro wk hk; go_simp; exact ⟨rfl, rfl⟩)); refine hK _ _ ?_; clear hK K)
  refine stepK rfl (by kernel_rfl) (fun K hK => ?_); go_simp
  first | (refine hK _ _ ?_; clear hK K) | (apply Exists.intro; apply And.intro; (focus (intro wk hk; have cc : wk.cell? ⟨w.heap.size, 2, none⟩ = some (.int .i64 ce) := ((K6.Row.tr r2 hk id).cell 2).trans x2; go_simp; exact ⟨rfl, rfl⟩)); refine hK _ _ ?_; clear hK K)
  refine stepK rfl (by kernel_rfl) (fun K hK => ?_); go_simp
  first | (refine hK _ _ ?_; clear hK K) | (apply Exists.intro; apply And.intro; (focus (intro wk hk; go_simp; exact ⟨rfl, rfl⟩)); refine hK _ _ ?_; clear hK K)
  refine stepK rfl (by kernel_rfl) (fun K hK => ?_); go_simp
  first | (refine hK _ _ ?_; clear hK K) | (apply Exists.intro; apply And.intro; (focus (intro wk hk; have cc : wk.cell? ⟨w.heap.size + 1, 2, none⟩ = some (.int .i64 de) := ((K6.Row.tr r3 hk id).cell 2).trans y2; go_simp; exact ⟨rfl, rfl⟩)); refine hK _ _ ?_; clear hK K)
  refine stepK rfl (by kernel_rfl) (fun K hK => ?_); go_simp
  first | (refine hK _ _ ?_; clear hK K) | (apply Exists.intro; apply And.intro; (focus (intro wk hk; go_simp; exact ⟨rfl, rfl⟩)); refine hK _ _ ?_; clear hK K)
  iterate 2 (refine stepK rfl (by kernel_rfl) (fun K hK => ?_); go_simp; apply Exists.intro; apply And.intro; (focus (intro wk hk; go_simp; exact ⟨rfl, rfl⟩)); refine hK _ _ ?_; clear hK K)
  refine stepK rfl (by kernel_rfl) (fun K hK => ?_); go_simp
  first | (refine hK _ _ ?_; clear hK K) | (apply Exists.intro; apply And.intro; (focus (intro wk hk; go_simp; exact ⟨rfl, rfl⟩)); refine hK _ _ ?_; clear hK K)
  refine stepK rfl (by kernel_rfl) (fun K hK => ?_); go_simp
  first | (refine hK _ _ ?_; clear hK K) | (apply Exists.intro; apply And.intro; (focus (intro wk hk; have cc : wk.cell? ⟨w.heap.size, 37, none⟩ = some (.int .i64 cz) := ((K6.Row.tr r2 hk id).cell 37).trans x6; go_simp; exact ⟨rfl, rfl⟩)); refine hK _ _ ?_; clear hK K)
  refine stepK rfl (by kernel_rfl) (fun K hK => ?_); go_simp
  first | (refine hK _ _ ?_; clear hK K) | (apply Exists.intro; apply And.intro; (focus (intro wk hk; go_simp; exact ⟨rfl, rfl⟩)); refine hK _ _ ?_; clear hK K)
  refine stepK rfl (by kernel_rfl) (fun K hK => ?_); go_simp
  first | (refine hK _ _ ?_; clear hK K) | (apply Exists.intro; apply And.intro; (focus (intro wk hk; have cc : wk.cell? ⟨w.heap.size + 1, 37, none⟩ = some (.int .i64 dz) := ((K6.Row.tr r3 hk id).cell 37).trans y6; go_simp; exact ⟨rfl, rfl⟩)); refine hK _ _ ?_; clear hK K)
  refine stepK rfl (by kernel_rfl) (fun K hK => ?_); go_simp
  first | (refine hK _ _ ?_; clear hK K) | (apply Exists.intro; apply And.intro; (focus (intro wk hk; go_simp; exact ⟨rfl, rfl⟩)); refine hK _ _ ?_; clear hK K)
  iterate 2 (refine stepK rfl (by kernel_rfl) (fun K hK => ?_); go_simp; apply Exists.intro; apply And.intro; (focus (intro wk hk; go_simp; exact ⟨rfl, rfl⟩)); refine hK _ _ ?_; clear hK K)
  refine stepK rfl (by kernel_rfl) (fun K hK => ?_); go_simp
  first | (refine hK _ _ ?_; clear hK K) | (apply Exists.intro; apply And.intro; (focus (intro wk hk; go_simp; exact ⟨rfl, rfl⟩)); refine hK _ _ ?_; clear hK K)
  refine stepK rfl (by kernel_rfl) (fun K hK => ?_); go_simp
  first | (refine hK _ _ ?_; clear hK K) | (apply Exists.intro; apply And.intro; (focus exact kLoadMid rfl rfl aggR35 r2 xt xs id); refine hK _ _ ?_; clear hK K)
  refine stepK rfl (by kernel_rfl) (fun K hK => ?_); go_simp
  first | (refine hK _ _ ?_; clear hK K) | (apply Exists.intro; apply And.intro; (focus (intro wk hk; go_simp; exact ⟨rfl, rfl⟩)); refine hK _ _ ?_; clear hK K)
  refine stepK rfl (by kernel_rfl) (fun K hK => ?_); go_simp
  first | (refine hK _ _ ?_; clear hK K) | (apply Exists.intro; apply And.intro; (focus exact kLoadMid rfl rfl aggR35 r3 yt ys id); refine hK _ _ ?_; clear hK K)
  refine stepK rfl (by kernel_rfl) (fun K hK => ?_); go_simp
  first | (refine hK _ _ ?_; clear hK K) | (apply Exists.intro; apply And.intro; (focus (intro wk hk; go_simp; exact ⟨rfl, rfl⟩)); refine hK _ _ ?_; clear hK K)
  iterate 2 (refine stepK rfl (by kernel_rfl) (fun K hK => ?_); go_simp; apply Exists.intro; apply And.intro; (focus (intro wk hk; go_simp; exact ⟨rfl, rfl⟩)); refine hK _ _ ?_; clear hK K)
  iterate 6 (refine stepK rfl (by kernel_rfl) (fun K hK => ?_); go_simp; (first | (refine hK _ _ ?_; clear hK K) | (apply Exists.intro; apply And.intro; (focus (intro wk hk; go_simp; exact ⟨rfl, rfl⟩)); refine hK _ _ ?_; clear hK K)))
  iterate 2 (refine stepK rfl (by kernel_rfl) (fun K hK => ?_); go_simp; apply Exists.intro; apply And.intro; (focus (intro wk hk; go_simp; exact ⟨rfl, rfl⟩)); refine hK _ _ ?_; clear hK K)
  iterate 7 (refine stepK rfl (by kernel_rfl) (fun K hK => ?_); go_simp; (first | (refine hK _ _ ?_; clear hK K) | (apply Exists.intro; apply And.intro; (focus (intro wk hk; go_simp; exact ⟨rfl, rfl⟩)); refine hK _ _ ?_; clear hK K)))
  refine stepK rfl (by kernel_rfl) (fun K hK => ?_); go_simp
  apply Exists.intro; apply And.intro; (focus (intro wk hk; go_simp; exact ⟨rfl, rfl⟩)); refine hK _ _ ?_; clear hK K
  refine stepN ?_
  refine hQ _ _ ?_
  intro w9 hT hG hF
  have hb9 := hT.below
  have H9 := Lib.hid (hl.trans (hb9.mono hl.size))
  clear hT hG hF hQ QQ L hl r2 r3 hb9
  go_wp2_with fail
  go_ret
  exact ⟨rfl, H9.out⟩
 simp only [decide_eq_true e4] at q1
 cases bp
 ·have hbb := HB.out.1 (.inr (.inr (.inr (.inr (.inr (.inl rfl))))))
  subst hbb
  clear HB HLL e0 e1 e2 e3 e4
  let L : List Sp := [sV 38 [] [] (fun u => u = .bool false)]
  refine wp_region_six0 (shs L) (look6 L) (None_) (by kernel_rfl) (by kernel_rfl) (mk_St L [] [] (by kernel_rfl) (by kernel_rfl) ⟨ok_V ⟨_, rfl⟩, trivial⟩ (by simp)) ?_
  intro QQ hQ
  refine stepK rfl (by kernel_rfl) (fun K hK => ?_); go_simp
  apply Exists.intro; apply And.intro; (focus (intro wk hk; go_simp; exact ⟨rfl, rfl⟩)); refine hK _ _ ?_; clear hK K
  refine stepK rfl (by kernel_rfl) (fun K hK => ?_); go_simp
  apply Exists.intro; apply And.intro; (focus (intro wk hk; have cc : wk.cell? ⟨w.heap.size, 0, none⟩ = some (.int .i64 cr) := ((K6.Row.tr r2 hk id).cell 0).trans x0; go_simp; exact ⟨rfl, rfl⟩)); refine hK _ _ ?_; clear hK K
  refine stepK rfl (by kernel_rfl) (fun K hK => ?_); go_simp
  apply Exists.intro; apply And.intro; (focus (intro wk hk; go_simp; exact ⟨rfl, rfl⟩)); refine hK _ _ ?_; clear hK K
  refine stepK rfl (by kernel_rfl) (fun K hK => ?_); go_simp
  apply Exists.intro; apply And.intro; (focus (intro wk hk; have cc : wk.cell? ⟨w.heap.size + 1, 0, none⟩ = some (.int .i64 dr) := ((K6.Row.tr r3 hk id).cell 0).trans y0; go_simp; exact ⟨rfl, rfl⟩)); refine hK _ _ ?_; clear hK K
  iterate 2 (refine stepK rfl (by kernel_rfl) (fun K hK => ?_); go_simp; apply Exists.intro; apply And.intro; (focus (intro wk hk; go_simp; exact ⟨rfl, rfl⟩)); refine hK _ _ ?_; clear hK K)
  refine stepK rfl (by kernel_rfl) (fun K hK => ?_); go_simp
  first | (refine hK _ _ ?_; clear hK K) | (apply Exists.intro; apply And.intro; (focus (intro wk hk; go_simp; exact ⟨rfl, rfl⟩)); refine hK _ _ ?_; clear hK K)
  refine stepK rfl (by kernel_rfl) (fun K hK => ?_); go_simp
  first | (refine hK _ _ ?_; clear hK K) | (apply Exists.intro; apply And.intro; (focus (intro wk hk; have cc : wk.cell? ⟨w.heap.size, 1, none⟩ = some (.int .i64 cx) := ((K6.Row.tr r2 hk id).cell 1).trans x1; go_simp; exact ⟨rfl, rfl⟩)); refine hK _ _ ?_; clear hK K)
  refine stepK rfl (by kernel_rfl) (fun K hK => ?_); go_simp
  first | (refine hK _ _ ?_; clear hK K) | (apply Exists.intro; apply And.intro; (focus (intro wk hk; go_simp; exact ⟨rfl, rfl⟩)); refine hK _ _ ?_; clear hK K)
  refine stepK rfl (by kernel_rfl) (fun K hK => ?_); go_simp
  first | (refine hK _ _ ?_; clear hK K) | (apply Exists.intro; apply And.intro; (focus (intro wk hk; have cc : wk.cell? ⟨w.heap.size + 1, 1, none⟩ = some (.int .i64 dx) := ((K6.Row.tr r3 hk id).cell 1).trans y1; go_simp; exact ⟨rfl, rfl⟩)); refine hK _ _ ?_; clear hK K)
  refine stepK rfl (by kernel_rfl) (fun K hK => ?_); go_simp
  first | (refine hK _ _ ?_; clear hK K) | (apply Exists.intro; apply And.intro; (focus (intro wk hk; go_simp; exact ⟨rfl, rfl⟩)); refine hK _ _ ?_; clear hK K)
  iterate 2 (refine stepK rfl (by kernel_rfl) (fun K hK => ?_); go_simp; apply Exists.intro; apply And.intro; (focus (intro wk hk; go_simp; exact ⟨rfl, rfl⟩)); refine hK _ _ ?_; clear hK K)
  refine stepK rfl (by kernel_rfl) (fun K hK => ?_); go_simp
  first | (refine hK _ _ ?_; clear hK K) | (apply Exists.intro; apply And.intro; (focus (intro wk hk; go_simp; exact ⟨rfl, rfl⟩)); refine hK _ _ ?_; clear hK K)
  refine stepK rfl (by kernel_rfl) (fun K hK => ?_); go_simp
  first | (refine hK _ _ ?_; clear hK K) | (apply Exists.intro; apply And.intro; (focus (intro wk hk; have cc : wk.cell? ⟨w.heap.size, 2, none⟩ = some (.int .i64 ce) := ((K6.Row.tr r2 hk id).cell 2).trans x2; go_simp; exact ⟨rfl, rfl⟩)); refine hK _ _ ?_; clear hK K)
  refine stepK rfl (by kernel_rfl) (fun K hK => ?_); go_simp
  first | (refine hK _ _ ?_; clear hK K) | (apply Exists.intro; apply And.intro; (focus (intro wk hk; go_simp; exact ⟨rfl, rfl⟩)); refine hK _ _ ?_; clear hK K)
  refine stepK rfl (by kernel_rfl) (fun K hK => ?_); go_simp
  first | (refine hK _ _ ?_; clear hK K) | (apply Exists.intro; apply And.intro; (focus (intro wk hk; have cc : wk.cell? ⟨w.heap.size + 1, 2, none⟩ = some (.int .i64 de) := ((K6.Row.tr r3 hk id).cell 2).trans y2; go_simp; exact ⟨rfl, rfl⟩)); refine hK _ _ ?_; clear hK K)
  refine stepK rfl (by kernel_rfl) (fun K hK => ?_); go_simp
  first | (refine hK _ _ ?_; clear hK K) | (apply Exists.intro; apply And.intro; (focus (intro wk hk; go_simp; exact ⟨rfl, rfl⟩)); refine hK _ _ ?_; clear hK K)
  iterate 2 (refine stepK rfl (by kernel_rfl) (fun K hK => ?_); go_simp; apply Exists.intro; apply And.intro; (focus (intro wk hk; go_simp; exact ⟨rfl, rfl⟩)); refine hK _ _ ?_; clear hK K)
  refine stepK rfl (by kernel_rfl) (fun K hK => ?_); go_simp
  first | (refine hK _ _ ?_; clear hK K) | (apply Exists.intro; apply And.intro; (focus (intro wk hk; go_simp; exact ⟨rfl, rfl⟩)); refine hK _ _ ?_; clear hK K)
  refine stepK rfl (by kernel_rfl) (fun K hK => ?_); go_simp
  first | (refine hK _ _ ?_; clear hK K) | (apply Exists.intro; apply And.intro; (focus (intro wk hk; have cc : wk.cell? ⟨w.heap.size, 37, none⟩ = some (.int .i64 cz) := ((K6.Row.tr r2 hk id).cell 37).trans x6; go_simp; exact ⟨rfl, rfl⟩)); refine hK _ _ ?_; clear hK K)
  refine stepK rfl (by kernel_rfl) (fun K hK => ?_); go_simp
  first | (refine hK _ _ ?_; clear hK K) | (apply Exists.intro; apply And.intro; (focus (intro wk hk; go_simp; exact ⟨rfl, rfl⟩)); refine hK _ _ ?_; clear hK K)
  refine stepK rfl (by kernel_rfl) (fun K hK => ?_); go_simp
  first | (refine hK _ _ ?_; clear hK K) | (apply Exists.intro; apply And.intro; (focus (intro wk hk; have cc : wk.cell? ⟨w.heap.size + 1, 37, none⟩ = some (.int .i64 dz) := ((K6.Row.tr r3 hk id).cell 37).trans y6; go_simp; exact ⟨rfl, rfl⟩)); refine hK _ _ ?_; clear hK K)
  refine stepK rfl (by kernel_rfl) (fun K hK => ?_); go_simp
  first | (refine hK _ _ ?_; clear hK K) | (apply Exists.intro; apply And.intro; (focus (intro wk hk; go_simp; exact ⟨rfl, rfl⟩)); refine hK _ _ ?_; clear hK K)
  iterate 2 (refine stepK rfl (by kernel_rfl) (fun K hK => ?_); go_simp; apply Exists.intro; apply And.intro; (focus (intro wk hk; go_simp; exact ⟨rfl, rfl⟩)); refine hK _ _ ?_; clear hK K)
  refine stepK rfl (by kernel_rfl) (fun K hK => ?_); go_simp
  first | (refine hK _ _ ?_; clear hK K) | (apply Exists.intro; apply And.intro; (focus (intro wk hk; go_simp; exact ⟨rfl, rfl⟩)); refine hK _ _ ?_; clear hK K)
  refine stepK rfl (by kernel_rfl) (fun K hK => ?_); go_simp
  first | (refine hK _ _ ?_; clear hK K) | (apply Exists.intro; apply And.intro; (focus exact kLoadMid rfl rfl aggR35 r2 xt xs id); refine hK _ _ ?_; clear hK K)
  refine stepK rfl (by kernel_rfl) (fun K hK => ?_); go_simp
  first | (refine hK _ _ ?_; clear hK K) | (apply Exists.intro; apply And.intro; (focus (intro wk hk; go_simp; exact ⟨rfl, rfl⟩)); refine hK _ _ ?_; clear hK K)
  refine stepK rfl (by kernel_rfl) (fun K hK => ?_); go_simp
  first | (refine hK _ _ ?_; clear hK K) | (apply Exists.intro; apply And.intro; (focus exact kLoadMid rfl rfl aggR35 r3 yt ys id); refine hK _ _ ?_; clear hK K)
  refine stepK rfl (by kernel_rfl) (fun K hK => ?_); go_simp
  first | (refine hK _ _ ?_; clear hK K) | (apply Exists.intro; apply And.intro; (focus (intro wk hk; go_simp; exact ⟨rfl, rfl⟩)); refine hK _ _ ?_; clear hK K)
  iterate 2 (refine stepK rfl (by kernel_rfl) (fun K hK => ?_); go_simp; apply Exists.intro; apply And.intro; (focus (intro wk hk; go_simp; exact ⟨rfl, rfl⟩)); refine hK _ _ ?_; clear hK K)
  refine stepK rfl (by kernel_rfl) (fun K hK => ?_); go_simp
  first | (refine hK _ _ ?_; clear hK K) | (apply Exists.intro; apply And.intro; (focus (intro wk hk; go_simp; exact ⟨rfl, rfl⟩)); refine hK _ _ ?_; clear hK K)
  refine stepK rfl (by kernel_rfl) (fun K hK => ?_); go_simp
  first | (refine hK _ _ ?_; clear hK K) | (apply Exists.intro; apply And.intro; (focus (intro wk hk; have cc : wk.cell? ⟨w.heap.size, 35, none⟩ = some (.slice pq1 np1 pc1) := ((K6.Row.tr r2 hk id).cell 35).trans x4; go_simp; exact ⟨rfl, rfl⟩)); refine hK _ _ ?_; clear hK K)
  refine stepK rfl (by kernel_rfl) (fun K hK => ?_); go_simp
  first | (refine hK _ _ ?_; clear hK K) | (apply Exists.intro; apply And.intro; (focus (intro wk hk; go_simp; exact ⟨rfl, rfl⟩)); refine hK _ _ ?_; clear hK K)
  refine stepK rfl (by kernel_rfl) (fun K hK => ?_); go_simp
  first | (refine hK _ _ ?_; clear hK K) | (apply Exists.intro; apply And.intro; (focus (intro wk hk; have cc : wk.cell? ⟨w.heap.size + 1, 35, none⟩ = some (.slice pq2 np2 pc2) := ((K6.Row.tr r3 hk id).cell 35).trans y4; go_simp; exact ⟨rfl, rfl⟩)); refine hK _ _ ?_; clear hK K)
  refine stepS _ rfl (by kernel_rfl) (fun K hK => ?_); go_simp
  refine ⟨?_, ?_⟩
  ·intro wk hk hg hu; go_simp; refine upon_enter ((kP.out _ (hl.trans (hk.below.mono hl.size))).mono ?_); rintro e w' ⟨rfl, hb⟩; exact ⟨_, rfl, left_V (p := fun u => u = .bool false) rfl (hb) rfl⟩
  rintro ⟨v38, lo38, hi38⟩ - - (rfl : v38 = _)
  refine hK _ _ ?_; clear hK K
  refine stepK rfl (by kernel_rfl) (fun K hK => ?_); go_simp
  first | (refine hK _ _ ?_; clear hK K) | (apply Exists.intro; apply And.intro; (focus (intro wk hk; go_simp; exact ⟨rfl, rfl⟩)); refine hK _ _ ?_; clear hK K)
  iterate 2 (refine stepK rfl (by kernel_rfl) (fun K hK => ?_); go_simp; apply Exists.intro; apply And.intro; (focus (intro wk hk; go_simp; exact ⟨rfl, rfl⟩)); refine hK _ _ ?_; clear hK K)
  iterate 7 (refine stepK rfl (by kernel_rfl) (fun K hK => ?_); go_simp; (first | (refine hK _ _ ?_; clear hK K) | (apply Exists.intro; apply And.intro; (focus (intro wk hk; go_simp; exact ⟨rfl, rfl⟩)); refine hK _ _ ?_; clear hK K)))
  refine stepK rfl (by kernel_rfl) (fun K hK => ?_); go_simp
  apply Exists.intro; apply And.intro; (focus (intro wk hk; go_simp; exact ⟨rfl, rfl⟩)); refine hK _ _ ?_; clear hK K
  refine stepN ?_
  refine hQ _ _ ?_
  intro w9 hT hG hF
  have hb9 := hT.below
  have H9 := Lib.hid (hl.trans (hb9.mono hl.size))
  clear hT hG hF hQ QQ L hl r2 r3 hb9
  go_wp2_with fail
  go_ret
  exact ⟨rfl, H9.out⟩
 have hB0 := Lib.hid (show (l1.map Lf.key ≠ l2.map Lf.key → b = false) ∧ (l1.map Lf.key = l2.map Lf.key → b = true) from ⟨fun h => HB.out.1 (.inr (.inr (.inr (.inr (.inr (.inr h)))))), fun h => HB.out.2 e0 e1 e2 e3 e4 rfl h⟩)
 clear HB e0 e1 e2 e3 e4
 by_cases e5 : nl1 = nl2
 case neg =>
  have h5 : ((nl1 : Int) != (nl2 : Int)) = true := by rw [bne_iff_ne]; omega
  have hbb := hB0.out.1 (fun h => e5 (by have h1 := congrArg List.length h; rw [List.length_map, List.length_map, HLL.out.2.2.2.1, HLL.out.2.2.2.2] at h1; exact h1))
  subst hbb
  clear hB0 HLL e5
  let L : List Sp := [sV 38 [] [] (fun u => u = .bool true)]
  refine wp_region_six0 (shs L) (look6 L) (None_) (by kernel_rfl) (by kernel_rfl) (mk_St L [] [] (by kernel_rfl) (by kernel_rfl) ⟨ok_V ⟨_, rfl⟩, trivial⟩ (by simp)) ?_
  intro QQ hQ
  refine stepK rfl (by kernel_rfl) (fun K hK => ?_); go_simp
  apply Exists.intro; apply And.intro; (focus (intro wk hk; go_simp; exact ⟨rfl, rfl⟩)); refine hK _ _ ?_; clear hK K
  refine stepK rfl (by kernel_rfl) (fun K hK => ?_); go_simp
  apply Exists.intro; apply And.intro; (focus (intro wk hk; have cc : wk.cell? ⟨w.heap.size, 0, none⟩ = some (.int .i64 cr) := ((K6.Row.tr r2 hk id).cell 0).trans x0; go_simp; exact ⟨rfl, rfl⟩)); refine hK _ _ ?_; clear hK K
  refine stepK rfl (by kernel_rfl) (fun K hK => ?_); go_simp
  apply Exists.intro; apply And.intro; (focus (intro wk hk; go_simp; exact ⟨rfl, rfl⟩)); refine hK _ _ ?_; clear hK K
  refine stepK rfl (by kernel_rfl) (fun K hK => ?_); go_simp
  apply Exists.intro; apply And.intro; (focus (intro wk hk; have cc : wk.cell? ⟨w.heap.size + 1, 0, none⟩ = some (.int .i64 dr) := ((K6.Row.tr r3 hk id).cell 0).trans y0; go_simp; exact ⟨rfl, rfl⟩)); refine hK _ _ ?_; clear hK K
  iterate 2 (refine stepK rfl (by kernel_rfl) (fun K hK => ?_); go_simp; apply Exists.intro; apply And.intro; (focus (intro wk hk; go_simp; exact ⟨rfl, rfl⟩)); refine hK _ _ ?_; clear hK K)
  refine stepK rfl (by kernel_rfl) (fun K hK => ?_); go_simp
  first | (refine hK _ _ ?_; clear hK K) | (apply Exists.intro; apply And.intro; (focus (intro wk hk; go_simp; exact ⟨rfl, rfl⟩)); refine hK _ _ ?_; clear hK K)
  refine stepK rfl (by kernel_rfl) (fun K hK => ?_); go_simp
  first | (refine hK _ _ ?_; clear hK K) | (apply Exists.intro; apply And.intro; (focus (intro wk hk; have cc : wk.cell? ⟨w.heap.size, 1, none⟩ = some (.int .i64 cx) := ((K6.Row.tr r2 hk id).cell 1).trans x1; go_simp; exact ⟨rfl, rfl⟩)); refine hK _ _ ?_; clear hK K)
  refine stepK rfl (by kernel_rfl) (fun K hK => ?_); go_simp
  first | (refine hK _ _ ?_; clear hK K) | (apply Exists.intro; apply And.intro; (focus (intro wk hk; go_simp; exact ⟨rfl, rfl⟩)); refine hK _ _ ?_; clear hK K)
  refine stepK rfl (by kernel_rfl) (fun K hK => ?_); go_simp
  first | (refine hK _ _ ?_; clear hK K) | (apply Exists.intro; apply And.intro; (focus (intro wk hk; have cc : wk.cell? ⟨w.heap.size + 1, 1, none⟩ = some (.int .i64 dx) := ((K6.Row.tr r3 hk id).cell 1).trans y1; go_simp; exact ⟨rfl, rfl⟩)); refine hK _ _ ?_; clear hK K)
  refine stepK rfl (by kernel_rfl) (fun K hK => ?_); go_simp
  first | (refine hK _ _ ?_; clear hK K) | (apply Exists.intro; apply And.intro; (focus (intro wk hk; go_simp; exact ⟨rfl, rfl⟩)); refine hK _ _ ?_; clear hK K)
  iterate 2 (refine stepK rfl (by kernel_rfl) (fun K hK => ?_); go_simp; apply Exists.intro; apply And.intro; (focus (intro wk hk; go_simp; exact ⟨rfl, rfl⟩)); refine hK _ _ ?_; clear hK K)
  refine stepK rfl (by kernel_rfl) (fun K hK => ?_); go_simp
  first | (refine hK _ _ ?_; clear hK K) | (apply Exists.intro; apply And.intro; (focus (intro wk hk; go_simp; exact ⟨rfl, rfl⟩)); refine hK _ _ ?_; clear hK K)
  refine stepK rfl (by kernel_rfl) (fun K hK => ?_); go_simp
  first | (refine hK _ _ ?_; clear hK K) | (apply Exists.intro; apply And.intro; (focus (intro wk hk; have cc : wk.cell? ⟨w.heap.size, 2, none⟩ = some (.int .i64 ce) := ((K6.Row.tr r2 hk id).cell 2).trans x2; go_simp; exact ⟨rfl, rfl⟩)); refine hK _ _ ?_; clear hK K)
  refine stepK rfl (by kernel_rfl) (fun K hK => ?_); go_simp
  first | (refine hK _ _ ?_; clear hK K) | (apply Exists.intro; apply And.intro; (focus (intro wk hk; go_simp; exact ⟨rfl, rfl⟩)); refine hK _ _ ?_; clear hK K)
  refine stepK rfl (by kernel_rfl) (fun K hK => ?_); go_simp
  first | (refine hK _ _ ?_; clear hK K) | (apply Exists.intro; apply And.intro; (focus (intro wk hk; have cc : wk.cell? ⟨w.heap.size + 1, 2, none⟩ = some (.int .i64 de) := ((K6.Row.tr r3 hk id).cell 2).trans y2; go_simp; exact ⟨rfl, rfl⟩)); refine hK _ _ ?_; clear hK K)
  refine stepK rfl (by kernel_rfl) (fun K hK => ?_); go_simp
  first | (refine hK _ _ ?_; clear hK K) | (apply Exists.intro; apply And.intro; (focus (intro wk hk; go_simp; exact ⟨rfl, rfl⟩)); refine hK _ _ ?_; clear hK K)
  iterate 2 (refine stepK rfl (by kernel_rfl) (fun K hK => ?_); go_simp; apply Exists.intro; apply And.intro; (focus (intro wk hk; go_simp; exact ⟨rfl, rfl⟩)); refine hK _ _ ?_; clear hK K)
  refine stepK rfl (by kernel_rfl) (fun K hK => ?_); go_simp
  first | (refine hK _ _ ?_; clear hK K) | (apply Exists.intro; apply And.intro; (focus (intro wk hk; go_simp; exact ⟨rfl, rfl⟩)); refine hK _ _ ?_; clear hK K)
  refine stepK rfl (by kernel_rfl) (fun K hK => ?_); go_simp
  first | (refine hK _ _ ?_; clear hK K) | (apply Exists.intro; apply And.intro; (focus (intro wk hk; have cc : wk.cell? ⟨w.heap.size, 37, none⟩ = some (.int .i64 cz) := ((K6.Row.tr r2 hk id).cell 37).trans x6; go_simp; exact ⟨rfl, rfl⟩)); refine hK _ _ ?_; clear hK K)
  refine stepK rfl (by kernel_rfl) (fun K hK => ?_); go_simp
  first | (refine hK _ _ ?_; clear hK K) | (apply Exists.intro; apply And.intro; (focus (intro wk hk; go_simp; exact ⟨rfl, rfl⟩)); refine hK _ _ ?_; clear hK K)
  refine stepK rfl (by kernel_rfl) (fun K hK => ?_); go_simp
  first | (refine hK _ _ ?_; clear hK K) | (apply Exists.intro; apply And.intro; (focus (intro wk hk; have cc : wk.cell? ⟨w.heap.size + 1, 37, none⟩ = some (.int .i64 dz) := ((K6.Row.tr r3 hk id).cell 37).trans y6; go_simp; exact ⟨rfl, rfl⟩)); refine hK _ _ ?_; clear hK K)
  refine stepK rfl (by kernel_rfl) (fun K hK => ?_); go_simp
  first | (refine hK _ _ ?_; clear hK K) | (apply Exists.intro; apply And.intro; (focus (intro wk hk; go_simp; exact ⟨rfl, rfl⟩)); refine hK _ _ ?_; clear hK K)
  iterate 2 (refine stepK rfl (by kernel_rfl) (fun K hK => ?_); go_simp; apply Exists.intro; apply And.intro; (focus (intro wk hk; go_simp; exact ⟨rfl, rfl⟩)); refine hK _ _ ?_; clear hK K)
  refine stepK rfl (by kernel_rfl) (fun K hK => ?_); go_simp
  first | (refine hK _ _ ?_; clear hK K) | (apply Exists.intro; apply And.intro; (focus (intro wk hk; go_simp; exact ⟨rfl, rfl⟩)); refine hK _ _ ?_; clear hK K)
  refine stepK rfl (by kernel_rfl) (fun K hK => ?_); go_simp
  first | (refine hK _ _ ?_; clear hK K) | (apply Exists.intro; apply And.intro; (focus exact kLoadMid rfl rfl aggR35 r2 xt xs id); refine hK _ _ ?_; clear hK K)
  refine stepK rfl (by kernel_rfl) (fun K hK => ?_); go_simp
  first | (refine hK _ _ ?_; clear hK K) | (apply Exists.intro; apply And.intro; (focus (intro wk hk; go_simp; exact ⟨rfl, rfl⟩)); refine hK _ _ ?_; clear hK K)
  refine stepK rfl (by kernel_rfl) (fun K hK => ?_); go_simp
  first | (refine hK _ _ ?_; clear hK K) | (apply Exists.intro; apply And.intro; (focus exact kLoadMid rfl rfl aggR35 r3 yt ys id); refine hK _ _ ?_; clear hK K)
  refine stepK rfl (by kernel_rfl) (fun K hK => ?_); go_simp
  first | (refine hK _ _ ?_; clear hK K) | (apply Exists.intro; apply And.intro; (focus (intro wk hk; go_simp; exact ⟨rfl, rfl⟩)); refine hK _ _ ?_; clear hK K)
  iterate 2 (refine stepK rfl (by kernel_rfl) (fun K hK => ?_); go_simp; apply Exists.intro; apply And.intro; (focus (intro wk hk; go_simp; exact ⟨rfl, rfl⟩)); refine hK _ _ ?_; clear hK K)
  refine stepK rfl (by kernel_rfl) (fun K hK => ?_); go_simp
  first | (refine hK _ _ ?_; clear hK K) | (apply Exists.intro; apply And.intro; (focus (intro wk hk; go_simp; exact ⟨rfl, rfl⟩)); refine hK _ _ ?_; clear hK K)
  refine stepK rfl (by kernel_rfl) (fun K hK => ?_); go_simp
  first | (refine hK _ _ ?_; clear hK K) | (apply Exists.intro; apply And.intro; (focus (intro wk hk; have cc : wk.cell? ⟨w.heap.size, 35, none⟩ = some (.slice pq1 np1 pc1) := ((K6.Row.tr r2 hk id).cell 35).trans x4; go_simp; exact ⟨rfl, rfl⟩)); refine hK _ _ ?_; clear hK K)
  refine stepK rfl (by kernel_rfl) (fun K hK => ?_); go_simp
  first | (refine hK _ _ ?_; clear hK K) | (apply Exists.intro; apply And.intro; (focus (intro wk hk; go_simp; exact ⟨rfl, rfl⟩)); refine hK _ _ ?_; clear hK K)
  refine stepK rfl (by kernel_rfl) (fun K hK => ?_); go_simp
  first | (refine hK _ _ ?_; clear hK K) | (apply Exists.intro; apply And.intro; (focus (intro wk hk; have cc : wk.cell? ⟨w.heap.size + 1, 35, none⟩ = some (.slice pq2 np2 pc2) := ((K6.Row.tr r3 hk id).cell 35).trans y4; go_simp; exact ⟨rfl, rfl⟩)); refine hK _ _ ?_; clear hK K)
  refine stepS _ rfl (by kernel_rfl) (fun K hK => ?_); go_simp
  refine ⟨?_, ?_⟩
  ·intro wk hk hg hu; go_simp; refine upon_enter ((kP.out _ (hl.trans (hk.below.mono hl.size))).mono ?_); rintro e w' ⟨rfl, hb⟩; exact ⟨_, rfl, left_V (p := fun u => u = .bool true) rfl (hb) rfl⟩
  rintro ⟨v38, lo38, hi38⟩ - - (rfl : v38 = _)
  refine hK _ _ ?_; clear hK K
  refine stepK rfl (by kernel_rfl) (fun K hK => ?_); go_simp
  first | (refine hK _ _ ?_; clear hK K) | (apply Exists.intro; apply And.intro; (focus (intro wk hk; go_simp; exact ⟨rfl, rfl⟩)); refine hK _ _ ?_; clear hK K)
  iterate 2 (refine stepK rfl (by kernel_rfl) (fun K hK => ?_); go_simp; apply Exists.intro; apply And.intro; (focus (intro wk hk; go_simp; exact ⟨rfl, rfl⟩)); refine hK _ _ ?_; clear hK K)
  refine stepK rfl (by kernel_rfl) (fun K hK => ?_); go_simp
  first | (refine hK _ _ ?_; clear hK K) | (apply Exists.intro; apply And.intro; (focus (intro wk hk; go_simp; exact ⟨rfl, rfl⟩)); refine hK _ _ ?_; clear hK K)
  refine stepK rfl (by kernel_rfl) (fun K hK => ?_); go_simp
  first | (refine hK _ _ ?_; clear hK K) | (apply Exists.intro; apply And.intro; (focus (intro wk hk; have cc : wk.cell? ⟨w.heap.size, 36, none⟩ = some (.slice lq1 nl1 lc1) := ((K6.Row.tr r2 hk id).cell 36).trans x5; go_simp; exact ⟨rfl, rfl⟩)); refine hK _ _ ?_; clear hK K)
  iterate 2 (refine stepK rfl (by kernel_rfl) (fun K hK => ?_); go_simp; (first | (refine hK _ _ ?_; clear hK K) | (apply Exists.intro; apply And.intro; (focus (intro wk hk; go_simp; exact ⟨rfl, rfl⟩)); refine hK _ _ ?_; clear hK K)))
  refine stepK rfl (by kernel_rfl) (fun K hK => ?_); go_simp
  first | (refine hK _ _ ?_; clear hK K) | (apply Exists.intro; apply And.intro; (focus (intro wk hk; have cc : wk.cell? ⟨w.heap.size + 1, 36, none⟩ = some (.slice lq2 nl2 lc2) := ((K6.Row.tr r3 hk id).cell 36).trans y5; go_simp; exact ⟨rfl, rfl⟩)); refine hK _ _ ?_; clear hK K)
  iterate 2 (refine stepK rfl (by kernel_rfl) (fun K hK => ?_); go_simp; (first | (refine hK _ _ ?_; clear hK K) | (apply Exists.intro; apply And.intro; (focus (intro wk hk; go_simp; exact ⟨rfl, rfl⟩)); refine hK _ _ ?_; clear hK K)))
  refine stepK rfl (by kernel_rfl) (fun K hK => ?_); go_simp
  apply Exists.intro; apply And.intro; (focus (intro wk hk; go_simp; exact ⟨rfl, rfl⟩)); refine hK _ _ ?_; clear hK K
  refine stepN ?_
  refine hQ _ _ ?_
  intro w9 hT hG hF
  have hb9 := hT.below
  have H9 := Lib.hid (hl.trans (hb9.mono hl.size))
  clear hT hG hF hQ QQ L hl r2 r3 hb9
  go_wp2_with fail
  go_ret
  exact ⟨rfl, H9.out⟩
 subst e5
 have h5 : ((nl1 : Int) != (nl1 : Int)) = false := bne_self_eq_false _
 let L : List Sp := [sV 38 [] [] (fun u => u = .bool true)]
 refine wp_region_six0 (shs L) (look6 L) (None_) (by kernel_rfl) (by kernel_rfl) (mk_St L [] [] (by kernel_rfl) (by kernel_rfl) ⟨ok_V ⟨_, rfl⟩, trivial⟩ (by simp)) ?_
 intro QQ hQ
 refine stepK rfl (by kernel_rfl) (fun K hK => ?_); go_simp
 apply Exists.intro; apply And.intro; (focus (intro wk hk; go_simp; exact ⟨rfl, rfl⟩)); refine hK _ _ ?_; clear hK K
 refine stepK rfl (by kernel_rfl) (fun K hK => ?_); go_simp
 apply Exists.intro; apply And.intro; (focus (intro wk hk; have cc : wk.cell? ⟨w.heap.size, 0, none⟩ = some (.int .i64 cr) := ((K6.Row.tr r2 hk id).cell 0).trans x0; go_simp; exact ⟨rfl, rfl⟩)); refine hK _ _ ?_; clear hK K
 refine stepK rfl (by kernel_rfl) (fun K hK => ?_); go_simp
 apply Exists.intro; apply And.intro; (focus (intro wk hk; go_simp; exact ⟨rfl, rfl⟩)); refine hK _ _ ?_; clear hK K
 refine stepK rfl (by kernel_rfl) (fun K hK => ?_); go_simp
 apply Exists.intro; apply And.intro; (focus (intro wk hk; have cc : wk.cell? ⟨w.heap.size + 1, 0, none⟩ = some (.int .i64 dr) := ((K6.Row.tr r3 hk id).cell 0).trans y0; go_simp; exact ⟨rfl, rfl⟩)); refine hK _ _ ?_; clear hK K
 iterate 2 (refine stepK rfl (by kernel_rfl) (fun K hK => ?_); go_simp; apply Exists.intro; apply And.intro; (focus (intro wk hk; go_simp; exact ⟨rfl, rfl⟩)); refine hK _ _ ?_; clear hK K)
 refine stepK rfl (by kernel_rfl) (fun K hK => ?_); go_simp
 first | (refine hK _ _ ?_; clear hK K) | (apply Exists.intro; apply And.intro; (focus (intro wk hk; go_simp; exact ⟨rfl, rfl⟩)); refine hK _ _ ?_; clear hK K)
 refine stepK rfl (by kernel_rfl) (fun K hK => ?_); go_simp
 first | (refine hK _ _ ?_; clear hK K) | (apply Exists.intro; apply And.intro; (focus (intro wk hk; have cc : wk.cell? ⟨w.heap.size, 1, none⟩ = some (.int .i64 cx) := ((K6.Row.tr r2 hk id).cell 1).trans x1; go_simp; exact ⟨rfl, rfl⟩)); refine hK _ _ ?_; clear hK K)
 refine stepK rfl (by kernel_rfl) (fun K hK => ?_); go_simp
 first | (refine hK _ _ ?_; clear hK K) | (apply Exists.intro; apply And.intro; (focus (intro wk hk; go_simp; exact ⟨rfl, rfl⟩)); refine hK _ _ ?_; clear hK K)
 refine stepK rfl (by kernel_rfl) (fun K hK => ?_); go_simp
 first | (refine hK _ _ ?_; clear hK K) | (apply Exists.intro; apply And.intro; (focus (intro wk hk; have cc : wk.cell? ⟨w.heap.size + 1, 1, none⟩ = some (.int .i64 dx) := ((K6.Row.tr r3 hk id).cell 1).trans y1; go_simp; exact ⟨rfl, rfl⟩)); refine hK _ _ ?_; clear hK K)
 refine stepK rfl (by kernel_rfl) (fun K hK => ?_); go_simp
 first | (refine hK _ _ ?_; clear hK K) | (apply Exists.intro; apply And.intro; (focus (intro wk hk; go_simp; exact ⟨rfl, rfl⟩)); refine hK _ _ ?_; clear hK K)
 iterate 2 (refine stepK rfl (by kernel_rfl) (fun K hK => ?_); go_simp; apply Exists.intro; apply And.intro; (focus (intro wk hk; go_simp; exact ⟨rfl, rfl⟩)); refine hK _ _ ?_; clear hK K)
 refine stepK rfl (by kernel_rfl) (fun K hK => ?_); go_simp
 first | (refine hK _ _ ?_; clear hK K) | (apply Exists.intro; apply And.intro; (focus (intro wk hk; go_simp; exact ⟨rfl, rfl⟩)); refine hK _ _ ?_; clear hK K)
 refine stepK rfl (by kernel_rfl) (fun K hK => ?_); go_simp
 first | (refine hK _ _ ?_; clear hK K) | (apply Exists.intro; apply And.intro; (focus (intro wk hk; have cc : wk.cell? ⟨w.heap.size, 2, none⟩ = some (.int .i64 ce) := ((K6.Row.tr r2 hk id).cell 2).trans x2; go_simp; exact ⟨rfl, rfl⟩)); refine hK _ _ ?_; clear hK K)
 refine stepK rfl (by kernel_rfl) (fun K hK => ?_); go_simp
 first | (refine hK _ _ ?_; clear hK K) | (apply Exists.intro; apply And.intro; (focus (intro wk hk; go_simp; exact ⟨rfl, rfl⟩)); refine hK _ _ ?_; clear hK K)
 refine stepK rfl (by kernel_rfl) (fun K hK => ?_); go_simp
 first | (refine hK _ _ ?_; clear hK K) | (apply Exists.intro; apply And.intro; (focus (intro wk hk; have cc : wk.cell? ⟨w.heap.size + 1, 2, none⟩ = some (.int .i64 de) := ((K6.Row.tr r3 hk id).cell 2).trans y2; go_simp; exact ⟨rfl, rfl⟩)); refine hK _ _ ?_; clear hK K)
 refine stepK rfl (by kernel_rfl) (fun K hK => ?_); go_simp
 first | (refine hK _ _ ?_; clear hK K) | (apply Exists.intro; apply And.intro; (focus (intro wk hk; go_simp; exact ⟨rfl, rfl⟩)); refine hK _ _ ?_; clear hK K)
 iterate 2 (refine stepK rfl (by kernel_rfl) (fun K hK => ?_); go_simp; apply Exists.intro; apply And.intro; (focus (intro wk hk; go_simp; exact ⟨rfl, rfl⟩)); refine hK _ _ ?_; clear hK K)
 refine stepK rfl (by kernel_rfl) (fun K hK => ?_); go_simp
 first | (refine hK _ _ ?_; clear hK K) | (apply Exists.intro; apply And.intro; (focus (intro wk hk; go_simp; exact ⟨rfl, rfl⟩)); refine hK _ _ ?_; clear hK K)
 refine stepK rfl (by kernel_rfl) (fun K hK => ?_); go_simp
 first | (refine hK _ _ ?_; clear hK K) | (apply Exists.intro; apply And.intro; (focus (intro wk hk; have cc : wk.cell? ⟨w.heap.size, 37, none⟩ = some (.int .i64 cz) := ((K6.Row.tr r2 hk id).cell 37).trans x6; go_simp; exact ⟨rfl, rfl⟩)); refine hK _ _ ?_; clear hK K)
 refine stepK rfl (by kernel_rfl) (fun K hK => ?_); go_simp
 first | (refine hK _ _ ?_; clear hK K) | (apply Exists.intro; apply And.intro; (focus (intro wk hk; go_simp; exact ⟨rfl, rfl⟩)); refine hK _ _ ?_; clear hK K)
 refine stepK rfl (by kernel_rfl) (fun K hK => ?_); go_simp
 first | (refine hK _ _ ?_; clear hK K) | (apply Exists.intro; apply And.intro; (focus (intro wk hk; have cc : wk.cell? ⟨w.heap.size + 1, 37, none⟩ = some (.int .i64 dz) := ((K6.Row.tr r3 hk id).cell 37).trans y6; go_simp; exact ⟨rfl, rfl⟩)); refine hK _ _ ?_; clear hK K)
 refine stepK rfl (by kernel_rfl) (fun K hK => ?_); go_simp
 first | (refine hK _ _ ?_; clear hK K) | (apply Exists.intro; apply And.intro; (focus (intro wk hk; go_simp; exact ⟨rfl, rfl⟩)); refine hK _ _ ?_; clear hK K)
 iterate 2 (refine stepK rfl (by kernel_rfl) (fun K hK => ?_); go_simp; apply Exists.intro; apply And.intro; (focus (intro wk hk; go_simp; exact ⟨rfl, rfl⟩)); refine hK _ _ ?_; clear hK K)
 refine stepK rfl (by kernel_rfl) (fun K hK => ?_); go_simp
 first | (refine hK _ _ ?_; clear hK K) | (apply Exists.intro; apply And.intro; (focus (intro wk hk; go_simp; exact ⟨rfl, rfl⟩)); refine hK _ _ ?_; clear hK K)
 refine stepK rfl (by kernel_rfl) (fun K hK => ?_); go_simp
 first | (refine hK _ _ ?_; clear hK K) | (apply Exists.intro; apply And.intro; (focus exact kLoadMid rfl rfl aggR35 r2 xt xs id); refine hK _ _ ?_; clear hK K)
 refine stepK rfl (by kernel_rfl) (fun K hK => ?_); go_simp
 first | (refine hK _ _ ?_; clear hK K) | (apply Exists.intro; apply And.intro; (focus (intro wk hk; go_simp; exact ⟨rfl, rfl⟩)); refine hK _ _ ?_; clear hK K)
 refine stepK rfl (by kernel_rfl) (fun K hK => ?_); go_simp
 first | (refine hK _ _ ?_; clear hK K) | (apply Exists.intro; apply And.intro; (focus exact kLoadMid rfl rfl aggR35 r3 yt ys id); refine hK _ _ ?_; clear hK K)
 refine stepK rfl (by kernel_rfl) (fun K hK => ?_); go_simp
 first | (refine hK _ _ ?_; clear hK K) | (apply Exists.intro; apply And.intro; (focus (intro wk hk; go_simp; exact ⟨rfl, rfl⟩)); refine hK _ _ ?_; clear hK K)
 iterate 2 (refine stepK rfl (by kernel_rfl) (fun K hK => ?_); go_simp; apply Exists.intro; apply And.intro; (focus (intro wk hk; go_simp; exact ⟨rfl, rfl⟩)); refine hK _ _ ?_; clear hK K)
 refine stepK rfl (by kernel_rfl) (fun K hK => ?_); go_simp
 first | (refine hK _ _ ?_; clear hK K) | (apply Exists.intro; apply And.intro; (focus (intro wk hk; go_simp; exact ⟨rfl, rfl⟩)); refine hK _ _ ?_; clear hK K)
 refine stepK rfl (by kernel_rfl) (fun K hK => ?_); go_simp
 first | (refine hK _ _ ?_; clear hK K) | (apply Exists.intro; apply And.intro; (focus (intro wk hk; have cc : wk.cell? ⟨w.heap.size, 35, none⟩ = some (.slice pq1 np1 pc1) := ((K6.Row.tr r2 hk id).cell 35).trans x4; go_simp; exact ⟨rfl, rfl⟩)); refine hK _ _ ?_; clear hK K)
 refine stepK rfl (by kernel_rfl) (fun K hK => ?_); go_simp
 first | (refine hK _ _ ?_; clear hK K) | (apply Exists.intro; apply And.intro; (focus (intro wk hk; go_simp; exact ⟨rfl, rfl⟩)); refine hK _ _ ?_; clear hK K)
 refine stepK rfl (by kernel_rfl) (fun K hK => ?_); go_simp
 first | (refine hK _ _ ?_; clear hK K) | (apply Exists.intro; apply And.intro; (focus (intro wk hk; have cc : wk.cell? ⟨w.heap.size + 1, 35, none⟩ = some (.slice pq2 np2 pc2) := ((K6.Row.tr r3 hk id).cell 35).trans y4; go_simp; exact ⟨rfl, rfl⟩)); refine hK _ _ ?_; clear hK K)
 refine stepS _ rfl (by kernel_rfl) (fun K hK => ?_); go_simp
 refine ⟨?_, ?_⟩
 ·intro wk hk hg hu; go_simp; refine upon_enter ((kP.out _ (hl.trans (hk.below.mono hl.size))).mono ?_); rintro e w' ⟨rfl, hb⟩; exact ⟨_, rfl, left_V (p := fun u => u = .bool true) rfl (hb) rfl⟩
 rintro ⟨v38, lo38, hi38⟩ - - (rfl : v38 = _)
 refine hK _ _ ?_; clear hK K
 refine stepK rfl (by kernel_rfl) (fun K hK => ?_); go_simp
 first | (refine hK _ _ ?_; clear hK K) | (apply Exists.intro; apply And.intro; (focus (intro wk hk; go_simp; exact ⟨rfl, rfl⟩)); refine hK _ _ ?_; clear hK K)
 iterate 2 (refine stepK rfl (by kernel_rfl) (fun K hK => ?_); go_simp; apply Exists.intro; apply And.intro; (focus (intro wk hk; go_simp; exact ⟨rfl, rfl⟩)); refine hK _ _ ?_; clear hK K)
 refine stepK rfl (by kernel_rfl) (fun K hK => ?_); go_simp
 first | (refine hK _ _ ?_; clear hK K) | (apply Exists.intro; apply And.intro; (focus (intro wk hk; go_simp; exact ⟨rfl, rfl⟩)); refine hK _ _ ?_; clear hK K)
 refine stepK rfl (by kernel_rfl) (fun K hK => ?_); go_simp
 first | (refine hK _ _ ?_; clear hK K) | (apply Exists.intro; apply And.intro; (focus (intro wk hk; have cc : wk.cell? ⟨w.heap.size, 36, none⟩ = some (.slice lq1 nl1 lc1) := ((K6.Row.tr r2 hk id).cell 36).trans x5; go_simp; exact ⟨rfl, rfl⟩)); refine hK _ _ ?_; clear hK K)
 iterate 2 (refine stepK rfl (by kernel_rfl) (fun K hK => ?_); go_simp; (first | (refine hK _ _ ?_; clear hK K) | (apply Exists.intro; apply And.intro; (focus (intro wk hk; go_simp; exact ⟨rfl, rfl⟩)); refine hK _ _ ?_; clear hK K)))
 refine stepK rfl (by kernel_rfl) (fun K hK => ?_); go_simp
 first | (refine hK _ _ ?_; clear hK K) | (apply Exists.intro; apply And.intro; (focus (intro wk hk; have cc : wk.cell? ⟨w.heap.size + 1, 36, none⟩ = some (.slice lq2 nl1 lc2) := ((K6.Row.tr r3 hk id).cell 36).trans y5; go_simp; exact ⟨rfl, rfl⟩)); refine hK _ _ ?_; clear hK K)
 iterate 2 (refine stepK rfl (by kernel_rfl) (fun K hK => ?_); go_simp; (first | (refine hK _ _ ?_; clear hK K) | (apply Exists.intro; apply And.intro; (focus (intro wk hk; go_simp; exact ⟨rfl, rfl⟩)); refine hK _ _ ?_; clear hK K)))
 refine stepK rfl (by kernel_rfl) (fun K hK => ?_); go_simp
 apply Exists.intro; apply And.intro; (focus (intro wk hk; go_simp; exact ⟨rfl, rfl⟩)); refine hK _ _ ?_; clear hK K
 refine stepN ?_
 refine hQ _ _ ?_
 intro w9 hT hG hF
 have hb9 := hT.below
 have HL := Lib.hid (show Below w.heap.size w w9 ∧ Row w9 (w.heap.size + 1) 114 cs2 from ⟨hl.trans (hb9.mono hl.size), r3.below hb9 r3.lt⟩)
 have d5 := ((r2.below hb9 r2.lt).cell 36).trans x5
 clear hT hG hF hQ QQ L hl r2 r3 hb9 kP q1 h0 h1 h2 h3 h5 x0 x1 x2 x4 x5 x6 xt xs y0 y1 y2 y4 y6 yt ys
 go_wp2_with fail
 go_loopg [5, 61] nl1 (fun gg s5 s61 wr => ∃ i : Nat, i + gg = nl1 ∧ s61 = .int .i64 (i : Int) ∧ Hid ((l1.take i).map Lf.key = (l2.take i).map Lf.key) ∧ Hid (Below w.heap.size w wr ∧ Row wr (w.heap.size + 1) 114 cs2))
 case atStart => exact ⟨0, by omega, rfl, Lib.hid (by rw [List.take_zero, List.take_zero]), HL⟩
 case round =>
  clear HL d5
  obtain ⟨i, him, rfl, heq, hinv⟩ := hrel
  by_cases hi : i < nl1
  ·obtain ⟨x, hx⟩ : ∃ x, l1[i]? = some x := ⟨_, List.getElem?_eq_getElem (by have := HLL.out.2.2.2.1; omega)⟩
   obtain ⟨y, hy⟩ : ∃ y, l2[i]? = some y := ⟨_, List.getElem?_eq_getElem (by have := HLL.out.2.2.2.2; omega)⟩
   obtain ⟨gx, ox, cx', hu, hgx, hcx⟩ := (HLL.out.1.below hinv.out.1).1.get hx
   simp only [Value.slice.injEq] at hu
   obtain ⟨rfl, -, -⟩ := hu
   obtain ⟨gy, oy, cy', hu, hgy, hcy⟩ := (HLL.out.2.1.below hinv.out.1).1.get hy
   simp only [Value.slice.injEq] at hu
   obtain ⟨rfl, -, -⟩ := hu
   have hxo := (HLL.out.1.below hinv.out.1).2 x (List.mem_of_getElem? hx)
   have hyo := (HLL.out.2.1.below hinv.out.1).2 y (List.mem_of_getElem? hy)
   have kH := fun wx (hb : Below wr.heap.size wr wx) => hsRef_at x.pv y.pv x.p y.p wx (hxo.p.below hb) (hyo.p.below hb) (fun z hz => (hxo.h z hz).1) (fun z hz => (hyo.h z hz).1) (by have := HLL.out.2.2.1 x (List.mem_of_getElem? hx); omega)
   unfold Lf.pv at kH
   obtain ⟨bh, hbh⟩ : ∃ z, decide (x.p = y.p) = z := ⟨_, rfl⟩
   rw [hbh] at kH
   have q2 : ∀ wx, (Op.equalIn 10000 31 (.agg (W4 x.a)) (.agg (W4 y.a))).run Try.prog wx = .ok (decide (x.a = y.a)) wx := fun wx => eqU hxo.a hyo.a wx
   obtain ⟨ba, hba⟩ : ∃ z, decide (x.a = y.a) = z := ⟨_, rfl⟩
   simp only [hba] at q2
   have HK := Lib.hid (show ((x.i ≠ y.i ∨ x.t ≠ y.t ∨ ba = false ∨ bh = false) → b = false) ∧ (x.i = y.i → x.t = y.t → ba = true → bh = true → (l1.take (i + 1)).map Lf.key = (l2.take (i + 1)).map Lf.key) from by
    constructor
    ·intro h
     refine hB0.out.1 (map_ne hx hy fun he => ?_)
     unfold Lf.key at he
     simp only [Prod.mk.injEq] at he
     obtain ⟨e1, e2, e3, e4⟩ := he
     rcases h with h | h | h | h
     ·exact h e1
     ·exact h e2
     ·rw [← hba, decide_eq_true e3] at h; cases h
     ·rw [← hbh, decide_eq_true e4] at h; cases h
    ·intro e1 e2 e3 e4
     refine take_key hx hy heq.out ?_
     subst hba hbh
     unfold Lf.key
     rw [e1, e2, of_decide_eq_true e3, of_decide_eq_true e4])
   have x0 := lA0 x
   have x1 := lA1 x
   have x6 := lA6 x
   have xa := lfc_a x
   have xn := W4_size x.a
   have xz : (lfc x).toArray.size = 7 := rfl
   have xo := lfc_one x
   replace hcx : ∀ j u, (lfc x).toArray.toList[j]? = some u → wr.cell? ⟨gx, ox + i * 7 + j, none⟩ = some u := hcx
   obtain ⟨Lx, hLx⟩ : ∃ A, (lfc x).toArray = A := ⟨_, rfl⟩
   obtain ⟨Ax, hAx⟩ : ∃ A, W4 x.a = A := ⟨_, rfl⟩
   rw [hLx] at x0 x1 x6 xa xz xo hcx
   rw [hAx] at xa xn q2
   have xf := info198 xz
   obtain ⟨xi, hxi⟩ : ∃ n, x.i = n := ⟨_, rfl⟩
   obtain ⟨xt, hxt⟩ : ∃ n, x.t = n := ⟨_, rfl⟩
   obtain ⟨xq, hxq⟩ : ∃ n, x.pq = n := ⟨_, rfl⟩
   obtain ⟨xc, hxc⟩ : ∃ n, x.pc = n := ⟨_, rfl⟩
   obtain ⟨xl, hxl⟩ : ∃ n, x.p.length = n := ⟨_, rfl⟩
   rw [hxi] at x0 HK
   rw [hxt] at x1 HK
   rw [hxq, hxc, hxl] at x6 kH
   have y0 := lA0 y
   have y1 := lA1 y
   have y6 := lA6 y
   have ya := lfc_a y
   have yn := W4_size y.a
   have yz : (lfc y).toArray.size = 7 := rfl
   have yo := lfc_one y
   replace hcy : ∀ j u, (lfc y).toArray.toList[j]? = some u → wr.cell? ⟨gy, oy + i * 7 + j, none⟩ = some u := hcy
   obtain ⟨Ly, hLy⟩ : ∃ A, (lfc y).toArray = A := ⟨_, rfl⟩
   obtain ⟨Ay, hAy⟩ : ∃ A, W4 y.a = A := ⟨_, rfl⟩
   rw [hLy] at y0 y1 y6 ya yz yo hcy
   rw [hAy] at ya yn q2
   have yf := info198 yz
   obtain ⟨yi, hyi⟩ : ∃ n, y.i = n := ⟨_, rfl⟩
   obtain ⟨yt, hyt⟩ : ∃ n, y.t = n := ⟨_, rfl⟩
   obtain ⟨yq, hyq⟩ : ∃ n, y.pq = n := ⟨_, rfl⟩
   obtain ⟨yc, hyc⟩ : ∃ n, y.pc = n := ⟨_, rfl⟩
   obtain ⟨yl, hyl⟩ : ∃ n, y.p.length = n := ⟨_, rfl⟩
   rw [hyi] at y0 HK
   rw [hyt] at y1 HK
   rw [hyq, hyc, hyl] at y6 kH
   replace kH := Lib.hid kH
   clear hbh hba hxo hyo hx hy hLx hLy hAx hAy hxi hyi hxt hyt hxq hyq hxc hyc hxl hyl
   have hlt : (i : Int) < (nl1 : Int) := by omega
   have r3 := hinv.out.2
   have hl := hinv.out.1
   clear hinv
   go_upto_region 5 with (fail)
   let L : List Sp := [sA 3 198 [5] #[.int .i64 0, .int .i64 0, .int .u64 0, .int .u64 0, .int .u64 0, .int .u64 0, .slice none 0 0], sT 5 3 198 [2] (fun g => aggOf g 2)]
   refine wp_region_six0 (shs L) (look6 L) (None_) (by kernel_rfl) (by kernel_rfl) (mk_St L [] [] (by kernel_rfl) (by kernel_rfl) ⟨ok_A, ok_T aggOf_congr, trivial⟩ (by simp)) ?_
   intro QQ hQ
   iterate 2 (refine stepK rfl (by kernel_rfl) (fun K hK => ?_); go_simp; apply Exists.intro; apply And.intro; (focus (intro wk hk; go_simp; exact ⟨rfl, rfl⟩)); refine hK _ _ ?_; clear hK K)
   refine stepK rfl (by kernel_rfl) (fun K hK => ?_); go_simp
   apply Exists.intro; apply And.intro; (focus exact kLoadA rfl rfl aggT198 hcx xz hgx id); refine hK _ _ ?_; clear hK K
   refine stepS _ rfl (by kernel_rfl) (fun K hK => ?_); go_simp
   refine ⟨?_, ?_⟩
   ·intro wk hk hg hu; go_simp; exact left_A rfl rfl
   rintro ⟨v3, lo3, hi3⟩ hlo3 hhi3 ⟨e3, f3⟩
   replace e3 : v3 = .pointer (some ⟨lo3, 0, none⟩) := e3; replace f3 : hi3 = lo3 + 1 := f3; replace hlo3 : _ ≤ lo3 := hlo3; subst e3; subst f3
   refine hK _ _ ?_; clear hK K
   refine stepK rfl (by kernel_rfl) (fun K hK => ?_); go_simp
   apply Exists.intro; apply And.intro; (focus (intro wk hk; go_simp; exact ⟨rfl, rfl⟩)); refine hK _ _ ?_; clear hK K
   refine stepS _ rfl (by kernel_rfl) (fun K hK => ?_); go_simp
   refine ⟨?_, ?_⟩
   ·exact sStoreT rfl rfl rfl rfl rfl rfl rfl xf xz.symm xo (by decide) aggOf_congr
   rintro ⟨v5, lo5, hi5⟩ - - (rfl : v5 = undef)
   refine hK _ _ ?_; clear hK K
   refine stepN ?_
   refine hQ _ _ ?_
   intro w4 hT hG hF
   have hbw4 := hT.below
   have rX : Row w4 lo3 198 Lx := (hF 5 _ rfl rfl (by decide)).2
   have hl4 := hl.trans (hbw4.mono hl.size)
   have r3 := r3.below hbw4 r3.lt
   replace hcy : ∀ j u, Ly.toList[j]? = some u → w4.cell? ⟨gy, oy + i * 7 + j, none⟩ = some u := fun j u hj => (World.cell?_of_block (hbw4.block gy hgy)).trans (hcy j u hj)
   have hgy := Nat.lt_of_lt_of_le hgy hbw4.size
   have HW4 := Lib.hid hbw4
   clear hT hG hF hQ QQ L hcx hgx hbw4 hl xo xf hhi3 hlo3
   go_upto_region 6 with (fail)
   let L : List Sp := [sA 5 198 [6] #[.int .i64 0, .int .i64 0, .int .u64 0, .int .u64 0, .int .u64 0, .int .u64 0, .slice none 0 0], sT 6 5 198 [4] (fun g => aggOf g 4)]
   refine wp_region_six0 (shs L) (look6 L) (None_) (by kernel_rfl) (by kernel_rfl) (mk_St L [] [] (by kernel_rfl) (by kernel_rfl) ⟨ok_A, ok_T aggOf_congr, trivial⟩ (by simp)) ?_
   intro QQ hQ
   refine stepK rfl (by kernel_rfl) (fun K hK => ?_); go_simp
   apply Exists.intro; apply And.intro; (focus (intro wk hk; go_simp; exact ⟨rfl, rfl⟩)); refine hK _ _ ?_; clear hK K
   refine stepK rfl (by kernel_rfl) (fun K hK => ?_); go_simp
   apply Exists.intro; apply And.intro; (focus (intro wk hk; have cc : wk.cell? ⟨w.heap.size + 1, 36, none⟩ = some (.slice (some ⟨gy, oy, none⟩) nl1 lc2) := ((K6.Row.tr r3 hk id).cell 36).trans y5; go_simp; exact ⟨rfl, rfl⟩)); refine hK _ _ ?_; clear hK K
   iterate 2 (refine stepK rfl (by kernel_rfl) (fun K hK => ?_); go_simp; apply Exists.intro; apply And.intro; (focus (intro wk hk; go_simp; exact ⟨rfl, rfl⟩)); refine hK _ _ ?_; clear hK K)
   refine stepK rfl (by kernel_rfl) (fun K hK => ?_); go_simp
   apply Exists.intro; apply And.intro; (focus exact kLoadA rfl rfl aggT198 hcy yz hgy id); refine hK _ _ ?_; clear hK K
   refine stepS _ rfl (by kernel_rfl) (fun K hK => ?_); go_simp
   refine ⟨?_, ?_⟩
   ·intro wk hk hg hu; go_simp; exact left_A rfl rfl
   rintro ⟨v5, lo5, hi5⟩ hlo5 hhi5 ⟨e5, f5⟩
   replace e5 : v5 = .pointer (some ⟨lo5, 0, none⟩) := e5; replace f5 : hi5 = lo5 + 1 := f5; replace hlo5 : _ ≤ lo5 := hlo5; subst e5; subst f5
   refine hK _ _ ?_; clear hK K
   refine stepS _ rfl (by kernel_rfl) (fun K hK => ?_); go_simp
   refine ⟨?_, ?_⟩
   ·exact sStoreT rfl rfl rfl rfl rfl rfl rfl yf yz.symm yo (by decide) aggOf_congr
   rintro ⟨v6, lo6, hi6⟩ - - (rfl : v6 = undef)
   refine hK _ _ ?_; clear hK K
   refine stepN ?_
   refine hQ _ _ ?_
   intro w5 hT hG hF
   have hbw5 := hT.below
   have rY : Row w5 lo5 198 Ly := (hF 6 _ rfl rfl (by decide)).2
   have hl5 := hl4.trans (hbw5.mono hl4.size)
   have r3 := r3.below hbw5 r3.lt
   have rX := rX.below hbw5 rX.lt
   have HW5 := Lib.hid (HW4.out.trans (hbw5.mono HW4.out.size))
   clear hT hG hF hQ QQ L hcy hgy hbw5 hl4 yo yf hhi5 hlo5 HW4
   go_upto_region 7 with (fail)
   by_cases e0 : xi = yi
   case neg =>
    have h0 : (xi != yi) = true := by rw [bne_iff_ne]; exact e0
    have hbb := HK.out.1 (.inl e0)
    subst hbb
    clear HK e0 kH q2
    let L : List Sp := []
    refine wp_region_six0 (shs L) (look6 L) (None_) (by kernel_rfl) (by kernel_rfl) (mk_St L [] [] (by kernel_rfl) (by kernel_rfl) trivial (by simp)) ?_
    intro QQ hQ
    refine stepK rfl (by kernel_rfl) (fun K hK => ?_); go_simp
    apply Exists.intro; apply And.intro; (focus (intro wk hk; go_simp; exact ⟨rfl, rfl⟩)); refine hK _ _ ?_; clear hK K
    refine stepK rfl (by kernel_rfl) (fun K hK => ?_); go_simp
    apply Exists.intro; apply And.intro; (focus (intro wk hk; have cc : wk.cell? ⟨lo3, 0, none⟩ = some (.int .i64 xi) := ((K6.Row.tr rX hk id).cell 0).trans x0; go_simp; exact ⟨rfl, rfl⟩)); refine hK _ _ ?_; clear hK K
    refine stepK rfl (by kernel_rfl) (fun K hK => ?_); go_simp
    apply Exists.intro; apply And.intro; (focus (intro wk hk; go_simp; exact ⟨rfl, rfl⟩)); refine hK _ _ ?_; clear hK K
    refine stepK rfl (by kernel_rfl) (fun K hK => ?_); go_simp
    apply Exists.intro; apply And.intro; (focus (intro wk hk; have cc : wk.cell? ⟨lo5, 0, none⟩ = some (.int .i64 yi) := ((K6.Row.tr rY hk id).cell 0).trans y0; go_simp; exact ⟨rfl, rfl⟩)); refine hK _ _ ?_; clear hK K
    iterate 2 (refine stepK rfl (by kernel_rfl) (fun K hK => ?_); go_simp; apply Exists.intro; apply And.intro; (focus (intro wk hk; go_simp; exact ⟨rfl, rfl⟩)); refine hK _ _ ?_; clear hK K)
    iterate 5 (refine stepK rfl (by kernel_rfl) (fun K hK => ?_); go_simp; (first | (refine hK _ _ ?_; clear hK K) | (apply Exists.intro; apply And.intro; (focus (intro wk hk; go_simp; exact ⟨rfl, rfl⟩)); refine hK _ _ ?_; clear hK K)))
    iterate 2 (refine stepK rfl (by kernel_rfl) (fun K hK => ?_); go_simp; apply Exists.intro; apply And.intro; (focus (intro wk hk; go_simp; exact ⟨rfl, rfl⟩)); refine hK _ _ ?_; clear hK K)
    iterate 5 (refine stepK rfl (by kernel_rfl) (fun K hK => ?_); go_simp; (first | (refine hK _ _ ?_; clear hK K) | (apply Exists.intro; apply And.intro; (focus (intro wk hk; go_simp; exact ⟨rfl, rfl⟩)); refine hK _ _ ?_; clear hK K)))
    iterate 2 (refine stepK rfl (by kernel_rfl) (fun K hK => ?_); go_simp; apply Exists.intro; apply And.intro; (focus (intro wk hk; go_simp; exact ⟨rfl, rfl⟩)); refine hK _ _ ?_; clear hK K)
    iterate 6 (refine stepK rfl (by kernel_rfl) (fun K hK => ?_); go_simp; (first | (refine hK _ _ ?_; clear hK K) | (apply Exists.intro; apply And.intro; (focus (intro wk hk; go_simp; exact ⟨rfl, rfl⟩)); refine hK _ _ ?_; clear hK K)))
    refine stepK rfl (by kernel_rfl) (fun K hK => ?_); go_simp
    apply Exists.intro; apply And.intro; (focus (intro wk hk; go_simp; exact ⟨rfl, rfl⟩)); refine hK _ _ ?_; clear hK K
    refine stepN ?_
    refine hQ _ _ ?_
    intro w6 hT hG hF
    have hb6 := hT.below
    have H6 := Lib.hid (show Below w.heap.size w w6 ∧ Row w6 (w.heap.size + 1) 114 cs2 from ⟨hl5.trans (hb6.mono hl5.size), r3.below hb6 r3.lt⟩)
    clear hT hG hF hQ QQ L hl5 r3 hb6 rX rY
    go_wp2_with fail
    go_ret
    exact ⟨rfl, H6.out.1⟩
   have h0 : (xi != yi) = false := by rw [e0]; exact bne_self_eq_false _
   by_cases e1 : xt = yt
   case neg =>
    have h1 : (xt != yt) = true := by rw [bne_iff_ne]; exact e1
    have hbb := HK.out.1 (.inr (.inl e1))
    subst hbb
    clear HK e0 e1 kH q2
    let L : List Sp := []
    refine wp_region_six0 (shs L) (look6 L) (None_) (by kernel_rfl) (by kernel_rfl) (mk_St L [] [] (by kernel_rfl) (by kernel_rfl) trivial (by simp)) ?_
    intro QQ hQ
    refine stepK rfl (by kernel_rfl) (fun K hK => ?_); go_simp
    apply Exists.intro; apply And.intro; (focus (intro wk hk; go_simp; exact ⟨rfl, rfl⟩)); refine hK _ _ ?_; clear hK K
    refine stepK rfl (by kernel_rfl) (fun K hK => ?_); go_simp
    apply Exists.intro; apply And.intro; (focus (intro wk hk; have cc : wk.cell? ⟨lo3, 0, none⟩ = some (.int .i64 xi) := ((K6.Row.tr rX hk id).cell 0).trans x0; go_simp; exact ⟨rfl, rfl⟩)); refine hK _ _ ?_; clear hK K
    refine stepK rfl (by kernel_rfl) (fun K hK => ?_); go_simp
    apply Exists.intro; apply And.intro; (focus (intro wk hk; go_simp; exact ⟨rfl, rfl⟩)); refine hK _ _ ?_; clear hK K
    refine stepK rfl (by kernel_rfl) (fun K hK => ?_); go_simp
    apply Exists.intro; apply And.intro; (focus (intro wk hk; have cc : wk.cell? ⟨lo5, 0, none⟩ = some (.int .i64 yi) := ((K6.Row.tr rY hk id).cell 0).trans y0; go_simp; exact ⟨rfl, rfl⟩)); refine hK _ _ ?_; clear hK K
    iterate 2 (refine stepK rfl (by kernel_rfl) (fun K hK => ?_); go_simp; apply Exists.intro; apply And.intro; (focus (intro wk hk; go_simp; exact ⟨rfl, rfl⟩)); refine hK _ _ ?_; clear hK K)
    refine stepK rfl (by kernel_rfl) (fun K hK => ?_); go_simp
    first | (refine hK _ _ ?_; clear hK K) | (apply Exists.intro; apply And.intro; (focus (intro wk hk; go_simp; exact ⟨rfl, rfl⟩)); refine hK _ _ ?_; clear hK K)
    refine stepK rfl (by kernel_rfl) (fun K hK => ?_); go_simp
    first | (refine hK _ _ ?_; clear hK K) | (apply Exists.intro; apply And.intro; (focus (intro wk hk; have cc : wk.cell? ⟨lo3, 1, none⟩ = some (.int .i64 xt) := ((K6.Row.tr rX hk id).cell 1).trans x1; go_simp; exact ⟨rfl, rfl⟩)); refine hK _ _ ?_; clear hK K)
    refine stepK rfl (by kernel_rfl) (fun K hK => ?_); go_simp
    first | (refine hK _ _ ?_; clear hK K) | (apply Exists.intro; apply And.intro; (focus (intro wk hk; go_simp; exact ⟨rfl, rfl⟩)); refine hK _ _ ?_; clear hK K)
    refine stepK rfl (by kernel_rfl) (fun K hK => ?_); go_simp
    first | (refine hK _ _ ?_; clear hK K) | (apply Exists.intro; apply And.intro; (focus (intro wk hk; have cc : wk.cell? ⟨lo5, 1, none⟩ = some (.int .i64 yt) := ((K6.Row.tr rY hk id).cell 1).trans y1; go_simp; exact ⟨rfl, rfl⟩)); refine hK _ _ ?_; clear hK K)
    refine stepK rfl (by kernel_rfl) (fun K hK => ?_); go_simp
    first | (refine hK _ _ ?_; clear hK K) | (apply Exists.intro; apply And.intro; (focus (intro wk hk; go_simp; exact ⟨rfl, rfl⟩)); refine hK _ _ ?_; clear hK K)
    iterate 2 (refine stepK rfl (by kernel_rfl) (fun K hK => ?_); go_simp; apply Exists.intro; apply And.intro; (focus (intro wk hk; go_simp; exact ⟨rfl, rfl⟩)); refine hK _ _ ?_; clear hK K)
    iterate 5 (refine stepK rfl (by kernel_rfl) (fun K hK => ?_); go_simp; (first | (refine hK _ _ ?_; clear hK K) | (apply Exists.intro; apply And.intro; (focus (intro wk hk; go_simp; exact ⟨rfl, rfl⟩)); refine hK _ _ ?_; clear hK K)))
    iterate 2 (refine stepK rfl (by kernel_rfl) (fun K hK => ?_); go_simp; apply Exists.intro; apply And.intro; (focus (intro wk hk; go_simp; exact ⟨rfl, rfl⟩)); refine hK _ _ ?_; clear hK K)
    iterate 6 (refine stepK rfl (by kernel_rfl) (fun K hK => ?_); go_simp; (first | (refine hK _ _ ?_; clear hK K) | (apply Exists.intro; apply And.intro; (focus (intro wk hk; go_simp; exact ⟨rfl, rfl⟩)); refine hK _ _ ?_; clear hK K)))
    refine stepK rfl (by kernel_rfl) (fun K hK => ?_); go_simp
    apply Exists.intro; apply And.intro; (focus (intro wk hk; go_simp; exact ⟨rfl, rfl⟩)); refine hK _ _ ?_; clear hK K
    refine stepN ?_
    refine hQ _ _ ?_
    intro w6 hT hG hF
    have hb6 := hT.below
    have H6 := Lib.hid (show Below w.heap.size w w6 ∧ Row w6 (w.heap.size + 1) 114 cs2 from ⟨hl5.trans (hb6.mono hl5.size), r3.below hb6 r3.lt⟩)
    clear hT hG hF hQ QQ L hl5 r3 hb6 rX rY
    go_wp2_with fail
    go_ret
    exact ⟨rfl, H6.out.1⟩
   have h1 : (xt != yt) = false := by rw [e1]; exact bne_self_eq_false _
   cases ba
   ·have hbb := HK.out.1 (.inr (.inr (.inl rfl)))
    subst hbb
    clear HK e0 e1 kH
    let L : List Sp := []
    refine wp_region_six0 (shs L) (look6 L) (None_) (by kernel_rfl) (by kernel_rfl) (mk_St L [] [] (by kernel_rfl) (by kernel_rfl) trivial (by simp)) ?_
    intro QQ hQ
    refine stepK rfl (by kernel_rfl) (fun K hK => ?_); go_simp
    apply Exists.intro; apply And.intro; (focus (intro wk hk; go_simp; exact ⟨rfl, rfl⟩)); refine hK _ _ ?_; clear hK K
    refine stepK rfl (by kernel_rfl) (fun K hK => ?_); go_simp
    apply Exists.intro; apply And.intro; (focus (intro wk hk; have cc : wk.cell? ⟨lo3, 0, none⟩ = some (.int .i64 xi) := ((K6.Row.tr rX hk id).cell 0).trans x0; go_simp; exact ⟨rfl, rfl⟩)); refine hK _ _ ?_; clear hK K
    refine stepK rfl (by kernel_rfl) (fun K hK => ?_); go_simp
    apply Exists.intro; apply And.intro; (focus (intro wk hk; go_simp; exact ⟨rfl, rfl⟩)); refine hK _ _ ?_; clear hK K
    refine stepK rfl (by kernel_rfl) (fun K hK => ?_); go_simp
    apply Exists.intro; apply And.intro; (focus (intro wk hk; have cc : wk.cell? ⟨lo5, 0, none⟩ = some (.int .i64 yi) := ((K6.Row.tr rY hk id).cell 0).trans y0; go_simp; exact ⟨rfl, rfl⟩)); refine hK _ _ ?_; clear hK K
    iterate 2 (refine stepK rfl (by kernel_rfl) (fun K hK => ?_); go_simp; apply Exists.intro; apply And.intro; (focus (intro wk hk; go_simp; exact ⟨rfl, rfl⟩)); refine hK _ _ ?_; clear hK K)
    refine stepK rfl (by kernel_rfl) (fun K hK => ?_); go_simp
    first | (refine hK _ _ ?_; clear hK K) | (apply Exists.intro; apply And.intro; (focus (intro wk hk; go_simp; exact ⟨rfl, rfl⟩)); refine hK _ _ ?_; clear hK K)
    refine stepK rfl (by kernel_rfl) (fun K hK => ?_); go_simp
    first | (refine hK _ _ ?_; clear hK K) | (apply Exists.intro; apply And.intro; (focus (intro wk hk; have cc : wk.cell? ⟨lo3, 1, none⟩ = some (.int .i64 xt) := ((K6.Row.tr rX hk id).cell 1).trans x1; go_simp; exact ⟨rfl, rfl⟩)); refine hK _ _ ?_; clear hK K)
    refine stepK rfl (by kernel_rfl) (fun K hK => ?_); go_simp
    first | (refine hK _ _ ?_; clear hK K) | (apply Exists.intro; apply And.intro; (focus (intro wk hk; go_simp; exact ⟨rfl, rfl⟩)); refine hK _ _ ?_; clear hK K)
    refine stepK rfl (by kernel_rfl) (fun K hK => ?_); go_simp
    first | (refine hK _ _ ?_; clear hK K) | (apply Exists.intro; apply And.intro; (focus (intro wk hk; have cc : wk.cell? ⟨lo5, 1, none⟩ = some (.int .i64 yt) := ((K6.Row.tr rY hk id).cell 1).trans y1; go_simp; exact ⟨rfl, rfl⟩)); refine hK _ _ ?_; clear hK K)
    refine stepK rfl (by kernel_rfl) (fun K hK => ?_); go_simp
    first | (refine hK _ _ ?_; clear hK K) | (apply Exists.intro; apply And.intro; (focus (intro wk hk; go_simp; exact ⟨rfl, rfl⟩)); refine hK _ _ ?_; clear hK K)
    iterate 2 (refine stepK rfl (by kernel_rfl) (fun K hK => ?_); go_simp; apply Exists.intro; apply And.intro; (focus (intro wk hk; go_simp; exact ⟨rfl, rfl⟩)); refine hK _ _ ?_; clear hK K)
    refine stepK rfl (by kernel_rfl) (fun K hK => ?_); go_simp
    first | (refine hK _ _ ?_; clear hK K) | (apply Exists.intro; apply And.intro; (focus (intro wk hk; go_simp; exact ⟨rfl, rfl⟩)); refine hK _ _ ?_; clear hK K)
    refine stepK rfl (by kernel_rfl) (fun K hK => ?_); go_simp
    first | (refine hK _ _ ?_; clear hK K) | (apply Exists.intro; apply And.intro; (focus exact kLoadMid rfl rfl aggT31 rX xa xn id); refine hK _ _ ?_; clear hK K)
    refine stepK rfl (by kernel_rfl) (fun K hK => ?_); go_simp
    first | (refine hK _ _ ?_; clear hK K) | (apply Exists.intro; apply And.intro; (focus (intro wk hk; go_simp; exact ⟨rfl, rfl⟩)); refine hK _ _ ?_; clear hK K)
    refine stepK rfl (by kernel_rfl) (fun K hK => ?_); go_simp
    first | (refine hK _ _ ?_; clear hK K) | (apply Exists.intro; apply And.intro; (focus exact kLoadMid rfl rfl aggT31 rY ya yn id); refine hK _ _ ?_; clear hK K)
    refine stepK rfl (by kernel_rfl) (fun K hK => ?_); go_simp
    first | (refine hK _ _ ?_; clear hK K) | (apply Exists.intro; apply And.intro; (focus (intro wk hk; go_simp; exact ⟨rfl, rfl⟩)); refine hK _ _ ?_; clear hK K)
    iterate 2 (refine stepK rfl (by kernel_rfl) (fun K hK => ?_); go_simp; apply Exists.intro; apply And.intro; (focus (intro wk hk; go_simp; exact ⟨rfl, rfl⟩)); refine hK _ _ ?_; clear hK K)
    iterate 6 (refine stepK rfl (by kernel_rfl) (fun K hK => ?_); go_simp; (first | (refine hK _ _ ?_; clear hK K) | (apply Exists.intro; apply And.intro; (focus (intro wk hk; go_simp; exact ⟨rfl, rfl⟩)); refine hK _ _ ?_; clear hK K)))
    refine stepK rfl (by kernel_rfl) (fun K hK => ?_); go_simp
    apply Exists.intro; apply And.intro; (focus (intro wk hk; go_simp; exact ⟨rfl, rfl⟩)); refine hK _ _ ?_; clear hK K
    refine stepN ?_
    refine hQ _ _ ?_
    intro w6 hT hG hF
    have hb6 := hT.below
    have H6 := Lib.hid (show Below w.heap.size w w6 ∧ Row w6 (w.heap.size + 1) 114 cs2 from ⟨hl5.trans (hb6.mono hl5.size), r3.below hb6 r3.lt⟩)
    clear hT hG hF hQ QQ L hl5 r3 hb6 rX rY
    go_wp2_with fail
    go_ret
    exact ⟨rfl, H6.out.1⟩
   cases bh
   ·have hbb := HK.out.1 (.inr (.inr (.inr rfl)))
    subst hbb
    clear HK e0 e1
    let L : List Sp := [sV 24 [] [] (fun u => u = .bool false)]
    refine wp_region_six0 (shs L) (look6 L) (None_) (by kernel_rfl) (by kernel_rfl) (mk_St L [] [] (by kernel_rfl) (by kernel_rfl) ⟨ok_V ⟨_, rfl⟩, trivial⟩ (by simp)) ?_
    intro QQ hQ
    refine stepK rfl (by kernel_rfl) (fun K hK => ?_); go_simp
    apply Exists.intro; apply And.intro; (focus (intro wk hk; go_simp; exact ⟨rfl, rfl⟩)); refine hK _ _ ?_; clear hK K
    refine stepK rfl (by kernel_rfl) (fun K hK => ?_); go_simp
    apply Exists.intro; apply And.intro; (focus (intro wk hk; have cc : wk.cell? ⟨lo3, 0, none⟩ = some (.int .i64 xi) := ((K6.Row.tr rX hk id).cell 0).trans x0; go_simp; exact ⟨rfl, rfl⟩)); refine hK _ _ ?_; clear hK K
    refine stepK rfl (by kernel_rfl) (fun K hK => ?_); go_simp
    apply Exists.intro; apply And.intro; (focus (intro wk hk; go_simp; exact ⟨rfl, rfl⟩)); refine hK _ _ ?_; clear hK K
    refine stepK rfl (by kernel_rfl) (fun K hK => ?_); go_simp
    apply Exists.intro; apply And.intro; (focus (intro wk hk; have cc : wk.cell? ⟨lo5, 0, none⟩ = some (.int .i64 yi) := ((K6.Row.tr rY hk id).cell 0).trans y0; go_simp; exact ⟨rfl, rfl⟩)); refine hK _ _ ?_; clear hK K
    iterate 2 (refine stepK rfl (by kernel_rfl) (fun K hK => ?_); go_simp; apply Exists.intro; apply And.intro; (focus (intro wk hk; go_simp; exact ⟨rfl, rfl⟩)); refine hK _ _ ?_; clear hK K)
    refine stepK rfl (by kernel_rfl) (fun K hK => ?_); go_simp
    first | (refine hK _ _ ?_; clear hK K) | (apply Exists.intro; apply And.intro; (focus (intro wk hk; go_simp; exact ⟨rfl, rfl⟩)); refine hK _ _ ?_; clear hK K)
    refine stepK rfl (by kernel_rfl) (fun K hK => ?_); go_simp
    first | (refine hK _ _ ?_; clear hK K) | (apply Exists.intro; apply And.intro; (focus (intro wk hk; have cc : wk.cell? ⟨lo3, 1, none⟩ = some (.int .i64 xt) := ((K6.Row.tr rX hk id).cell 1).trans x1; go_simp; exact ⟨rfl, rfl⟩)); refine hK _ _ ?_; clear hK K)
    refine stepK rfl (by kernel_rfl) (fun K hK => ?_); go_simp
    first | (refine hK _ _ ?_; clear hK K) | (apply Exists.intro; apply And.intro; (focus (intro wk hk; go_simp; exact ⟨rfl, rfl⟩)); refine hK _ _ ?_; clear hK K)
    refine stepK rfl (by kernel_rfl) (fun K hK => ?_); go_simp
    first | (refine hK _ _ ?_; clear hK K) | (apply Exists.intro; apply And.intro; (focus (intro wk hk; have cc : wk.cell? ⟨lo5, 1, none⟩ = some (.int .i64 yt) := ((K6.Row.tr rY hk id).cell 1).trans y1; go_simp; exact ⟨rfl, rfl⟩)); refine hK _ _ ?_; clear hK K)
    refine stepK rfl (by kernel_rfl) (fun K hK => ?_); go_simp
    first | (refine hK _ _ ?_; clear hK K) | (apply Exists.intro; apply And.intro; (focus (intro wk hk; go_simp; exact ⟨rfl, rfl⟩)); refine hK _ _ ?_; clear hK K)
    iterate 2 (refine stepK rfl (by kernel_rfl) (fun K hK => ?_); go_simp; apply Exists.intro; apply And.intro; (focus (intro wk hk; go_simp; exact ⟨rfl, rfl⟩)); refine hK _ _ ?_; clear hK K)
    refine stepK rfl (by kernel_rfl) (fun K hK => ?_); go_simp
    first | (refine hK _ _ ?_; clear hK K) | (apply Exists.intro; apply And.intro; (focus (intro wk hk; go_simp; exact ⟨rfl, rfl⟩)); refine hK _ _ ?_; clear hK K)
    refine stepK rfl (by kernel_rfl) (fun K hK => ?_); go_simp
    first | (refine hK _ _ ?_; clear hK K) | (apply Exists.intro; apply And.intro; (focus exact kLoadMid rfl rfl aggT31 rX xa xn id); refine hK _ _ ?_; clear hK K)
    refine stepK rfl (by kernel_rfl) (fun K hK => ?_); go_simp
    first | (refine hK _ _ ?_; clear hK K) | (apply Exists.intro; apply And.intro; (focus (intro wk hk; go_simp; exact ⟨rfl, rfl⟩)); refine hK _ _ ?_; clear hK K)
    refine stepK rfl (by kernel_rfl) (fun K hK => ?_); go_simp
    first | (refine hK _ _ ?_; clear hK K) | (apply Exists.intro; apply And.intro; (focus exact kLoadMid rfl rfl aggT31 rY ya yn id); refine hK _ _ ?_; clear hK K)
    refine stepK rfl (by kernel_rfl) (fun K hK => ?_); go_simp
    first | (refine hK _ _ ?_; clear hK K) | (apply Exists.intro; apply And.intro; (focus (intro wk hk; go_simp; exact ⟨rfl, rfl⟩)); refine hK _ _ ?_; clear hK K)
    iterate 2 (refine stepK rfl (by kernel_rfl) (fun K hK => ?_); go_simp; apply Exists.intro; apply And.intro; (focus (intro wk hk; go_simp; exact ⟨rfl, rfl⟩)); refine hK _ _ ?_; clear hK K)
    refine stepK rfl (by kernel_rfl) (fun K hK => ?_); go_simp
    first | (refine hK _ _ ?_; clear hK K) | (apply Exists.intro; apply And.intro; (focus (intro wk hk; go_simp; exact ⟨rfl, rfl⟩)); refine hK _ _ ?_; clear hK K)
    refine stepK rfl (by kernel_rfl) (fun K hK => ?_); go_simp
    first | (refine hK _ _ ?_; clear hK K) | (apply Exists.intro; apply And.intro; (focus (intro wk hk; have cc : wk.cell? ⟨lo3, 6, none⟩ = some (.slice xq xl xc) := ((K6.Row.tr rX hk id).cell 6).trans x6; go_simp; exact ⟨rfl, rfl⟩)); refine hK _ _ ?_; clear hK K)
    refine stepK rfl (by kernel_rfl) (fun K hK => ?_); go_simp
    first | (refine hK _ _ ?_; clear hK K) | (apply Exists.intro; apply And.intro; (focus (intro wk hk; go_simp; exact ⟨rfl, rfl⟩)); refine hK _ _ ?_; clear hK K)
    refine stepK rfl (by kernel_rfl) (fun K hK => ?_); go_simp
    first | (refine hK _ _ ?_; clear hK K) | (apply Exists.intro; apply And.intro; (focus (intro wk hk; have cc : wk.cell? ⟨lo5, 6, none⟩ = some (.slice yq yl yc) := ((K6.Row.tr rY hk id).cell 6).trans y6; go_simp; exact ⟨rfl, rfl⟩)); refine hK _ _ ?_; clear hK K)
    refine stepS _ rfl (by kernel_rfl) (fun K hK => ?_); go_simp
    refine ⟨?_, ?_⟩
    ·intro wk hk hg hu; go_simp; refine upon_enter ((kH.out _ (HW5.out.trans (hk.below.mono HW5.out.size))).mono ?_); rintro e w' ⟨rfl, hb⟩; exact ⟨_, rfl, left_V (p := fun u => u = .bool false) rfl (hb) rfl⟩
    rintro ⟨v24, lo24, hi24⟩ - - (rfl : v24 = _)
    refine hK _ _ ?_; clear hK K
    refine stepK rfl (by kernel_rfl) (fun K hK => ?_); go_simp
    first | (refine hK _ _ ?_; clear hK K) | (apply Exists.intro; apply And.intro; (focus (intro wk hk; go_simp; exact ⟨rfl, rfl⟩)); refine hK _ _ ?_; clear hK K)
    refine stepK rfl (by kernel_rfl) (fun K hK => ?_); go_simp
    apply Exists.intro; apply And.intro; (focus (intro wk hk; go_simp; exact ⟨rfl, rfl⟩)); refine hK _ _ ?_; clear hK K
    refine stepN ?_
    refine hQ _ _ ?_
    intro w6 hT hG hF
    have hb6 := hT.below
    have H6 := Lib.hid (show Below w.heap.size w w6 ∧ Row w6 (w.heap.size + 1) 114 cs2 from ⟨hl5.trans (hb6.mono hl5.size), r3.below hb6 r3.lt⟩)
    clear hT hG hF hQ QQ L hl5 r3 hb6 rX rY
    go_wp2_with fail
    go_ret
    exact ⟨rfl, H6.out.1⟩
   have hnext := Lib.hid (HK.out.2 e0 e1 rfl rfl)
   clear HK e0 e1
   let L : List Sp := [sV 24 [] [] (fun u => u = .bool true)]
   refine wp_region_six0 (shs L) (look6 L) (None_) (by kernel_rfl) (by kernel_rfl) (mk_St L [] [] (by kernel_rfl) (by kernel_rfl) ⟨ok_V ⟨_, rfl⟩, trivial⟩ (by simp)) ?_
   intro QQ hQ
   refine stepK rfl (by kernel_rfl) (fun K hK => ?_); go_simp
   apply Exists.intro; apply And.intro; (focus (intro wk hk; go_simp; exact ⟨rfl, rfl⟩)); refine hK _ _ ?_; clear hK K
   refine stepK rfl (by kernel_rfl) (fun K hK => ?_); go_simp
   apply Exists.intro; apply And.intro; (focus (intro wk hk; have cc : wk.cell? ⟨lo3, 0, none⟩ = some (.int .i64 xi) := ((K6.Row.tr rX hk id).cell 0).trans x0; go_simp; exact ⟨rfl, rfl⟩)); refine hK _ _ ?_; clear hK K
   refine stepK rfl (by kernel_rfl) (fun K hK => ?_); go_simp
   apply Exists.intro; apply And.intro; (focus (intro wk hk; go_simp; exact ⟨rfl, rfl⟩)); refine hK _ _ ?_; clear hK K
   refine stepK rfl (by kernel_rfl) (fun K hK => ?_); go_simp
   apply Exists.intro; apply And.intro; (focus (intro wk hk; have cc : wk.cell? ⟨lo5, 0, none⟩ = some (.int .i64 yi) := ((K6.Row.tr rY hk id).cell 0).trans y0; go_simp; exact ⟨rfl, rfl⟩)); refine hK _ _ ?_; clear hK K
   iterate 2 (refine stepK rfl (by kernel_rfl) (fun K hK => ?_); go_simp; apply Exists.intro; apply And.intro; (focus (intro wk hk; go_simp; exact ⟨rfl, rfl⟩)); refine hK _ _ ?_; clear hK K)
   refine stepK rfl (by kernel_rfl) (fun K hK => ?_); go_simp
   first | (refine hK _ _ ?_; clear hK K) | (apply Exists.intro; apply And.intro; (focus (intro wk hk; go_simp; exact ⟨rfl, rfl⟩)); refine hK _ _ ?_; clear hK K)
   refine stepK rfl (by kernel_rfl) (fun K hK => ?_); go_simp
   first | (refine hK _ _ ?_; clear hK K) | (apply Exists.intro; apply And.intro; (focus (intro wk hk; have cc : wk.cell? ⟨lo3, 1, none⟩ = some (.int .i64 xt) := ((K6.Row.tr rX hk id).cell 1).trans x1; go_simp; exact ⟨rfl, rfl⟩)); refine hK _ _ ?_; clear hK K)
   refine stepK rfl (by kernel_rfl) (fun K hK => ?_); go_simp
   first | (refine hK _ _ ?_; clear hK K) | (apply Exists.intro; apply And.intro; (focus (intro wk hk; go_simp; exact ⟨rfl, rfl⟩)); refine hK _ _ ?_; clear hK K)
   refine stepK rfl (by kernel_rfl) (fun K hK => ?_); go_simp
   first | (refine hK _ _ ?_; clear hK K) | (apply Exists.intro; apply And.intro; (focus (intro wk hk; have cc : wk.cell? ⟨lo5, 1, none⟩ = some (.int .i64 yt) := ((K6.Row.tr rY hk id).cell 1).trans y1; go_simp; exact ⟨rfl, rfl⟩)); refine hK _ _ ?_; clear hK K)
   refine stepK rfl (by kernel_rfl) (fun K hK => ?_); go_simp
   first | (refine hK _ _ ?_; clear hK K) | (apply Exists.intro; apply And.intro; (focus (intro wk hk; go_simp; exact ⟨rfl, rfl⟩)); refine hK _ _ ?_; clear hK K)
   iterate 2 (refine stepK rfl (by kernel_rfl) (fun K hK => ?_); go_simp; apply Exists.intro; apply And.intro; (focus (intro wk hk; go_simp; exact ⟨rfl, rfl⟩)); refine hK _ _ ?_; clear hK K)
   refine stepK rfl (by kernel_rfl) (fun K hK => ?_); go_simp
   first | (refine hK _ _ ?_; clear hK K) | (apply Exists.intro; apply And.intro; (focus (intro wk hk; go_simp; exact ⟨rfl, rfl⟩)); refine hK _ _ ?_; clear hK K)
   refine stepK rfl (by kernel_rfl) (fun K hK => ?_); go_simp
   first | (refine hK _ _ ?_; clear hK K) | (apply Exists.intro; apply And.intro; (focus exact kLoadMid rfl rfl aggT31 rX xa xn id); refine hK _ _ ?_; clear hK K)
   refine stepK rfl (by kernel_rfl) (fun K hK => ?_); go_simp
   first | (refine hK _ _ ?_; clear hK K) | (apply Exists.intro; apply And.intro; (focus (intro wk hk; go_simp; exact ⟨rfl, rfl⟩)); refine hK _ _ ?_; clear hK K)
   refine stepK rfl (by kernel_rfl) (fun K hK => ?_); go_simp
   first | (refine hK _ _ ?_; clear hK K) | (apply Exists.intro; apply And.intro; (focus exact kLoadMid rfl rfl aggT31 rY ya yn id); refine hK _ _ ?_; clear hK K)
   refine stepK rfl (by kernel_rfl) (fun K hK => ?_); go_simp
   first | (refine hK _ _ ?_; clear hK K) | (apply Exists.intro; apply And.intro; (focus (intro wk hk; go_simp; exact ⟨rfl, rfl⟩)); refine hK _ _ ?_; clear hK K)
   iterate 2 (refine stepK rfl (by kernel_rfl) (fun K hK => ?_); go_simp; apply Exists.intro; apply And.intro; (focus (intro wk hk; go_simp; exact ⟨rfl, rfl⟩)); refine hK _ _ ?_; clear hK K)
   refine stepK rfl (by kernel_rfl) (fun K hK => ?_); go_simp
   first | (refine hK _ _ ?_; clear hK K) | (apply Exists.intro; apply And.intro; (focus (intro wk hk; go_simp; exact ⟨rfl, rfl⟩)); refine hK _ _ ?_; clear hK K)
   refine stepK rfl (by kernel_rfl) (fun K hK => ?_); go_simp
   first | (refine hK _ _ ?_; clear hK K) | (apply Exists.intro; apply And.intro; (focus (intro wk hk; have cc : wk.cell? ⟨lo3, 6, none⟩ = some (.slice xq xl xc) := ((K6.Row.tr rX hk id).cell 6).trans x6; go_simp; exact ⟨rfl, rfl⟩)); refine hK _ _ ?_; clear hK K)
   refine stepK rfl (by kernel_rfl) (fun K hK => ?_); go_simp
   first | (refine hK _ _ ?_; clear hK K) | (apply Exists.intro; apply And.intro; (focus (intro wk hk; go_simp; exact ⟨rfl, rfl⟩)); refine hK _ _ ?_; clear hK K)
   refine stepK rfl (by kernel_rfl) (fun K hK => ?_); go_simp
   first | (refine hK _ _ ?_; clear hK K) | (apply Exists.intro; apply And.intro; (focus (intro wk hk; have cc : wk.cell? ⟨lo5, 6, none⟩ = some (.slice yq yl yc) := ((K6.Row.tr rY hk id).cell 6).trans y6; go_simp; exact ⟨rfl, rfl⟩)); refine hK _ _ ?_; clear hK K)
   refine stepS _ rfl (by kernel_rfl) (fun K hK => ?_); go_simp
   refine ⟨?_, ?_⟩
   ·intro wk hk hg hu; go_simp; refine upon_enter ((kH.out _ (HW5.out.trans (hk.below.mono HW5.out.size))).mono ?_); rintro e w' ⟨rfl, hb⟩; exact ⟨_, rfl, left_V (p := fun u => u = .bool true) rfl (hb) rfl⟩
   rintro ⟨v24, lo24, hi24⟩ - - (rfl : v24 = _)
   refine hK _ _ ?_; clear hK K
   refine stepK rfl (by kernel_rfl) (fun K hK => ?_); go_simp
   first | (refine hK _ _ ?_; clear hK K) | (apply Exists.intro; apply And.intro; (focus (intro wk hk; go_simp; exact ⟨rfl, rfl⟩)); refine hK _ _ ?_; clear hK K)
   refine stepK rfl (by kernel_rfl) (fun K hK => ?_); go_simp
   apply Exists.intro; apply And.intro; (focus (intro wk hk; go_simp; exact ⟨rfl, rfl⟩)); refine hK _ _ ?_; clear hK K
   refine stepN ?_
   refine hQ _ _ ?_
   intro w6 hT hG hF
   have hb6 := hT.below
   have H6 := Lib.hid (show Below w.heap.size w w6 ∧ Row w6 (w.heap.size + 1) 114 cs2 from ⟨hl5.trans (hb6.mono hl5.size), r3.below hb6 r3.lt⟩)
   clear hT hG hF hQ QQ L hl5 r3 hb6 rX rY
   go_wp2_with fail
   go_roundg (gk - 1)
   case measure => omega
   case rel => exact ⟨i + 1, by omega, by go_num, hnext, H6⟩
  ·obtain rfl : i = nl1 := by omega
   have hlt : ¬ (i : Int) < (i : Int) := by omega
   have hbt : b = true := by
    have h := heq.out
    rw [List.take_of_length_le (by have := HLL.out.2.2.2.1; omega), List.take_of_length_le (by have := HLL.out.2.2.2.2; omega)] at h
    exact hB0.out.2 h
   subst hbt
   clear heq hB0
   go_wp2_with fail
   go_ret
   exact ⟨rfl, hinv.out.1⟩
end Go.Proofs.Ytpdenhmkpiafiaa
