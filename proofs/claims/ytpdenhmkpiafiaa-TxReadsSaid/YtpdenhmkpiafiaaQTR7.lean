/-
 What the statement rests on, part 8: TxSame3 TxGood2.
-/
import Derived.Test.YtpdenhmkpiafiaaQTR5
import Derived.Test.YtpdenhmkpiafiaaQTR6
namespace Go.Proofs.Ytpdenhmkpiafiaa
open Go Go.RowKit K6
set_option maxRecDepth 100000 in
set_option maxHeartbeats 64000000 in
theorem sameClaim_at (c d : Cm) (w : World) (hcO : CmOk w c) (hdO : CmOk w d) (hp : c.p.length ≤ 100000) (hlE : c.l.length ≤ 100000) (hlP : ∀ e ∈ c.l, e.p.length ≤ 100000) :
  Calls Try.prog 212 #[.agg c.cs.toArray, .agg d.cs.toArray] w fun r w' => r = .returned (.bool (decide (c.key = d.key))) ∧ Below w.heap.size w w' := by
 obtain ⟨b, hb⟩ : ∃ b, decide (c.key = d.key) = b := ⟨_, rfl⟩
 rw [hb]
 have kP := fun wx (hbw : Below w.heap.size w wx) => hsEq_at c.pv d.pv c.p d.p wx (hcO.p.below hbw) (hdO.p.below hbw) (fun z hz => (hcO.h z hz).1) (fun z hz => (hdO.h z hz).1) (by omega)
 have kL := fun wx (hbw : Below w.heap.size w wx) => alike_at c.lv d.lv c.l d.l wx (hcO.l.below hbw) (hdO.l.below hbw) hlE hlP
 have hc := hcO.tok
 have hd := hdO.tok
 have hbc : (bv c.tok).toArray.size = 32 := by rw [List.size_toArray, bv_len]; exact hc
 have hbd : (bv d.tok).toArray.size = 32 := by rw [List.size_toArray, bv_len]; exact hd
 have q1 : ∀ wx, (Op.equalIn 10000 35 (.agg (bv c.tok).toArray) (.agg (bv d.tok).toArray)).run Try.prog wx = .ok (decide (c.tok = d.tok)) wx := fun wx => eqH hc hd wx
 clear hcO hdO hp hlE hlP
 go_enter Try.func212, Try.ntmps212
 go_upto_region 1 with (fail)
 refine wp_abs (Mem w [(w.heap.size, 114, c.cs.toArray), (w.heap.size + 1, 114, d.cs.toArray)]) ⟨by go_grown, by (repeat (first | (refine Row.new_at ?_; simp; done) | refine Row.alloc ?_ _)), by (repeat (first | (refine Row.new_at ?_; simp; done) | refine Row.alloc ?_ _)), trivial⟩ ?_
 intro w0 hM
 obtain ⟨hl, r2, r3, -⟩ := hM
 by_cases e0 : c.r = d.r
 ·have h0 : (c.r == d.r) = true := by rw [beq_iff_eq]; exact e0
  by_cases e1 : c.x = d.x
  ·have h1 : (c.x == d.x) = true := by rw [beq_iff_eq]; exact e1
   by_cases e2 : c.e = d.e
   ·have h2 : (c.e == d.e) = true := by rw [beq_iff_eq]; exact e2
    by_cases e3 : c.tok = d.tok
    ·have q2 : ∀ wx, (Op.equalIn 10000 35 (.agg (bv c.tok).toArray) (.agg (bv d.tok).toArray)).run Try.prog wx = .ok true wx := fun wx => by rw [q1, decide_eq_true e3]
     clear q1
     by_cases e4 : c.z = d.z
     ·have h4 : (c.z == d.z) = true := by rw [beq_iff_eq]; exact e4
      obtain ⟨bp, hbp⟩ : ∃ x, decide (c.p = d.p) = x := ⟨_, rfl⟩
      rw [hbp] at kP
      simp only [Cm.pv] at kP
      replace kP := Lib.hid kP
      cases bp
      ·have e5 : ¬ c.p = d.p := of_decide_eq_false hbp
       have hbb : b = false := by rw [← hb]; exact decide_eq_false (fun h => e5 (by unfold Cm.key at h; simp only [Prod.mk.injEq] at h; exact h.2.2.2.2.2.1))
       subst hbb
       clear hb kL hbp e0 e1 e2 e3 e4 e5
       let L : List Sp := [sV 38 [] [] (fun u => u = .bool false)]
       refine wp_region_six0 (shs L) (look6 L) (None_) (by kernel_rfl) (by kernel_rfl) (mk_St L [] [] (by kernel_rfl) (by kernel_rfl) ⟨ok_V ⟨_, rfl⟩, trivial⟩ (by simp)) ?_
       intro QQ hQ
       refine stepK rfl (by kernel_rfl) (fun K hK => ?_); go_simp
       apply Exists.intro; apply And.intro; (focus (intro wk hk; go_simp; exact ⟨rfl, rfl⟩)); refine hK _ _ ?_; clear hK K
       refine stepK rfl (by kernel_rfl) (fun K hK => ?_); go_simp
       apply Exists.intro; apply And.intro; (focus (intro wk hk; have cc : wk.cell? ⟨w.heap.size, 0, none⟩ = some (.int .i64 c.r) := ((K6.Row.tr r2 hk id).cell 0).trans (cA0 c); go_simp; exact ⟨rfl, rfl⟩)); refine hK _ _ ?_; clear hK K
       refine stepK rfl (by kernel_rfl) (fun K hK => ?_); go_simp
       apply Exists.intro; apply And.intro; (focus (intro wk hk; go_simp; exact ⟨rfl, rfl⟩)); refine hK _ _ ?_; clear hK K
       refine stepK rfl (by kernel_rfl) (fun K hK => ?_); go_simp
       apply Exists.intro; apply And.intro; (focus (intro wk hk; have cc : wk.cell? ⟨w.heap.size + 1, 0, none⟩ = some (.int .i64 d.r) := ((K6.Row.tr r3 hk id).cell 0).trans (cA0 d); go_simp; exact ⟨rfl, rfl⟩)); refine hK _ _ ?_; clear hK K
       iterate 2 (refine stepK rfl (by kernel_rfl) (fun K hK => ?_); go_simp; apply Exists.intro; apply And.intro; (focus (intro wk hk; go_simp; exact ⟨rfl, rfl⟩)); refine hK _ _ ?_; clear hK K)
       refine stepK rfl (by kernel_rfl) (fun K hK => ?_); go_simp
       first | (refine hK _ _ ?_; clear hK K) | (apply Exists.intro; apply And.intro; (focus (intro wk hk; go_simp; exact ⟨rfl, rfl⟩)); refine hK _ _ ?_; clear hK K)
       refine stepK rfl (by kernel_rfl) (fun K hK => ?_); go_simp
       first | (refine hK _ _ ?_; clear hK K) | (apply Exists.intro; apply And.intro; (focus (intro wk hk; have cc : wk.cell? ⟨w.heap.size, 1, none⟩ = some (.int .i64 c.x) := ((K6.Row.tr r2 hk id).cell 1).trans (cA1 c); go_simp; exact ⟨rfl, rfl⟩)); refine hK _ _ ?_; clear hK K)
       refine stepK rfl (by kernel_rfl) (fun K hK => ?_); go_simp
       first | (refine hK _ _ ?_; clear hK K) | (apply Exists.intro; apply And.intro; (focus (intro wk hk; go_simp; exact ⟨rfl, rfl⟩)); refine hK _ _ ?_; clear hK K)
       refine stepK rfl (by kernel_rfl) (fun K hK => ?_); go_simp
       first | (refine hK _ _ ?_; clear hK K) | (apply Exists.intro; apply And.intro; (focus (intro wk hk; have cc : wk.cell? ⟨w.heap.size + 1, 1, none⟩ = some (.int .i64 d.x) := ((K6.Row.tr r3 hk id).cell 1).trans (cA1 d); go_simp; exact ⟨rfl, rfl⟩)); refine hK _ _ ?_; clear hK K)
       refine stepK rfl (by kernel_rfl) (fun K hK => ?_); go_simp
       first | (refine hK _ _ ?_; clear hK K) | (apply Exists.intro; apply And.intro; (focus (intro wk hk; go_simp; exact ⟨rfl, rfl⟩)); refine hK _ _ ?_; clear hK K)
       iterate 2 (refine stepK rfl (by kernel_rfl) (fun K hK => ?_); go_simp; apply Exists.intro; apply And.intro; (focus (intro wk hk; go_simp; exact ⟨rfl, rfl⟩)); refine hK _ _ ?_; clear hK K)
       refine stepK rfl (by kernel_rfl) (fun K hK => ?_); go_simp
       first | (refine hK _ _ ?_; clear hK K) | (apply Exists.intro; apply And.intro; (focus (intro wk hk; go_simp; exact ⟨rfl, rfl⟩)); refine hK _ _ ?_; clear hK K)
       refine stepK rfl (by kernel_rfl) (fun K hK => ?_); go_simp
       first | (refine hK _ _ ?_; clear hK K) | (apply Exists.intro; apply And.intro; (focus (intro wk hk; have cc : wk.cell? ⟨w.heap.size, 2, none⟩ = some (.int .i64 c.e) := ((K6.Row.tr r2 hk id).cell 2).trans (cA2 c); go_simp; exact ⟨rfl, rfl⟩)); refine hK _ _ ?_; clear hK K)
       refine stepK rfl (by kernel_rfl) (fun K hK => ?_); go_simp
       first | (refine hK _ _ ?_; clear hK K) | (apply Exists.intro; apply And.intro; (focus (intro wk hk; go_simp; exact ⟨rfl, rfl⟩)); refine hK _ _ ?_; clear hK K)
       refine stepK rfl (by kernel_rfl) (fun K hK => ?_); go_simp
       first | (refine hK _ _ ?_; clear hK K) | (apply Exists.intro; apply And.intro; (focus (intro wk hk; have cc : wk.cell? ⟨w.heap.size + 1, 2, none⟩ = some (.int .i64 d.e) := ((K6.Row.tr r3 hk id).cell 2).trans (cA2 d); go_simp; exact ⟨rfl, rfl⟩)); refine hK _ _ ?_; clear hK K)
       refine stepK rfl (by kernel_rfl) (fun K hK => ?_); go_simp
       first | (refine hK _ _ ?_; clear hK K) | (apply Exists.intro; apply And.intro; (focus (intro wk hk; go_simp; exact ⟨rfl, rfl⟩)); refine hK _ _ ?_; clear hK K)
       iterate 2 (refine stepK rfl (by kernel_rfl) (fun K hK => ?_); go_simp; apply Exists.intro; apply And.intro; (focus (intro wk hk; go_simp; exact ⟨rfl, rfl⟩)); refine hK _ _ ?_; clear hK K)
       refine stepK rfl (by kernel_rfl) (fun K hK => ?_); go_simp
       first | (refine hK _ _ ?_; clear hK K) | (apply Exists.intro; apply And.intro; (focus (intro wk hk; go_simp; exact ⟨rfl, rfl⟩)); refine hK _ _ ?_; clear hK K)
       refine stepK rfl (by kernel_rfl) (fun K hK => ?_); go_simp
       first | (refine hK _ _ ?_; clear hK K) | (apply Exists.intro; apply And.intro; (focus exact kLoadMid rfl rfl aggR35 r2 (Cm.tok_ hc) hbc id); refine hK _ _ ?_; clear hK K)
       refine stepK rfl (by kernel_rfl) (fun K hK => ?_); go_simp
       first | (refine hK _ _ ?_; clear hK K) | (apply Exists.intro; apply And.intro; (focus (intro wk hk; go_simp; exact ⟨rfl, rfl⟩)); refine hK _ _ ?_; clear hK K)
       refine stepK rfl (by kernel_rfl) (fun K hK => ?_); go_simp
       first | (refine hK _ _ ?_; clear hK K) | (apply Exists.intro; apply And.intro; (focus exact kLoadMid rfl rfl aggR35 r3 (Cm.tok_ hd) hbd id); refine hK _ _ ?_; clear hK K)
       refine stepK rfl (by kernel_rfl) (fun K hK => ?_); go_simp
       first | (refine hK _ _ ?_; clear hK K) | (apply Exists.intro; apply And.intro; (focus (intro wk hk; go_simp; exact ⟨rfl, rfl⟩)); refine hK _ _ ?_; clear hK K)
       iterate 2 (refine stepK rfl (by kernel_rfl) (fun K hK => ?_); go_simp; apply Exists.intro; apply And.intro; (focus (intro wk hk; go_simp; exact ⟨rfl, rfl⟩)); refine hK _ _ ?_; clear hK K)
       refine stepK rfl (by kernel_rfl) (fun K hK => ?_); go_simp
       first | (refine hK _ _ ?_; clear hK K) | (apply Exists.intro; apply And.intro; (focus (intro wk hk; go_simp; exact ⟨rfl, rfl⟩)); refine hK _ _ ?_; clear hK K)
       refine stepK rfl (by kernel_rfl) (fun K hK => ?_); go_simp
       first | (refine hK _ _ ?_; clear hK K) | (apply Exists.intro; apply And.intro; (focus (intro wk hk; have cc : wk.cell? ⟨w.heap.size, 37, none⟩ = some (.int .i64 c.z) := ((K6.Row.tr r2 hk id).cell 37).trans (cA37 hc); go_simp; exact ⟨rfl, rfl⟩)); refine hK _ _ ?_; clear hK K)
       refine stepK rfl (by kernel_rfl) (fun K hK => ?_); go_simp
       first | (refine hK _ _ ?_; clear hK K) | (apply Exists.intro; apply And.intro; (focus (intro wk hk; go_simp; exact ⟨rfl, rfl⟩)); refine hK _ _ ?_; clear hK K)
       refine stepK rfl (by kernel_rfl) (fun K hK => ?_); go_simp
       first | (refine hK _ _ ?_; clear hK K) | (apply Exists.intro; apply And.intro; (focus (intro wk hk; have cc : wk.cell? ⟨w.heap.size + 1, 37, none⟩ = some (.int .i64 d.z) := ((K6.Row.tr r3 hk id).cell 37).trans (cA37 hd); go_simp; exact ⟨rfl, rfl⟩)); refine hK _ _ ?_; clear hK K)
       refine stepK rfl (by kernel_rfl) (fun K hK => ?_); go_simp
       first | (refine hK _ _ ?_; clear hK K) | (apply Exists.intro; apply And.intro; (focus (intro wk hk; go_simp; exact ⟨rfl, rfl⟩)); refine hK _ _ ?_; clear hK K)
       iterate 2 (refine stepK rfl (by kernel_rfl) (fun K hK => ?_); go_simp; apply Exists.intro; apply And.intro; (focus (intro wk hk; go_simp; exact ⟨rfl, rfl⟩)); refine hK _ _ ?_; clear hK K)
       refine stepK rfl (by kernel_rfl) (fun K hK => ?_); go_simp
       first | (refine hK _ _ ?_; clear hK K) | (apply Exists.intro; apply And.intro; (focus (intro wk hk; go_simp; exact ⟨rfl, rfl⟩)); refine hK _ _ ?_; clear hK K)
       refine stepK rfl (by kernel_rfl) (fun K hK => ?_); go_simp
       first | (refine hK _ _ ?_; clear hK K) | (apply Exists.intro; apply And.intro; (focus (intro wk hk; have cc : wk.cell? ⟨w.heap.size, 35, none⟩ = some (.slice c.pq c.p.length c.pc) := ((K6.Row.tr r2 hk id).cell 35).trans (cA35 hc); go_simp; exact ⟨rfl, rfl⟩)); refine hK _ _ ?_; clear hK K)
       refine stepK rfl (by kernel_rfl) (fun K hK => ?_); go_simp
       first | (refine hK _ _ ?_; clear hK K) | (apply Exists.intro; apply And.intro; (focus (intro wk hk; go_simp; exact ⟨rfl, rfl⟩)); refine hK _ _ ?_; clear hK K)
       refine stepK rfl (by kernel_rfl) (fun K hK => ?_); go_simp
       first | (refine hK _ _ ?_; clear hK K) | (apply Exists.intro; apply And.intro; (focus (intro wk hk; have cc : wk.cell? ⟨w.heap.size + 1, 35, none⟩ = some (.slice d.pq d.p.length d.pc) := ((K6.Row.tr r3 hk id).cell 35).trans (cA35 hd); go_simp; exact ⟨rfl, rfl⟩)); refine hK _ _ ?_; clear hK K)
       refine stepS _ rfl (by kernel_rfl) (fun K hK => ?_); go_simp
       refine ⟨?_, ?_⟩
       ·intro wk hk hg hu; go_simp; refine upon_enter ((kP.out _ (hl.trans (hk.below.mono hl.size))).mono ?_); rintro e w' ⟨rfl, hb⟩; exact ⟨_, rfl, left_V (p := fun u => u = .bool false) rfl (hb) rfl⟩
       rintro ⟨v38, lo38, hi38⟩ - - (rfl : v38 = _)
       refine hK _ _ ?_; clear hK K
       iterate 2 (refine stepK rfl (by kernel_rfl) (fun K hK => ?_); go_simp; apply Exists.intro; apply And.intro; (focus (intro wk hk; go_simp; exact ⟨rfl, rfl⟩)); refine hK _ _ ?_; clear hK K)
       iterate 5 (refine stepK rfl (by kernel_rfl) (fun K hK => ?_); go_simp; (first | (refine hK _ _ ?_; clear hK K) | (apply Exists.intro; apply And.intro; (focus (intro wk hk; go_simp; exact ⟨rfl, rfl⟩)); refine hK _ _ ?_; clear hK K)))
       iterate 2 (refine stepK rfl (by kernel_rfl) (fun K hK => ?_); go_simp; apply Exists.intro; apply And.intro; (focus (intro wk hk; go_simp; exact ⟨rfl, rfl⟩)); refine hK _ _ ?_; clear hK K)
       refine stepN ?_
       refine hQ _ _ ?_
       intro w9 hT hG hF
       have H9 := Lib.hid (hl.trans (hT.below.mono hl.size))
       clear hT hG hF hQ QQ L hl r2 r3
       go_wp2_with fail
       go_ret
       exact ⟨rfl, H9.out⟩
      ·have e5 : c.p = d.p := of_decide_eq_true hbp
       have hbb : sameL c.l d.l = b := by
        rw [← hb]
        unfold Cm.key sameL
        simp [e0, e1, e2, e3, e4, e5]
       rw [hbb] at kL
       simp only [Cm.lv] at kL
       replace kL := Lib.hid kL
       clear hb hbb hbp e0 e1 e2 e3 e4 e5
       let L : List Sp := [sV 38 [] [] (fun u => u = .bool true), sV 45 [] [] (fun u => u = .bool b)]
       refine wp_region_six0 (shs L) (look6 L) (None_) (by kernel_rfl) (by kernel_rfl) (mk_St L [] [] (by kernel_rfl) (by kernel_rfl) ⟨ok_V ⟨_, rfl⟩, ok_V ⟨_, rfl⟩, trivial⟩ (by simp)) ?_
       intro QQ hQ
       refine stepK rfl (by kernel_rfl) (fun K hK => ?_); go_simp
       apply Exists.intro; apply And.intro; (focus (intro wk hk; go_simp; exact ⟨rfl, rfl⟩)); refine hK _ _ ?_; clear hK K
       refine stepK rfl (by kernel_rfl) (fun K hK => ?_); go_simp
       apply Exists.intro; apply And.intro; (focus (intro wk hk; have cc : wk.cell? ⟨w.heap.size, 0, none⟩ = some (.int .i64 c.r) := ((K6.Row.tr r2 hk id).cell 0).trans (cA0 c); go_simp; exact ⟨rfl, rfl⟩)); refine hK _ _ ?_; clear hK K
       refine stepK rfl (by kernel_rfl) (fun K hK => ?_); go_simp
       apply Exists.intro; apply And.intro; (focus (intro wk hk; go_simp; exact ⟨rfl, rfl⟩)); refine hK _ _ ?_; clear hK K
       refine stepK rfl (by kernel_rfl) (fun K hK => ?_); go_simp
       apply Exists.intro; apply And.intro; (focus (intro wk hk; have cc : wk.cell? ⟨w.heap.size + 1, 0, none⟩ = some (.int .i64 d.r) := ((K6.Row.tr r3 hk id).cell 0).trans (cA0 d); go_simp; exact ⟨rfl, rfl⟩)); refine hK _ _ ?_; clear hK K
       iterate 2 (refine stepK rfl (by kernel_rfl) (fun K hK => ?_); go_simp; apply Exists.intro; apply And.intro; (focus (intro wk hk; go_simp; exact ⟨rfl, rfl⟩)); refine hK _ _ ?_; clear hK K)
       refine stepK rfl (by kernel_rfl) (fun K hK => ?_); go_simp
       first | (refine hK _ _ ?_; clear hK K) | (apply Exists.intro; apply And.intro; (focus (intro wk hk; go_simp; exact ⟨rfl, rfl⟩)); refine hK _ _ ?_; clear hK K)
       refine stepK rfl (by kernel_rfl) (fun K hK => ?_); go_simp
       first | (refine hK _ _ ?_; clear hK K) | (apply Exists.intro; apply And.intro; (focus (intro wk hk; have cc : wk.cell? ⟨w.heap.size, 1, none⟩ = some (.int .i64 c.x) := ((K6.Row.tr r2 hk id).cell 1).trans (cA1 c); go_simp; exact ⟨rfl, rfl⟩)); refine hK _ _ ?_; clear hK K)
       refine stepK rfl (by kernel_rfl) (fun K hK => ?_); go_simp
       first | (refine hK _ _ ?_; clear hK K) | (apply Exists.intro; apply And.intro; (focus (intro wk hk; go_simp; exact ⟨rfl, rfl⟩)); refine hK _ _ ?_; clear hK K)
       refine stepK rfl (by kernel_rfl) (fun K hK => ?_); go_simp
       first | (refine hK _ _ ?_; clear hK K) | (apply Exists.intro; apply And.intro; (focus (intro wk hk; have cc : wk.cell? ⟨w.heap.size + 1, 1, none⟩ = some (.int .i64 d.x) := ((K6.Row.tr r3 hk id).cell 1).trans (cA1 d); go_simp; exact ⟨rfl, rfl⟩)); refine hK _ _ ?_; clear hK K)
       refine stepK rfl (by kernel_rfl) (fun K hK => ?_); go_simp
       first | (refine hK _ _ ?_; clear hK K) | (apply Exists.intro; apply And.intro; (focus (intro wk hk; go_simp; exact ⟨rfl, rfl⟩)); refine hK _ _ ?_; clear hK K)
       iterate 2 (refine stepK rfl (by kernel_rfl) (fun K hK => ?_); go_simp; apply Exists.intro; apply And.intro; (focus (intro wk hk; go_simp; exact ⟨rfl, rfl⟩)); refine hK _ _ ?_; clear hK K)
       refine stepK rfl (by kernel_rfl) (fun K hK => ?_); go_simp
       first | (refine hK _ _ ?_; clear hK K) | (apply Exists.intro; apply And.intro; (focus (intro wk hk; go_simp; exact ⟨rfl, rfl⟩)); refine hK _ _ ?_; clear hK K)
       refine stepK rfl (by kernel_rfl) (fun K hK => ?_); go_simp
       first | (refine hK _ _ ?_; clear hK K) | (apply Exists.intro; apply And.intro; (focus (intro wk hk; have cc : wk.cell? ⟨w.heap.size, 2, none⟩ = some (.int .i64 c.e) := ((K6.Row.tr r2 hk id).cell 2).trans (cA2 c); go_simp; exact ⟨rfl, rfl⟩)); refine hK _ _ ?_; clear hK K)
       refine stepK rfl (by kernel_rfl) (fun K hK => ?_); go_simp
       first | (refine hK _ _ ?_; clear hK K) | (apply Exists.intro; apply And.intro; (focus (intro wk hk; go_simp; exact ⟨rfl, rfl⟩)); refine hK _ _ ?_; clear hK K)
       refine stepK rfl (by kernel_rfl) (fun K hK => ?_); go_simp
       first | (refine hK _ _ ?_; clear hK K) | (apply Exists.intro; apply And.intro; (focus (intro wk hk; have cc : wk.cell? ⟨w.heap.size + 1, 2, none⟩ = some (.int .i64 d.e) := ((K6.Row.tr r3 hk id).cell 2).trans (cA2 d); go_simp; exact ⟨rfl, rfl⟩)); refine hK _ _ ?_; clear hK K)
       refine stepK rfl (by kernel_rfl) (fun K hK => ?_); go_simp
       first | (refine hK _ _ ?_; clear hK K) | (apply Exists.intro; apply And.intro; (focus (intro wk hk; go_simp; exact ⟨rfl, rfl⟩)); refine hK _ _ ?_; clear hK K)
       iterate 2 (refine stepK rfl (by kernel_rfl) (fun K hK => ?_); go_simp; apply Exists.intro; apply And.intro; (focus (intro wk hk; go_simp; exact ⟨rfl, rfl⟩)); refine hK _ _ ?_; clear hK K)
       refine stepK rfl (by kernel_rfl) (fun K hK => ?_); go_simp
       first | (refine hK _ _ ?_; clear hK K) | (apply Exists.intro; apply And.intro; (focus (intro wk hk; go_simp; exact ⟨rfl, rfl⟩)); refine hK _ _ ?_; clear hK K)
       refine stepK rfl (by kernel_rfl) (fun K hK => ?_); go_simp
       first | (refine hK _ _ ?_; clear hK K) | (apply Exists.intro; apply And.intro; (focus exact kLoadMid rfl rfl aggR35 r2 (Cm.tok_ hc) hbc id); refine hK _ _ ?_; clear hK K)
       refine stepK rfl (by kernel_rfl) (fun K hK => ?_); go_simp
       first | (refine hK _ _ ?_; clear hK K) | (apply Exists.intro; apply And.intro; (focus (intro wk hk; go_simp; exact ⟨rfl, rfl⟩)); refine hK _ _ ?_; clear hK K)
       refine stepK rfl (by kernel_rfl) (fun K hK => ?_); go_simp
       first | (refine hK _ _ ?_; clear hK K) | (apply Exists.intro; apply And.intro; (focus exact kLoadMid rfl rfl aggR35 r3 (Cm.tok_ hd) hbd id); refine hK _ _ ?_; clear hK K)
       refine stepK rfl (by kernel_rfl) (fun K hK => ?_); go_simp
       first | (refine hK _ _ ?_; clear hK K) | (apply Exists.intro; apply And.intro; (focus (intro wk hk; go_simp; exact ⟨rfl, rfl⟩)); refine hK _ _ ?_; clear hK K)
       iterate 2 (refine stepK rfl (by kernel_rfl) (fun K hK => ?_); go_simp; apply Exists.intro; apply And.intro; (focus (intro wk hk; go_simp; exact ⟨rfl, rfl⟩)); refine hK _ _ ?_; clear hK K)
       refine stepK rfl (by kernel_rfl) (fun K hK => ?_); go_simp
       first | (refine hK _ _ ?_; clear hK K) | (apply Exists.intro; apply And.intro; (focus (intro wk hk; go_simp; exact ⟨rfl, rfl⟩)); refine hK _ _ ?_; clear hK K)
       refine stepK rfl (by kernel_rfl) (fun K hK => ?_); go_simp
       first | (refine hK _ _ ?_; clear hK K) | (apply Exists.intro; apply And.intro; (focus (intro wk hk; have cc : wk.cell? ⟨w.heap.size, 37, none⟩ = some (.int .i64 c.z) := ((K6.Row.tr r2 hk id).cell 37).trans (cA37 hc); go_simp; exact ⟨rfl, rfl⟩)); refine hK _ _ ?_; clear hK K)
       refine stepK rfl (by kernel_rfl) (fun K hK => ?_); go_simp
       first | (refine hK _ _ ?_; clear hK K) | (apply Exists.intro; apply And.intro; (focus (intro wk hk; go_simp; exact ⟨rfl, rfl⟩)); refine hK _ _ ?_; clear hK K)
       refine stepK rfl (by kernel_rfl) (fun K hK => ?_); go_simp
       first | (refine hK _ _ ?_; clear hK K) | (apply Exists.intro; apply And.intro; (focus (intro wk hk; have cc : wk.cell? ⟨w.heap.size + 1, 37, none⟩ = some (.int .i64 d.z) := ((K6.Row.tr r3 hk id).cell 37).trans (cA37 hd); go_simp; exact ⟨rfl, rfl⟩)); refine hK _ _ ?_; clear hK K)
       refine stepK rfl (by kernel_rfl) (fun K hK => ?_); go_simp
       first | (refine hK _ _ ?_; clear hK K) | (apply Exists.intro; apply And.intro; (focus (intro wk hk; go_simp; exact ⟨rfl, rfl⟩)); refine hK _ _ ?_; clear hK K)
       iterate 2 (refine stepK rfl (by kernel_rfl) (fun K hK => ?_); go_simp; apply Exists.intro; apply And.intro; (focus (intro wk hk; go_simp; exact ⟨rfl, rfl⟩)); refine hK _ _ ?_; clear hK K)
       refine stepK rfl (by kernel_rfl) (fun K hK => ?_); go_simp
       first | (refine hK _ _ ?_; clear hK K) | (apply Exists.intro; apply And.intro; (focus (intro wk hk; go_simp; exact ⟨rfl, rfl⟩)); refine hK _ _ ?_; clear hK K)
       refine stepK rfl (by kernel_rfl) (fun K hK => ?_); go_simp
       first | (refine hK _ _ ?_; clear hK K) | (apply Exists.intro; apply And.intro; (focus (intro wk hk; have cc : wk.cell? ⟨w.heap.size, 35, none⟩ = some (.slice c.pq c.p.length c.pc) := ((K6.Row.tr r2 hk id).cell 35).trans (cA35 hc); go_simp; exact ⟨rfl, rfl⟩)); refine hK _ _ ?_; clear hK K)
       refine stepK rfl (by kernel_rfl) (fun K hK => ?_); go_simp
       first | (refine hK _ _ ?_; clear hK K) | (apply Exists.intro; apply And.intro; (focus (intro wk hk; go_simp; exact ⟨rfl, rfl⟩)); refine hK _ _ ?_; clear hK K)
       refine stepK rfl (by kernel_rfl) (fun K hK => ?_); go_simp
       first | (refine hK _ _ ?_; clear hK K) | (apply Exists.intro; apply And.intro; (focus (intro wk hk; have cc : wk.cell? ⟨w.heap.size + 1, 35, none⟩ = some (.slice d.pq d.p.length d.pc) := ((K6.Row.tr r3 hk id).cell 35).trans (cA35 hd); go_simp; exact ⟨rfl, rfl⟩)); refine hK _ _ ?_; clear hK K)
       refine stepS _ rfl (by kernel_rfl) (fun K hK => ?_); go_simp
       refine ⟨?_, ?_⟩
       ·intro wk hk hg hu; go_simp; refine upon_enter ((kP.out _ (hl.trans (hk.below.mono hl.size))).mono ?_); rintro e w' ⟨rfl, hb⟩; exact ⟨_, rfl, left_V (p := fun u => u = .bool true) rfl (hb) rfl⟩
       rintro ⟨v38, lo38, hi38⟩ - - (rfl : v38 = _)
       refine hK _ _ ?_; clear hK K
       iterate 2 (refine stepK rfl (by kernel_rfl) (fun K hK => ?_); go_simp; apply Exists.intro; apply And.intro; (focus (intro wk hk; go_simp; exact ⟨rfl, rfl⟩)); refine hK _ _ ?_; clear hK K)
       refine stepK rfl (by kernel_rfl) (fun K hK => ?_); go_simp
       first | (refine hK _ _ ?_; clear hK K) | (apply Exists.intro; apply And.intro; (focus (intro wk hk; go_simp; exact ⟨rfl, rfl⟩)); refine hK _ _ ?_; clear hK K)
       refine stepK rfl (by kernel_rfl) (fun K hK => ?_); go_simp
       first | (refine hK _ _ ?_; clear hK K) | (apply Exists.intro; apply And.intro; (focus (intro wk hk; have cc : wk.cell? ⟨w.heap.size, 36, none⟩ = some (.slice c.lq c.l.length c.lc) := ((K6.Row.tr r2 hk id).cell 36).trans (cA36 hc); go_simp; exact ⟨rfl, rfl⟩)); refine hK _ _ ?_; clear hK K)
       refine stepK rfl (by kernel_rfl) (fun K hK => ?_); go_simp
       first | (refine hK _ _ ?_; clear hK K) | (apply Exists.intro; apply And.intro; (focus (intro wk hk; go_simp; exact ⟨rfl, rfl⟩)); refine hK _ _ ?_; clear hK K)
       refine stepK rfl (by kernel_rfl) (fun K hK => ?_); go_simp
       first | (refine hK _ _ ?_; clear hK K) | (apply Exists.intro; apply And.intro; (focus (intro wk hk; have cc : wk.cell? ⟨w.heap.size + 1, 36, none⟩ = some (.slice d.lq d.l.length d.lc) := ((K6.Row.tr r3 hk id).cell 36).trans (cA36 hd); go_simp; exact ⟨rfl, rfl⟩)); refine hK _ _ ?_; clear hK K)
       refine stepS _ rfl (by kernel_rfl) (fun K hK => ?_); go_simp
       refine ⟨?_, ?_⟩
       ·intro wk hk hg hu; go_simp; refine upon_enter ((kL.out _ (hl.trans (hk.below.mono hl.size))).mono ?_); rintro e w' ⟨rfl, hb⟩; exact ⟨_, rfl, left_V (p := fun u => u = .bool b) rfl (hb) rfl⟩
       rintro ⟨v45, lo45, hi45⟩ - - (rfl : v45 = _)
       refine hK _ _ ?_; clear hK K
       iterate 2 (refine stepK rfl (by kernel_rfl) (fun K hK => ?_); go_simp; apply Exists.intro; apply And.intro; (focus (intro wk hk; go_simp; exact ⟨rfl, rfl⟩)); refine hK _ _ ?_; clear hK K)
       refine stepN ?_
       refine hQ _ _ ?_
       intro w9 hT hG hF
       have H9 := Lib.hid (hl.trans (hT.below.mono hl.size))
       clear hT hG hF hQ QQ L hl r2 r3
       go_wp2_with fail
       go_ret
       exact ⟨rfl, H9.out⟩
     ·have h4 : (c.z == d.z) = false := by rw [beq_eq_false_iff_ne]; exact e4
      have hbb : b = false := by rw [← hb]; exact decide_eq_false (fun h => e4 (by unfold Cm.key at h; simp only [Prod.mk.injEq] at h; exact h.2.2.2.2.1))
      subst hbb
      clear hb kP kL e0 e1 e2 e3 e4
      let L : List Sp := []
      refine wp_region_six0 (shs L) (look6 L) (None_) (by kernel_rfl) (by kernel_rfl) (mk_St L [] [] (by kernel_rfl) (by kernel_rfl) trivial (by simp)) ?_
      intro QQ hQ
      refine stepK rfl (by kernel_rfl) (fun K hK => ?_); go_simp
      apply Exists.intro; apply And.intro; (focus (intro wk hk; go_simp; exact ⟨rfl, rfl⟩)); refine hK _ _ ?_; clear hK K
      refine stepK rfl (by kernel_rfl) (fun K hK => ?_); go_simp
      apply Exists.intro; apply And.intro; (focus (intro wk hk; have cc : wk.cell? ⟨w.heap.size, 0, none⟩ = some (.int .i64 c.r) := ((K6.Row.tr r2 hk id).cell 0).trans (cA0 c); go_simp; exact ⟨rfl, rfl⟩)); refine hK _ _ ?_; clear hK K
      refine stepK rfl (by kernel_rfl) (fun K hK => ?_); go_simp
      apply Exists.intro; apply And.intro; (focus (intro wk hk; go_simp; exact ⟨rfl, rfl⟩)); refine hK _ _ ?_; clear hK K
      refine stepK rfl (by kernel_rfl) (fun K hK => ?_); go_simp
      apply Exists.intro; apply And.intro; (focus (intro wk hk; have cc : wk.cell? ⟨w.heap.size + 1, 0, none⟩ = some (.int .i64 d.r) := ((K6.Row.tr r3 hk id).cell 0).trans (cA0 d); go_simp; exact ⟨rfl, rfl⟩)); refine hK _ _ ?_; clear hK K
      iterate 2 (refine stepK rfl (by kernel_rfl) (fun K hK => ?_); go_simp; apply Exists.intro; apply And.intro; (focus (intro wk hk; go_simp; exact ⟨rfl, rfl⟩)); refine hK _ _ ?_; clear hK K)
      refine stepK rfl (by kernel_rfl) (fun K hK => ?_); go_simp
      first | (refine hK _ _ ?_; clear hK K) | (apply Exists.intro; apply And.intro; (focus (intro wk hk; go_simp; exact ⟨rfl, rfl⟩)); refine hK _ _ ?_; clear hK K)
      refine stepK rfl (by kernel_rfl) (fun K hK => ?_); go_simp
      first | (refine hK _ _ ?_; clear hK K) | (apply Exists.intro; apply And.intro; (focus (intro wk hk; have cc : wk.cell? ⟨w.heap.size, 1, none⟩ = some (.int .i64 c.x) := ((K6.Row.tr r2 hk id).cell 1).trans (cA1 c); go_simp; exact ⟨rfl, rfl⟩)); refine hK _ _ ?_; clear hK K)
      refine stepK rfl (by kernel_rfl) (fun K hK => ?_); go_simp
      first | (refine hK _ _ ?_; clear hK K) | (apply Exists.intro; apply And.intro; (focus (intro wk hk; go_simp; exact ⟨rfl, rfl⟩)); refine hK _ _ ?_; clear hK K)
      refine stepK rfl (by kernel_rfl) (fun K hK => ?_); go_simp
      first | (refine hK _ _ ?_; clear hK K) | (apply Exists.intro; apply And.intro; (focus (intro wk hk; have cc : wk.cell? ⟨w.heap.size + 1, 1, none⟩ = some (.int .i64 d.x) := ((K6.Row.tr r3 hk id).cell 1).trans (cA1 d); go_simp; exact ⟨rfl, rfl⟩)); refine hK _ _ ?_; clear hK K)
      refine stepK rfl (by kernel_rfl) (fun K hK => ?_); go_simp
      first | (refine hK _ _ ?_; clear hK K) | (apply Exists.intro; apply And.intro; (focus (intro wk hk; go_simp; exact ⟨rfl, rfl⟩)); refine hK _ _ ?_; clear hK K)
      iterate 2 (refine stepK rfl (by kernel_rfl) (fun K hK => ?_); go_simp; apply Exists.intro; apply And.intro; (focus (intro wk hk; go_simp; exact ⟨rfl, rfl⟩)); refine hK _ _ ?_; clear hK K)
      refine stepK rfl (by kernel_rfl) (fun K hK => ?_); go_simp
      first | (refine hK _ _ ?_; clear hK K) | (apply Exists.intro; apply And.intro; (focus (intro wk hk; go_simp; exact ⟨rfl, rfl⟩)); refine hK _ _ ?_; clear hK K)
      refine stepK rfl (by kernel_rfl) (fun K hK => ?_); go_simp
      first | (refine hK _ _ ?_; clear hK K) | (apply Exists.intro; apply And.intro; (focus (intro wk hk; have cc : wk.cell? ⟨w.heap.size, 2, none⟩ = some (.int .i64 c.e) := ((K6.Row.tr r2 hk id).cell 2).trans (cA2 c); go_simp; exact ⟨rfl, rfl⟩)); refine hK _ _ ?_; clear hK K)
      refine stepK rfl (by kernel_rfl) (fun K hK => ?_); go_simp
      first | (refine hK _ _ ?_; clear hK K) | (apply Exists.intro; apply And.intro; (focus (intro wk hk; go_simp; exact ⟨rfl, rfl⟩)); refine hK _ _ ?_; clear hK K)
      refine stepK rfl (by kernel_rfl) (fun K hK => ?_); go_simp
      first | (refine hK _ _ ?_; clear hK K) | (apply Exists.intro; apply And.intro; (focus (intro wk hk; have cc : wk.cell? ⟨w.heap.size + 1, 2, none⟩ = some (.int .i64 d.e) := ((K6.Row.tr r3 hk id).cell 2).trans (cA2 d); go_simp; exact ⟨rfl, rfl⟩)); refine hK _ _ ?_; clear hK K)
      refine stepK rfl (by kernel_rfl) (fun K hK => ?_); go_simp
      first | (refine hK _ _ ?_; clear hK K) | (apply Exists.intro; apply And.intro; (focus (intro wk hk; go_simp; exact ⟨rfl, rfl⟩)); refine hK _ _ ?_; clear hK K)
      iterate 2 (refine stepK rfl (by kernel_rfl) (fun K hK => ?_); go_simp; apply Exists.intro; apply And.intro; (focus (intro wk hk; go_simp; exact ⟨rfl, rfl⟩)); refine hK _ _ ?_; clear hK K)
      refine stepK rfl (by kernel_rfl) (fun K hK => ?_); go_simp
      first | (refine hK _ _ ?_; clear hK K) | (apply Exists.intro; apply And.intro; (focus (intro wk hk; go_simp; exact ⟨rfl, rfl⟩)); refine hK _ _ ?_; clear hK K)
      refine stepK rfl (by kernel_rfl) (fun K hK => ?_); go_simp
      first | (refine hK _ _ ?_; clear hK K) | (apply Exists.intro; apply And.intro; (focus exact kLoadMid rfl rfl aggR35 r2 (Cm.tok_ hc) hbc id); refine hK _ _ ?_; clear hK K)
      refine stepK rfl (by kernel_rfl) (fun K hK => ?_); go_simp
      first | (refine hK _ _ ?_; clear hK K) | (apply Exists.intro; apply And.intro; (focus (intro wk hk; go_simp; exact ⟨rfl, rfl⟩)); refine hK _ _ ?_; clear hK K)
      refine stepK rfl (by kernel_rfl) (fun K hK => ?_); go_simp
      first | (refine hK _ _ ?_; clear hK K) | (apply Exists.intro; apply And.intro; (focus exact kLoadMid rfl rfl aggR35 r3 (Cm.tok_ hd) hbd id); refine hK _ _ ?_; clear hK K)
      refine stepK rfl (by kernel_rfl) (fun K hK => ?_); go_simp
      first | (refine hK _ _ ?_; clear hK K) | (apply Exists.intro; apply And.intro; (focus (intro wk hk; go_simp; exact ⟨rfl, rfl⟩)); refine hK _ _ ?_; clear hK K)
      iterate 2 (refine stepK rfl (by kernel_rfl) (fun K hK => ?_); go_simp; apply Exists.intro; apply And.intro; (focus (intro wk hk; go_simp; exact ⟨rfl, rfl⟩)); refine hK _ _ ?_; clear hK K)
      refine stepK rfl (by kernel_rfl) (fun K hK => ?_); go_simp
      first | (refine hK _ _ ?_; clear hK K) | (apply Exists.intro; apply And.intro; (focus (intro wk hk; go_simp; exact ⟨rfl, rfl⟩)); refine hK _ _ ?_; clear hK K)
      refine stepK rfl (by kernel_rfl) (fun K hK => ?_); go_simp
      first | (refine hK _ _ ?_; clear hK K) | (apply Exists.intro; apply And.intro; (focus (intro wk hk; have cc : wk.cell? ⟨w.heap.size, 37, none⟩ = some (.int .i64 c.z) := ((K6.Row.tr r2 hk id).cell 37).trans (cA37 hc); go_simp; exact ⟨rfl, rfl⟩)); refine hK _ _ ?_; clear hK K)
      refine stepK rfl (by kernel_rfl) (fun K hK => ?_); go_simp
      first | (refine hK _ _ ?_; clear hK K) | (apply Exists.intro; apply And.intro; (focus (intro wk hk; go_simp; exact ⟨rfl, rfl⟩)); refine hK _ _ ?_; clear hK K)
      refine stepK rfl (by kernel_rfl) (fun K hK => ?_); go_simp
      first | (refine hK _ _ ?_; clear hK K) | (apply Exists.intro; apply And.intro; (focus (intro wk hk; have cc : wk.cell? ⟨w.heap.size + 1, 37, none⟩ = some (.int .i64 d.z) := ((K6.Row.tr r3 hk id).cell 37).trans (cA37 hd); go_simp; exact ⟨rfl, rfl⟩)); refine hK _ _ ?_; clear hK K)
      refine stepK rfl (by kernel_rfl) (fun K hK => ?_); go_simp
      first | (refine hK _ _ ?_; clear hK K) | (apply Exists.intro; apply And.intro; (focus (intro wk hk; go_simp; exact ⟨rfl, rfl⟩)); refine hK _ _ ?_; clear hK K)
      iterate 2 (refine stepK rfl (by kernel_rfl) (fun K hK => ?_); go_simp; apply Exists.intro; apply And.intro; (focus (intro wk hk; go_simp; exact ⟨rfl, rfl⟩)); refine hK _ _ ?_; clear hK K)
      iterate 5 (refine stepK rfl (by kernel_rfl) (fun K hK => ?_); go_simp; (first | (refine hK _ _ ?_; clear hK K) | (apply Exists.intro; apply And.intro; (focus (intro wk hk; go_simp; exact ⟨rfl, rfl⟩)); refine hK _ _ ?_; clear hK K)))
      iterate 2 (refine stepK rfl (by kernel_rfl) (fun K hK => ?_); go_simp; apply Exists.intro; apply And.intro; (focus (intro wk hk; go_simp; exact ⟨rfl, rfl⟩)); refine hK _ _ ?_; clear hK K)
      iterate 5 (refine stepK rfl (by kernel_rfl) (fun K hK => ?_); go_simp; (first | (refine hK _ _ ?_; clear hK K) | (apply Exists.intro; apply And.intro; (focus (intro wk hk; go_simp; exact ⟨rfl, rfl⟩)); refine hK _ _ ?_; clear hK K)))
      iterate 2 (refine stepK rfl (by kernel_rfl) (fun K hK => ?_); go_simp; apply Exists.intro; apply And.intro; (focus (intro wk hk; go_simp; exact ⟨rfl, rfl⟩)); refine hK _ _ ?_; clear hK K)
      refine stepN ?_
      refine hQ _ _ ?_
      intro w9 hT hG hF
      have H9 := Lib.hid (hl.trans (hT.below.mono hl.size))
      clear hT hG hF hQ QQ L hl r2 r3
      go_wp2_with fail
      go_ret
      exact ⟨rfl, H9.out⟩
    ·have q2 : ∀ wx, (Op.equalIn 10000 35 (.agg (bv c.tok).toArray) (.agg (bv d.tok).toArray)).run Try.prog wx = .ok false wx := fun wx => by rw [q1, decide_eq_false e3]
     have hbb : b = false := by rw [← hb]; exact decide_eq_false (fun h => e3 (by unfold Cm.key at h; simp only [Prod.mk.injEq] at h; exact h.2.2.2.1))
     subst hbb
     clear q1 hb kP kL e0 e1 e2 e3
     let L : List Sp := []
     refine wp_region_six0 (shs L) (look6 L) (None_) (by kernel_rfl) (by kernel_rfl) (mk_St L [] [] (by kernel_rfl) (by kernel_rfl) trivial (by simp)) ?_
     intro QQ hQ
     refine stepK rfl (by kernel_rfl) (fun K hK => ?_); go_simp
     apply Exists.intro; apply And.intro; (focus (intro wk hk; go_simp; exact ⟨rfl, rfl⟩)); refine hK _ _ ?_; clear hK K
     refine stepK rfl (by kernel_rfl) (fun K hK => ?_); go_simp
     apply Exists.intro; apply And.intro; (focus (intro wk hk; have cc : wk.cell? ⟨w.heap.size, 0, none⟩ = some (.int .i64 c.r) := ((K6.Row.tr r2 hk id).cell 0).trans (cA0 c); go_simp; exact ⟨rfl, rfl⟩)); refine hK _ _ ?_; clear hK K
     refine stepK rfl (by kernel_rfl) (fun K hK => ?_); go_simp
     apply Exists.intro; apply And.intro; (focus (intro wk hk; go_simp; exact ⟨rfl, rfl⟩)); refine hK _ _ ?_; clear hK K
     refine stepK rfl (by kernel_rfl) (fun K hK => ?_); go_simp
     apply Exists.intro; apply And.intro; (focus (intro wk hk; have cc : wk.cell? ⟨w.heap.size + 1, 0, none⟩ = some (.int .i64 d.r) := ((K6.Row.tr r3 hk id).cell 0).trans (cA0 d); go_simp; exact ⟨rfl, rfl⟩)); refine hK _ _ ?_; clear hK K
     iterate 2 (refine stepK rfl (by kernel_rfl) (fun K hK => ?_); go_simp; apply Exists.intro; apply And.intro; (focus (intro wk hk; go_simp; exact ⟨rfl, rfl⟩)); refine hK _ _ ?_; clear hK K)
     refine stepK rfl (by kernel_rfl) (fun K hK => ?_); go_simp
     first | (refine hK _ _ ?_; clear hK K) | (apply Exists.intro; apply And.intro; (focus (intro wk hk; go_simp; exact ⟨rfl, rfl⟩)); refine hK _ _ ?_; clear hK K)
     refine stepK rfl (by kernel_rfl) (fun K hK => ?_); go_simp
     first | (refine hK _ _ ?_; clear hK K) | (apply Exists.intro; apply And.intro; (focus (intro wk hk; have cc : wk.cell? ⟨w.heap.size, 1, none⟩ = some (.int .i64 c.x) := ((K6.Row.tr r2 hk id).cell 1).trans (cA1 c); go_simp; exact ⟨rfl, rfl⟩)); refine hK _ _ ?_; clear hK K)
     refine stepK rfl (by kernel_rfl) (fun K hK => ?_); go_simp
     first | (refine hK _ _ ?_; clear hK K) | (apply Exists.intro; apply And.intro; (focus (intro wk hk; go_simp; exact ⟨rfl, rfl⟩)); refine hK _ _ ?_; clear hK K)
     refine stepK rfl (by kernel_rfl) (fun K hK => ?_); go_simp
     first | (refine hK _ _ ?_; clear hK K) | (apply Exists.intro; apply And.intro; (focus (intro wk hk; have cc : wk.cell? ⟨w.heap.size + 1, 1, none⟩ = some (.int .i64 d.x) := ((K6.Row.tr r3 hk id).cell 1).trans (cA1 d); go_simp; exact ⟨rfl, rfl⟩)); refine hK _ _ ?_; clear hK K)
     refine stepK rfl (by kernel_rfl) (fun K hK => ?_); go_simp
     first | (refine hK _ _ ?_; clear hK K) | (apply Exists.intro; apply And.intro; (focus (intro wk hk; go_simp; exact ⟨rfl, rfl⟩)); refine hK _ _ ?_; clear hK K)
     iterate 2 (refine stepK rfl (by kernel_rfl) (fun K hK => ?_); go_simp; apply Exists.intro; apply And.intro; (focus (intro wk hk; go_simp; exact ⟨rfl, rfl⟩)); refine hK _ _ ?_; clear hK K)
     refine stepK rfl (by kernel_rfl) (fun K hK => ?_); go_simp
     first | (refine hK _ _ ?_; clear hK K) | (apply Exists.intro; apply And.intro; (focus (intro wk hk; go_simp; exact ⟨rfl, rfl⟩)); refine hK _ _ ?_; clear hK K)
     refine stepK rfl (by kernel_rfl) (fun K hK => ?_); go_simp
     first | (refine hK _ _ ?_; clear hK K) | (apply Exists.intro; apply And.intro; (focus (intro wk hk; have cc : wk.cell? ⟨w.heap.size, 2, none⟩ = some (.int .i64 c.e) := ((K6.Row.tr r2 hk id).cell 2).trans (cA2 c); go_simp; exact ⟨rfl, rfl⟩)); refine hK _ _ ?_; clear hK K)
     refine stepK rfl (by kernel_rfl) (fun K hK => ?_); go_simp
     first | (refine hK _ _ ?_; clear hK K) | (apply Exists.intro; apply And.intro; (focus (intro wk hk; go_simp; exact ⟨rfl, rfl⟩)); refine hK _ _ ?_; clear hK K)
     refine stepK rfl (by kernel_rfl) (fun K hK => ?_); go_simp
     first | (refine hK _ _ ?_; clear hK K) | (apply Exists.intro; apply And.intro; (focus (intro wk hk; have cc : wk.cell? ⟨w.heap.size + 1, 2, none⟩ = some (.int .i64 d.e) := ((K6.Row.tr r3 hk id).cell 2).trans (cA2 d); go_simp; exact ⟨rfl, rfl⟩)); refine hK _ _ ?_; clear hK K)
     refine stepK rfl (by kernel_rfl) (fun K hK => ?_); go_simp
     first | (refine hK _ _ ?_; clear hK K) | (apply Exists.intro; apply And.intro; (focus (intro wk hk; go_simp; exact ⟨rfl, rfl⟩)); refine hK _ _ ?_; clear hK K)
     iterate 2 (refine stepK rfl (by kernel_rfl) (fun K hK => ?_); go_simp; apply Exists.intro; apply And.intro; (focus (intro wk hk; go_simp; exact ⟨rfl, rfl⟩)); refine hK _ _ ?_; clear hK K)
     refine stepK rfl (by kernel_rfl) (fun K hK => ?_); go_simp
     first | (refine hK _ _ ?_; clear hK K) | (apply Exists.intro; apply And.intro; (focus (intro wk hk; go_simp; exact ⟨rfl, rfl⟩)); refine hK _ _ ?_; clear hK K)
     refine stepK rfl (by kernel_rfl) (fun K hK => ?_); go_simp
     first | (refine hK _ _ ?_; clear hK K) | (apply Exists.intro; apply And.intro; (focus exact kLoadMid rfl rfl aggR35 r2 (Cm.tok_ hc) hbc id); refine hK _ _ ?_; clear hK K)
     refine stepK rfl (by kernel_rfl) (fun K hK => ?_); go_simp
     first | (refine hK _ _ ?_; clear hK K) | (apply Exists.intro; apply And.intro; (focus (intro wk hk; go_simp; exact ⟨rfl, rfl⟩)); refine hK _ _ ?_; clear hK K)
     refine stepK rfl (by kernel_rfl) (fun K hK => ?_); go_simp
     first | (refine hK _ _ ?_; clear hK K) | (apply Exists.intro; apply And.intro; (focus exact kLoadMid rfl rfl aggR35 r3 (Cm.tok_ hd) hbd id); refine hK _ _ ?_; clear hK K)
     refine stepK rfl (by kernel_rfl) (fun K hK => ?_); go_simp
     first | (refine hK _ _ ?_; clear hK K) | (apply Exists.intro; apply And.intro; (focus (intro wk hk; go_simp; exact ⟨rfl, rfl⟩)); refine hK _ _ ?_; clear hK K)
     iterate 2 (refine stepK rfl (by kernel_rfl) (fun K hK => ?_); go_simp; apply Exists.intro; apply And.intro; (focus (intro wk hk; go_simp; exact ⟨rfl, rfl⟩)); refine hK _ _ ?_; clear hK K)
     iterate 5 (refine stepK rfl (by kernel_rfl) (fun K hK => ?_); go_simp; (first | (refine hK _ _ ?_; clear hK K) | (apply Exists.intro; apply And.intro; (focus (intro wk hk; go_simp; exact ⟨rfl, rfl⟩)); refine hK _ _ ?_; clear hK K)))
     iterate 2 (refine stepK rfl (by kernel_rfl) (fun K hK => ?_); go_simp; apply Exists.intro; apply And.intro; (focus (intro wk hk; go_simp; exact ⟨rfl, rfl⟩)); refine hK _ _ ?_; clear hK K)
     iterate 5 (refine stepK rfl (by kernel_rfl) (fun K hK => ?_); go_simp; (first | (refine hK _ _ ?_; clear hK K) | (apply Exists.intro; apply And.intro; (focus (intro wk hk; go_simp; exact ⟨rfl, rfl⟩)); refine hK _ _ ?_; clear hK K)))
     iterate 2 (refine stepK rfl (by kernel_rfl) (fun K hK => ?_); go_simp; apply Exists.intro; apply And.intro; (focus (intro wk hk; go_simp; exact ⟨rfl, rfl⟩)); refine hK _ _ ?_; clear hK K)
     iterate 5 (refine stepK rfl (by kernel_rfl) (fun K hK => ?_); go_simp; (first | (refine hK _ _ ?_; clear hK K) | (apply Exists.intro; apply And.intro; (focus (intro wk hk; go_simp; exact ⟨rfl, rfl⟩)); refine hK _ _ ?_; clear hK K)))
     iterate 2 (refine stepK rfl (by kernel_rfl) (fun K hK => ?_); go_simp; apply Exists.intro; apply And.intro; (focus (intro wk hk; go_simp; exact ⟨rfl, rfl⟩)); refine hK _ _ ?_; clear hK K)
     refine stepN ?_
     refine hQ _ _ ?_
     intro w9 hT hG hF
     have H9 := Lib.hid (hl.trans (hT.below.mono hl.size))
     clear hT hG hF hQ QQ L hl r2 r3
     go_wp2_with fail
     go_ret
     exact ⟨rfl, H9.out⟩
   ·have h2 : (c.e == d.e) = false := by rw [beq_eq_false_iff_ne]; exact e2
    have hbb : b = false := by rw [← hb]; exact decide_eq_false (fun h => e2 (by unfold Cm.key at h; simp only [Prod.mk.injEq] at h; exact h.2.2.1))
    subst hbb
    clear q1 hb kP kL e0 e1 e2
    let L : List Sp := []
    refine wp_region_six0 (shs L) (look6 L) (None_) (by kernel_rfl) (by kernel_rfl) (mk_St L [] [] (by kernel_rfl) (by kernel_rfl) trivial (by simp)) ?_
    intro QQ hQ
    refine stepK rfl (by kernel_rfl) (fun K hK => ?_); go_simp
    apply Exists.intro; apply And.intro; (focus (intro wk hk; go_simp; exact ⟨rfl, rfl⟩)); refine hK _ _ ?_; clear hK K
    refine stepK rfl (by kernel_rfl) (fun K hK => ?_); go_simp
    apply Exists.intro; apply And.intro; (focus (intro wk hk; have cc : wk.cell? ⟨w.heap.size, 0, none⟩ = some (.int .i64 c.r) := ((K6.Row.tr r2 hk id).cell 0).trans (cA0 c); go_simp; exact ⟨rfl, rfl⟩)); refine hK _ _ ?_; clear hK K
    refine stepK rfl (by kernel_rfl) (fun K hK => ?_); go_simp
    apply Exists.intro; apply And.intro; (focus (intro wk hk; go_simp; exact ⟨rfl, rfl⟩)); refine hK _ _ ?_; clear hK K
    refine stepK rfl (by kernel_rfl) (fun K hK => ?_); go_simp
    apply Exists.intro; apply And.intro; (focus (intro wk hk; have cc : wk.cell? ⟨w.heap.size + 1, 0, none⟩ = some (.int .i64 d.r) := ((K6.Row.tr r3 hk id).cell 0).trans (cA0 d); go_simp; exact ⟨rfl, rfl⟩)); refine hK _ _ ?_; clear hK K
    iterate 2 (refine stepK rfl (by kernel_rfl) (fun K hK => ?_); go_simp; apply Exists.intro; apply And.intro; (focus (intro wk hk; go_simp; exact ⟨rfl, rfl⟩)); refine hK _ _ ?_; clear hK K)
    refine stepK rfl (by kernel_rfl) (fun K hK => ?_); go_simp
    first | (refine hK _ _ ?_; clear hK K) | (apply Exists.intro; apply And.intro; (focus (intro wk hk; go_simp; exact ⟨rfl, rfl⟩)); refine hK _ _ ?_; clear hK K)
    refine stepK rfl (by kernel_rfl) (fun K hK => ?_); go_simp
    first | (refine hK _ _ ?_; clear hK K) | (apply Exists.intro; apply And.intro; (focus (intro wk hk; have cc : wk.cell? ⟨w.heap.size, 1, none⟩ = some (.int .i64 c.x) := ((K6.Row.tr r2 hk id).cell 1).trans (cA1 c); go_simp; exact ⟨rfl, rfl⟩)); refine hK _ _ ?_; clear hK K)
    refine stepK rfl (by kernel_rfl) (fun K hK => ?_); go_simp
    first | (refine hK _ _ ?_; clear hK K) | (apply Exists.intro; apply And.intro; (focus (intro wk hk; go_simp; exact ⟨rfl, rfl⟩)); refine hK _ _ ?_; clear hK K)
    refine stepK rfl (by kernel_rfl) (fun K hK => ?_); go_simp
    first | (refine hK _ _ ?_; clear hK K) | (apply Exists.intro; apply And.intro; (focus (intro wk hk; have cc : wk.cell? ⟨w.heap.size + 1, 1, none⟩ = some (.int .i64 d.x) := ((K6.Row.tr r3 hk id).cell 1).trans (cA1 d); go_simp; exact ⟨rfl, rfl⟩)); refine hK _ _ ?_; clear hK K)
    refine stepK rfl (by kernel_rfl) (fun K hK => ?_); go_simp
    first | (refine hK _ _ ?_; clear hK K) | (apply Exists.intro; apply And.intro; (focus (intro wk hk; go_simp; exact ⟨rfl, rfl⟩)); refine hK _ _ ?_; clear hK K)
    iterate 2 (refine stepK rfl (by kernel_rfl) (fun K hK => ?_); go_simp; apply Exists.intro; apply And.intro; (focus (intro wk hk; go_simp; exact ⟨rfl, rfl⟩)); refine hK _ _ ?_; clear hK K)
    refine stepK rfl (by kernel_rfl) (fun K hK => ?_); go_simp
    first | (refine hK _ _ ?_; clear hK K) | (apply Exists.intro; apply And.intro; (focus (intro wk hk; go_simp; exact ⟨rfl, rfl⟩)); refine hK _ _ ?_; clear hK K)
    refine stepK rfl (by kernel_rfl) (fun K hK => ?_); go_simp
    first | (refine hK _ _ ?_; clear hK K) | (apply Exists.intro; apply And.intro; (focus (intro wk hk; have cc : wk.cell? ⟨w.heap.size, 2, none⟩ = some (.int .i64 c.e) := ((K6.Row.tr r2 hk id).cell 2).trans (cA2 c); go_simp; exact ⟨rfl, rfl⟩)); refine hK _ _ ?_; clear hK K)
    refine stepK rfl (by kernel_rfl) (fun K hK => ?_); go_simp
    first | (refine hK _ _ ?_; clear hK K) | (apply Exists.intro; apply And.intro; (focus (intro wk hk; go_simp; exact ⟨rfl, rfl⟩)); refine hK _ _ ?_; clear hK K)
    refine stepK rfl (by kernel_rfl) (fun K hK => ?_); go_simp
    first | (refine hK _ _ ?_; clear hK K) | (apply Exists.intro; apply And.intro; (focus (intro wk hk; have cc : wk.cell? ⟨w.heap.size + 1, 2, none⟩ = some (.int .i64 d.e) := ((K6.Row.tr r3 hk id).cell 2).trans (cA2 d); go_simp; exact ⟨rfl, rfl⟩)); refine hK _ _ ?_; clear hK K)
    refine stepK rfl (by kernel_rfl) (fun K hK => ?_); go_simp
    first | (refine hK _ _ ?_; clear hK K) | (apply Exists.intro; apply And.intro; (focus (intro wk hk; go_simp; exact ⟨rfl, rfl⟩)); refine hK _ _ ?_; clear hK K)
    iterate 2 (refine stepK rfl (by kernel_rfl) (fun K hK => ?_); go_simp; apply Exists.intro; apply And.intro; (focus (intro wk hk; go_simp; exact ⟨rfl, rfl⟩)); refine hK _ _ ?_; clear hK K)
    iterate 5 (refine stepK rfl (by kernel_rfl) (fun K hK => ?_); go_simp; (first | (refine hK _ _ ?_; clear hK K) | (apply Exists.intro; apply And.intro; (focus (intro wk hk; go_simp; exact ⟨rfl, rfl⟩)); refine hK _ _ ?_; clear hK K)))
    iterate 2 (refine stepK rfl (by kernel_rfl) (fun K hK => ?_); go_simp; apply Exists.intro; apply And.intro; (focus (intro wk hk; go_simp; exact ⟨rfl, rfl⟩)); refine hK _ _ ?_; clear hK K)
    iterate 5 (refine stepK rfl (by kernel_rfl) (fun K hK => ?_); go_simp; (first | (refine hK _ _ ?_; clear hK K) | (apply Exists.intro; apply And.intro; (focus (intro wk hk; go_simp; exact ⟨rfl, rfl⟩)); refine hK _ _ ?_; clear hK K)))
    iterate 2 (refine stepK rfl (by kernel_rfl) (fun K hK => ?_); go_simp; apply Exists.intro; apply And.intro; (focus (intro wk hk; go_simp; exact ⟨rfl, rfl⟩)); refine hK _ _ ?_; clear hK K)
    iterate 5 (refine stepK rfl (by kernel_rfl) (fun K hK => ?_); go_simp; (first | (refine hK _ _ ?_; clear hK K) | (apply Exists.intro; apply And.intro; (focus (intro wk hk; go_simp; exact ⟨rfl, rfl⟩)); refine hK _ _ ?_; clear hK K)))
    iterate 2 (refine stepK rfl (by kernel_rfl) (fun K hK => ?_); go_simp; apply Exists.intro; apply And.intro; (focus (intro wk hk; go_simp; exact ⟨rfl, rfl⟩)); refine hK _ _ ?_; clear hK K)
    iterate 5 (refine stepK rfl (by kernel_rfl) (fun K hK => ?_); go_simp; (first | (refine hK _ _ ?_; clear hK K) | (apply Exists.intro; apply And.intro; (focus (intro wk hk; go_simp; exact ⟨rfl, rfl⟩)); refine hK _ _ ?_; clear hK K)))
    iterate 2 (refine stepK rfl (by kernel_rfl) (fun K hK => ?_); go_simp; apply Exists.intro; apply And.intro; (focus (intro wk hk; go_simp; exact ⟨rfl, rfl⟩)); refine hK _ _ ?_; clear hK K)
    refine stepN ?_
    refine hQ _ _ ?_
    intro w9 hT hG hF
    have H9 := Lib.hid (hl.trans (hT.below.mono hl.size))
    clear hT hG hF hQ QQ L hl r2 r3
    go_wp2_with fail
    go_ret
    exact ⟨rfl, H9.out⟩
  ·have h1 : (c.x == d.x) = false := by rw [beq_eq_false_iff_ne]; exact e1
   have hbb : b = false := by rw [← hb]; exact decide_eq_false (fun h => e1 (by unfold Cm.key at h; simp only [Prod.mk.injEq] at h; exact h.2.1))
   subst hbb
   clear q1 hb kP kL e0 e1
   let L : List Sp := []
   refine wp_region_six0 (shs L) (look6 L) (None_) (by kernel_rfl) (by kernel_rfl) (mk_St L [] [] (by kernel_rfl) (by kernel_rfl) trivial (by simp)) ?_
   intro QQ hQ
   refine stepK rfl (by kernel_rfl) (fun K hK => ?_); go_simp
   apply Exists.intro; apply And.intro; (focus (intro wk hk; go_simp; exact ⟨rfl, rfl⟩)); refine hK _ _ ?_; clear hK K
   refine stepK rfl (by kernel_rfl) (fun K hK => ?_); go_simp
   apply Exists.intro; apply And.intro; (focus (intro wk hk; have cc : wk.cell? ⟨w.heap.size, 0, none⟩ = some (.int .i64 c.r) := ((K6.Row.tr r2 hk id).cell 0).trans (cA0 c); go_simp; exact ⟨rfl, rfl⟩)); refine hK _ _ ?_; clear hK K
   refine stepK rfl (by kernel_rfl) (fun K hK => ?_); go_simp
   apply Exists.intro; apply And.intro; (focus (intro wk hk; go_simp; exact ⟨rfl, rfl⟩)); refine hK _ _ ?_; clear hK K
   refine stepK rfl (by kernel_rfl) (fun K hK => ?_); go_simp
   apply Exists.intro; apply And.intro; (focus (intro wk hk; have cc : wk.cell? ⟨w.heap.size + 1, 0, none⟩ = some (.int .i64 d.r) := ((K6.Row.tr r3 hk id).cell 0).trans (cA0 d); go_simp; exact ⟨rfl, rfl⟩)); refine hK _ _ ?_; clear hK K
   iterate 2 (refine stepK rfl (by kernel_rfl) (fun K hK => ?_); go_simp; apply Exists.intro; apply And.intro; (focus (intro wk hk; go_simp; exact ⟨rfl, rfl⟩)); refine hK _ _ ?_; clear hK K)
   refine stepK rfl (by kernel_rfl) (fun K hK => ?_); go_simp
   first | (refine hK _ _ ?_; clear hK K) | (apply Exists.intro; apply And.intro; (focus (intro wk hk; go_simp; exact ⟨rfl, rfl⟩)); refine hK _ _ ?_; clear hK K)
   refine stepK rfl (by kernel_rfl) (fun K hK => ?_); go_simp
   first | (refine hK _ _ ?_; clear hK K) | (apply Exists.intro; apply And.intro; (focus (intro wk hk; have cc : wk.cell? ⟨w.heap.size, 1, none⟩ = some (.int .i64 c.x) := ((K6.Row.tr r2 hk id).cell 1).trans (cA1 c); go_simp; exact ⟨rfl, rfl⟩)); refine hK _ _ ?_; clear hK K)
   refine stepK rfl (by kernel_rfl) (fun K hK => ?_); go_simp
   first | (refine hK _ _ ?_; clear hK K) | (apply Exists.intro; apply And.intro; (focus (intro wk hk; go_simp; exact ⟨rfl, rfl⟩)); refine hK _ _ ?_; clear hK K)
   refine stepK rfl (by kernel_rfl) (fun K hK => ?_); go_simp
   first | (refine hK _ _ ?_; clear hK K) | (apply Exists.intro; apply And.intro; (focus (intro wk hk; have cc : wk.cell? ⟨w.heap.size + 1, 1, none⟩ = some (.int .i64 d.x) := ((K6.Row.tr r3 hk id).cell 1).trans (cA1 d); go_simp; exact ⟨rfl, rfl⟩)); refine hK _ _ ?_; clear hK K)
   refine stepK rfl (by kernel_rfl) (fun K hK => ?_); go_simp
   first | (refine hK _ _ ?_; clear hK K) | (apply Exists.intro; apply And.intro; (focus (intro wk hk; go_simp; exact ⟨rfl, rfl⟩)); refine hK _ _ ?_; clear hK K)
   iterate 2 (refine stepK rfl (by kernel_rfl) (fun K hK => ?_); go_simp; apply Exists.intro; apply And.intro; (focus (intro wk hk; go_simp; exact ⟨rfl, rfl⟩)); refine hK _ _ ?_; clear hK K)
   iterate 5 (refine stepK rfl (by kernel_rfl) (fun K hK => ?_); go_simp; (first | (refine hK _ _ ?_; clear hK K) | (apply Exists.intro; apply And.intro; (focus (intro wk hk; go_simp; exact ⟨rfl, rfl⟩)); refine hK _ _ ?_; clear hK K)))
   iterate 2 (refine stepK rfl (by kernel_rfl) (fun K hK => ?_); go_simp; apply Exists.intro; apply And.intro; (focus (intro wk hk; go_simp; exact ⟨rfl, rfl⟩)); refine hK _ _ ?_; clear hK K)
   iterate 5 (refine stepK rfl (by kernel_rfl) (fun K hK => ?_); go_simp; (first | (refine hK _ _ ?_; clear hK K) | (apply Exists.intro; apply And.intro; (focus (intro wk hk; go_simp; exact ⟨rfl, rfl⟩)); refine hK _ _ ?_; clear hK K)))
   iterate 2 (refine stepK rfl (by kernel_rfl) (fun K hK => ?_); go_simp; apply Exists.intro; apply And.intro; (focus (intro wk hk; go_simp; exact ⟨rfl, rfl⟩)); refine hK _ _ ?_; clear hK K)
   iterate 5 (refine stepK rfl (by kernel_rfl) (fun K hK => ?_); go_simp; (first | (refine hK _ _ ?_; clear hK K) | (apply Exists.intro; apply And.intro; (focus (intro wk hk; go_simp; exact ⟨rfl, rfl⟩)); refine hK _ _ ?_; clear hK K)))
   iterate 2 (refine stepK rfl (by kernel_rfl) (fun K hK => ?_); go_simp; apply Exists.intro; apply And.intro; (focus (intro wk hk; go_simp; exact ⟨rfl, rfl⟩)); refine hK _ _ ?_; clear hK K)
   iterate 5 (refine stepK rfl (by kernel_rfl) (fun K hK => ?_); go_simp; (first | (refine hK _ _ ?_; clear hK K) | (apply Exists.intro; apply And.intro; (focus (intro wk hk; go_simp; exact ⟨rfl, rfl⟩)); refine hK _ _ ?_; clear hK K)))
   iterate 2 (refine stepK rfl (by kernel_rfl) (fun K hK => ?_); go_simp; apply Exists.intro; apply And.intro; (focus (intro wk hk; go_simp; exact ⟨rfl, rfl⟩)); refine hK _ _ ?_; clear hK K)
   iterate 5 (refine stepK rfl (by kernel_rfl) (fun K hK => ?_); go_simp; (first | (refine hK _ _ ?_; clear hK K) | (apply Exists.intro; apply And.intro; (focus (intro wk hk; go_simp; exact ⟨rfl, rfl⟩)); refine hK _ _ ?_; clear hK K)))
   iterate 2 (refine stepK rfl (by kernel_rfl) (fun K hK => ?_); go_simp; apply Exists.intro; apply And.intro; (focus (intro wk hk; go_simp; exact ⟨rfl, rfl⟩)); refine hK _ _ ?_; clear hK K)
   refine stepN ?_
   refine hQ _ _ ?_
   intro w9 hT hG hF
   have H9 := Lib.hid (hl.trans (hT.below.mono hl.size))
   clear hT hG hF hQ QQ L hl r2 r3
   go_wp2_with fail
   go_ret
   exact ⟨rfl, H9.out⟩
 ·have h0 : (c.r == d.r) = false := by rw [beq_eq_false_iff_ne]; exact e0
  have hbb : b = false := by rw [← hb]; exact decide_eq_false (fun h => e0 (by unfold Cm.key at h; simp only [Prod.mk.injEq] at h; exact h.1))
  subst hbb
  clear q1 hb kP kL e0
  let L : List Sp := []
  refine wp_region_six0 (shs L) (look6 L) (None_) (by kernel_rfl) (by kernel_rfl) (mk_St L [] [] (by kernel_rfl) (by kernel_rfl) trivial (by simp)) ?_
  intro QQ hQ
  refine stepK rfl (by kernel_rfl) (fun K hK => ?_); go_simp
  apply Exists.intro; apply And.intro; (focus (intro wk hk; go_simp; exact ⟨rfl, rfl⟩)); refine hK _ _ ?_; clear hK K
  refine stepK rfl (by kernel_rfl) (fun K hK => ?_); go_simp
  apply Exists.intro; apply And.intro; (focus (intro wk hk; have cc : wk.cell? ⟨w.heap.size, 0, none⟩ = some (.int .i64 c.r) := ((K6.Row.tr r2 hk id).cell 0).trans (cA0 c); go_simp; exact ⟨rfl, rfl⟩)); refine hK _ _ ?_; clear hK K
  refine stepK rfl (by kernel_rfl) (fun K hK => ?_); go_simp
  apply Exists.intro; apply And.intro; (focus (intro wk hk; go_simp; exact ⟨rfl, rfl⟩)); refine hK _ _ ?_; clear hK K
  refine stepK rfl (by kernel_rfl) (fun K hK => ?_); go_simp
  apply Exists.intro; apply And.intro; (focus (intro wk hk; have cc : wk.cell? ⟨w.heap.size + 1, 0, none⟩ = some (.int .i64 d.r) := ((K6.Row.tr r3 hk id).cell 0).trans (cA0 d); go_simp; exact ⟨rfl, rfl⟩)); refine hK _ _ ?_; clear hK K
  iterate 2 (refine stepK rfl (by kernel_rfl) (fun K hK => ?_); go_simp; apply Exists.intro; apply And.intro; (focus (intro wk hk; go_simp; exact ⟨rfl, rfl⟩)); refine hK _ _ ?_; clear hK K)
  iterate 5 (refine stepK rfl (by kernel_rfl) (fun K hK => ?_); go_simp; (first | (refine hK _ _ ?_; clear hK K) | (apply Exists.intro; apply And.intro; (focus (intro wk hk; go_simp; exact ⟨rfl, rfl⟩)); refine hK _ _ ?_; clear hK K)))
  iterate 2 (refine stepK rfl (by kernel_rfl) (fun K hK => ?_); go_simp; apply Exists.intro; apply And.intro; (focus (intro wk hk; go_simp; exact ⟨rfl, rfl⟩)); refine hK _ _ ?_; clear hK K)
  iterate 5 (refine stepK rfl (by kernel_rfl) (fun K hK => ?_); go_simp; (first | (refine hK _ _ ?_; clear hK K) | (apply Exists.intro; apply And.intro; (focus (intro wk hk; go_simp; exact ⟨rfl, rfl⟩)); refine hK _ _ ?_; clear hK K)))
  iterate 2 (refine stepK rfl (by kernel_rfl) (fun K hK => ?_); go_simp; apply Exists.intro; apply And.intro; (focus (intro wk hk; go_simp; exact ⟨rfl, rfl⟩)); refine hK _ _ ?_; clear hK K)
  iterate 5 (refine stepK rfl (by kernel_rfl) (fun K hK => ?_); go_simp; (first | (refine hK _ _ ?_; clear hK K) | (apply Exists.intro; apply And.intro; (focus (intro wk hk; go_simp; exact ⟨rfl, rfl⟩)); refine hK _ _ ?_; clear hK K)))
  iterate 2 (refine stepK rfl (by kernel_rfl) (fun K hK => ?_); go_simp; apply Exists.intro; apply And.intro; (focus (intro wk hk; go_simp; exact ⟨rfl, rfl⟩)); refine hK _ _ ?_; clear hK K)
  iterate 5 (refine stepK rfl (by kernel_rfl) (fun K hK => ?_); go_simp; (first | (refine hK _ _ ?_; clear hK K) | (apply Exists.intro; apply And.intro; (focus (intro wk hk; go_simp; exact ⟨rfl, rfl⟩)); refine hK _ _ ?_; clear hK K)))
  iterate 2 (refine stepK rfl (by kernel_rfl) (fun K hK => ?_); go_simp; apply Exists.intro; apply And.intro; (focus (intro wk hk; go_simp; exact ⟨rfl, rfl⟩)); refine hK _ _ ?_; clear hK K)
  iterate 5 (refine stepK rfl (by kernel_rfl) (fun K hK => ?_); go_simp; (first | (refine hK _ _ ?_; clear hK K) | (apply Exists.intro; apply And.intro; (focus (intro wk hk; go_simp; exact ⟨rfl, rfl⟩)); refine hK _ _ ?_; clear hK K)))
  iterate 2 (refine stepK rfl (by kernel_rfl) (fun K hK => ?_); go_simp; apply Exists.intro; apply And.intro; (focus (intro wk hk; go_simp; exact ⟨rfl, rfl⟩)); refine hK _ _ ?_; clear hK K)
  iterate 5 (refine stepK rfl (by kernel_rfl) (fun K hK => ?_); go_simp; (first | (refine hK _ _ ?_; clear hK K) | (apply Exists.intro; apply And.intro; (focus (intro wk hk; go_simp; exact ⟨rfl, rfl⟩)); refine hK _ _ ?_; clear hK K)))
  iterate 2 (refine stepK rfl (by kernel_rfl) (fun K hK => ?_); go_simp; apply Exists.intro; apply And.intro; (focus (intro wk hk; go_simp; exact ⟨rfl, rfl⟩)); refine hK _ _ ?_; clear hK K)
  refine stepN ?_
  refine hQ _ _ ?_
  intro w9 hT hG hF
  have H9 := Lib.hid (hl.trans (hT.below.mono hl.size))
  clear hT hG hF hQ QQ L hl r2 r3
  go_wp2_with fail
  go_ret
  exact ⟨rfl, H9.out⟩
end Go.Proofs.Ytpdenhmkpiafiaa
namespace Go.Proofs.Ytpdenhmkpiafiaa
open Go Go.RowKit K6
theorem tA0 (t : Txv) : t.cs.toArray[0]? = some (.int .i64 t.k) := rfl
theorem tA1 (t : Txv) : t.cs.toArray[1]? = some (.int .i64 t.f) := rfl
theorem tA2 (t : Txv) : t.cs.toArray[2]? = some (.slice t.nq t.n.length t.nc) := rfl
theorem tA3 (t : Txv) : t.cs.toArray[3]? = some (.slice t.aq t.a.length t.ac) := rfl
theorem tA4 (t : Txv) : t.cs.toArray[4]? = some (.slice t.hq t.h.length t.hc) := rfl
set_option maxRecDepth 100000 in
set_option maxHeartbeats 16000000 in
theorem counts_at (s : Shp) (t : Txv) (w : World) (hs : 0 ≤ s.n ∧ s.n ≤ 3) (hn : t.n.length ≤ 140737488355328) (ha : t.a.length ≤ 140737488355328) (hh : t.h.length ≤ 140737488355328) :
  Calls Try.prog 208 #[.agg s.cs, .agg t.cs.toArray] w fun r w' => r = .returned (.bool (cntB s t.n.length t.a.length t.h.length)) ∧ Below w.heap.size w w' := by
 obtain ⟨sn, st, sa, se, sh, sc⟩ := s
 obtain ⟨nN, hnN⟩ : ∃ n, t.n.length = n := ⟨_, rfl⟩
 obtain ⟨nA, hnA⟩ : ∃ n, t.a.length = n := ⟨_, rfl⟩
 obtain ⟨nH, hnH⟩ : ∃ n, t.h.length = n := ⟨_, rfl⟩
 have x2 := tA2 t
 have x3 := tA3 t
 have x4 := tA4 t
 rw [hnN] at x2 hn
 rw [hnA] at x3 ha
 rw [hnH] at x4 hh
 rw [hnN, hnA, hnH]
 simp only at hs
 obtain ⟨T, hT⟩ : ∃ T, (nN : Int) - sn = T := ⟨_, rfl⟩
 have wT : IntKind.i64.wrap ((nN : Int) - sn) = T := by rw [IntKind.wrap_i64]; omega
 obtain ⟨am, ham⟩ : ∃ x, (if se = true then T else sa) = x := ⟨_, rfl⟩
 obtain ⟨b1, hb1⟩ : ∃ b, (if st = true then decide (1 ≤ T ∧ T ≤ 8) else decide (T = 0)) = b := ⟨_, rfl⟩
 obtain ⟨b2, hb2⟩ : ∃ b, decide ((nA : Int) = am) = b := ⟨_, rfl⟩
 obtain ⟨b3, hb3⟩ : ∃ b, decide ((nH : Int) = sh) = b := ⟨_, rfl⟩
 have hB : cntB ⟨sn, st, sa, se, sh, sc⟩ nN nA nH = (b1 && (b2 && b3)) := by
  unfold cntB
  simp only [hT]
  rw [hb1, ham, hb2, hb3]
 rw [hB]
 have kw := Lib.hid fun wx => within_at T 1 8 wx
 have X := Lib.hid (show _ ∧ _ ∧ _ from ⟨x2, x3, x4⟩)
 have HH := Lib.hid (show _ ∧ _ ∧ _ from ⟨hb1, hb2, hb3⟩)
 have q2 : ((nA : Int) == am) = b2 := by rw [← hb2]; rfl
 have q3 : ((nH : Int) == sh) = b3 := by rw [← hb3]; rfl
 obtain ⟨cs, hcs⟩ : ∃ c, t.cs.toArray = c := ⟨_, rfl⟩
 rw [hcs] at X ⊢
 have hNi : (nN : Int) ≤ 140737488355328 := by omega
 have hAi : (nA : Int) ≤ 140737488355328 := by omega
 have hHi : (nH : Int) ≤ 140737488355328 := by omega
 unfold Shp.cs
 clear hnN hnA hnH x2 x3 x4 hB hb1 hb2 hb3 hs hT hcs hn ha hh
 go_enter Try.func208, Try.ntmps208
 go_upto_region 1 with (fail)
 refine wp_abs (Mem w [(w.heap.size, 107, #[.int .i64 sn, .bool st, .int .i64 sa, .bool se, .int .i64 sh, .bool sc]), (w.heap.size + 1, 116, cs)]) ⟨by go_grown, by (repeat (first | (refine Row.new_at ?_; simp; done) | refine Row.alloc ?_ _)), by (repeat (first | (refine Row.new_at ?_; simp; done) | refine Row.alloc ?_ _)), trivial⟩ ?_
 intro w0 hM
 obtain ⟨hl, r2, r3, -⟩ := hM
 cases st <;> cases se
 · -- tail false, each false
  obtain rfl : sa = am := by simpa using ham
  clear ham
  have q1 : (T == 0) = b1 := by have h := HH.out.1; rw [if_neg (by simp)] at h; rw [← h]; rfl
  have d2 := (r3.cell 2).trans X.out.1
  have d3 := (r3.cell 3).trans X.out.2.1
  have d4 := (r3.cell 4).trans X.out.2.2
  have e0 := r2.cell 0
  have e1 := r2.cell 1
  have e2 := r2.cell 2
  have e3 := r2.cell 3
  have e4 := r2.cell 4
  have HL := Lib.hid hl
  clear hl r2 r3 X HH kw
  cases b1
  ·go_wp2_with fail
   go_ret
   exact ⟨rfl, HL.out⟩
  cases b2
  ·go_wp2_with fail
   go_ret
   exact ⟨rfl, HL.out⟩
  ·go_wp2_with fail
   go_ret
   exact ⟨rfl, HL.out⟩
 · -- tail false, each true
  obtain rfl : T = am := by simpa using ham
  clear ham
  have q1 : (T == 0) = b1 := by have h := HH.out.1; rw [if_neg (by simp)] at h; rw [← h]; rfl
  have d2 := (r3.cell 2).trans X.out.1
  have d3 := (r3.cell 3).trans X.out.2.1
  have d4 := (r3.cell 4).trans X.out.2.2
  have e0 := r2.cell 0
  have e1 := r2.cell 1
  have e2 := r2.cell 2
  have e3 := r2.cell 3
  have e4 := r2.cell 4
  have HL := Lib.hid hl
  clear hl r2 r3 X HH kw
  cases b1
  ·go_wp2_with fail
   go_ret
   exact ⟨rfl, HL.out⟩
  cases b2
  ·go_wp2_with fail
   go_ret
   exact ⟨rfl, HL.out⟩
  ·go_wp2_with fail
   go_ret
   exact ⟨rfl, HL.out⟩
 · -- tail true, each false
  obtain rfl : sa = am := by simpa using ham
  clear ham
  have HL := Lib.hid (show _ ∧ _ ∧ _ from ⟨hl, r2, r3⟩)
  have h1 := Lib.hid (show decide (1 ≤ T ∧ T ≤ 8) = b1 by have h := HH.out.1; rwa [if_pos rfl] at h)
  rw [h1.out] at kw
  have d2 := (r3.cell 2).trans X.out.1
  have e0 := r2.cell 0
  have e1 := r2.cell 1
  have e2 := r2.cell 2
  have e3 := r2.cell 3
  clear hl r2 r3 HH
  go_wp2_with fail
  refine (kw.out _).mono ?_
  rintro e w1 ⟨rfl, hb⟩
  have r2 := HL.out.2.1.below hb HL.out.2.1.lt
  have r3 := HL.out.2.2.below hb HL.out.2.2.lt
  have H1 := Lib.hid (HL.out.1.trans (hb.mono HL.out.1.size))
  clear kw hb HL d2 e0 e1 e2 e3 h1
  have d3 := (r3.cell 3).trans X.out.2.1
  have d4 := (r3.cell 4).trans X.out.2.2
  have e4 := r2.cell 4
  clear r2 r3 X
  cases b1
  ·go_wp2_with fail
   go_ret
   exact ⟨rfl, H1.out⟩
  cases b2
  ·go_wp2_with fail
   go_ret
   exact ⟨rfl, H1.out⟩
  ·go_wp2_with fail
   go_ret
   exact ⟨rfl, H1.out⟩
 · -- tail true, each true
  obtain rfl : T = am := by simpa using ham
  clear ham
  have HL := Lib.hid (show _ ∧ _ ∧ _ from ⟨hl, r2, r3⟩)
  have h1 := Lib.hid (show decide (1 ≤ T ∧ T ≤ 8) = b1 by have h := HH.out.1; rwa [if_pos rfl] at h)
  rw [h1.out] at kw
  have d2 := (r3.cell 2).trans X.out.1
  have e0 := r2.cell 0
  have e1 := r2.cell 1
  have e2 := r2.cell 2
  have e3 := r2.cell 3
  clear hl r2 r3 HH
  go_wp2_with fail
  refine (kw.out _).mono ?_
  rintro e w1 ⟨rfl, hb⟩
  have r2 := HL.out.2.1.below hb HL.out.2.1.lt
  have r3 := HL.out.2.2.below hb HL.out.2.2.lt
  have H1 := Lib.hid (HL.out.1.trans (hb.mono HL.out.1.size))
  clear kw hb HL d2 e0 e1 e2 e3 h1
  have d3 := (r3.cell 3).trans X.out.2.1
  have d4 := (r3.cell 4).trans X.out.2.2
  have e4 := r2.cell 4
  clear r2 r3 X
  cases b1
  ·go_wp2_with fail
   go_ret
   exact ⟨rfl, H1.out⟩
  cases b2
  ·go_wp2_with fail
   go_ret
   exact ⟨rfl, H1.out⟩
  ·go_wp2_with fail
   go_ret
   exact ⟨rfl, H1.out⟩
set_option maxRecDepth 100000 in
set_option maxHeartbeats 16000000 in
theorem goodClaim_at (c : Cm) (w : World) (hc : CmOk w c) (hp : c.p.length ≤ 1000) (hlE : c.l.length ≤ 1000) (hlP : ∀ e ∈ c.l, e.p.length ≤ 1000) :
  Calls Try.prog 211 #[.agg c.cs.toArray] w fun r w' => r = .returned (.bool (goodCK c.key)) ∧ Below w.heap.size w w' := by
 have k0 := Lib.hid fun wx => within_at c.r 0 4294967295 wx
 have k1 := Lib.hid fun wx => within_at c.x 0 4294967295 wx
 have k2 := Lib.hid fun wx => within_at c.e 1 4294967295 wx
 have k3 := Lib.hid fun wx => within_at c.z 1 4294967295 wx
 have kL := fun wx (hbw : Below w.heap.size w wx) => goodL_cont c.lv c.l wx (hc.l.below hbw) (fun x hx => by have := hlP x hx; omega) hlE
 have hok : goodCK c.key = ((decide (0 ≤ c.r ∧ c.r ≤ 4294967295) && (decide (0 ≤ c.x ∧ c.x ≤ 4294967295) && (decide (1 ≤ c.e ∧ c.e ≤ 4294967295) && decide (1 ≤ c.z ∧ c.z ≤ 4294967295)))) && (decide (c.p.length ≤ 10) && (decide (1 ≤ (c.l.length : Int) ∧ (c.l.length : Int) ≤ 8) && c.l.all okLf))) := by
  rw [all_key]
  unfold goodCK headB Cm.key
  simp only [List.length_map]
 obtain ⟨b0, hb0⟩ : ∃ b, decide (0 ≤ c.r ∧ c.r ≤ 4294967295) = b := ⟨_, rfl⟩
 obtain ⟨b1, hb1⟩ : ∃ b, decide (0 ≤ c.x ∧ c.x ≤ 4294967295) = b := ⟨_, rfl⟩
 obtain ⟨b2, hb2⟩ : ∃ b, decide (1 ≤ c.e ∧ c.e ≤ 4294967295) = b := ⟨_, rfl⟩
 obtain ⟨b3, hb3⟩ : ∃ b, decide (1 ≤ c.z ∧ c.z ≤ 4294967295) = b := ⟨_, rfl⟩
 obtain ⟨b6, hb6⟩ : ∃ b, c.l.all okLf = b := ⟨_, rfl⟩
 rw [hb0] at k0
 rw [hb1] at k1
 rw [hb2] at k2
 rw [hb3] at k3
 rw [hb6] at kL
 rw [hb0, hb1, hb2, hb3, hb6] at hok
 have x0 := cA0 c
 have x1 := cA1 c
 have x2 := cA2 c
 have x4 := cA35 hc.tok
 have x5 := cA36 hc.tok
 have x6 := cA37 hc.tok
 unfold Cm.lv at kL
 obtain ⟨np, hnp⟩ : ∃ n, c.p.length = n := ⟨_, rfl⟩
 obtain ⟨nl, hnl⟩ : ∃ n, c.l.length = n := ⟨_, rfl⟩
 obtain ⟨lq, hlq⟩ : ∃ n, c.lq = n := ⟨_, rfl⟩
 obtain ⟨lc, hlc⟩ : ∃ n, c.lc = n := ⟨_, rfl⟩
 obtain ⟨pq, hpq⟩ : ∃ n, c.pq = n := ⟨_, rfl⟩
 obtain ⟨pc, hpc⟩ : ∃ n, c.pc = n := ⟨_, rfl⟩
 rw [hnp] at hp hok
 rw [hnl] at hlE hok
 rw [hnp, hpq, hpc] at x4
 rw [hnl, hlq, hlc] at x5
 rw [hnl, hlq, hlc] at kL
 have k5 := Lib.hid fun wx => within_at (nl : Int) 1 8 wx
 obtain ⟨b5, hb5⟩ : ∃ b, decide (1 ≤ (nl : Int) ∧ (nl : Int) ≤ 8) = b := ⟨_, rfl⟩
 rw [hb5] at k5 hok
 replace kL := Lib.hid kL
 rw [hok]
 obtain ⟨cs, hcs⟩ : ∃ x, c.cs.toArray = x := ⟨_, rfl⟩
 rw [hcs] at x0 x1 x2 x4 x5 x6 ⊢
 have X := Lib.hid (show _ ∧ _ ∧ _ ∧ _ ∧ _ ∧ _ from ⟨x0, x1, x2, x4, x5, x6⟩)
 obtain ⟨cr, hcr⟩ : ∃ x, c.r = x := ⟨_, rfl⟩
 obtain ⟨cx, hcx⟩ : ∃ x, c.x = x := ⟨_, rfl⟩
 obtain ⟨ce, hce⟩ : ∃ x, c.e = x := ⟨_, rfl⟩
 obtain ⟨cz, hcz⟩ : ∃ x, c.z = x := ⟨_, rfl⟩
 rw [hcr] at k0 X
 rw [hcx] at k1 X
 rw [hce] at k2 X
 rw [hcz] at k3 X
 have hcase : ((np : Int) ≤ 10 ∧ decide (np ≤ 10) = true) ∨ (10 < (np : Int) ∧ decide (np ≤ 10) = false) := by
  by_cases h : np ≤ 10
  ·exact .inl ⟨by omega, decide_eq_true h⟩
  ·exact .inr ⟨by omega, decide_eq_false h⟩
 have hni : (np : Int) ≤ 1000 := by omega
 have hli : (nl : Int) ≤ 1000 := by omega
 clear hok hb0 hb1 hb2 hb3 hb5 hb6 x0 x1 x2 x4 x5 x6 hnp hnl hlq hlc hpq hpc hcs hcr hcx hce hcz hc hlP hp hlE
 go_enter Try.func211, Try.ntmps211
 go_upto_region 1 with (fail)
 refine wp_abs (Mem w [(w.heap.size, 114, cs)]) ⟨by go_grown, by (repeat (first | (refine Row.new_at ?_; simp; done) | refine Row.alloc ?_ _)), trivial⟩ ?_
 intro w0 hM
 obtain ⟨hl, r1, -⟩ := hM
 have HL := Lib.hid (show _ ∧ _ from ⟨hl, r1⟩)
 have d0 := (r1.cell 0).trans X.out.1
 clear hl r1
 go_wp2_with fail
 refine (k0.out _).mono ?_
 rintro e w1 ⟨rfl, hb⟩
 have H1 := Lib.hid (show _ ∧ _ from ⟨HL.out.1.trans (hb.mono HL.out.1.size), HL.out.2.below hb HL.out.2.lt⟩)
 clear k0 hb HL d0
 cases b0
 ·clear k1 k2 k3 k5 kL hcase
  go_wp2_with fail
  go_ret
  exact ⟨rfl, H1.out.1⟩
 have d1 := (H1.out.2.cell 1).trans X.out.2.1
 go_wp2_with fail
 refine (k1.out _).mono ?_
 rintro e w2 ⟨rfl, hb⟩
 have H2 := Lib.hid (show _ ∧ _ from ⟨H1.out.1.trans (hb.mono H1.out.1.size), H1.out.2.below hb H1.out.2.lt⟩)
 clear k1 hb H1 d1
 cases b1
 ·clear k2 k3 k5 kL hcase
  go_wp2_with fail
  go_ret
  exact ⟨rfl, H2.out.1⟩
 have d2 := (H2.out.2.cell 2).trans X.out.2.2.1
 go_wp2_with fail
 refine (k2.out _).mono ?_
 rintro e w3 ⟨rfl, hb⟩
 have H3 := Lib.hid (show _ ∧ _ from ⟨H2.out.1.trans (hb.mono H2.out.1.size), H2.out.2.below hb H2.out.2.lt⟩)
 clear k2 hb H2 d2
 cases b2
 ·clear k3 k5 kL hcase
  go_wp2_with fail
  go_ret
  exact ⟨rfl, H3.out.1⟩
 have d6 := (H3.out.2.cell 37).trans X.out.2.2.2.2.2
 go_wp2_with fail
 refine (k3.out _).mono ?_
 rintro e w4 ⟨rfl, hb⟩
 have H4 := Lib.hid (show _ ∧ _ from ⟨H3.out.1.trans (hb.mono H3.out.1.size), H3.out.2.below hb H3.out.2.lt⟩)
 clear k3 hb H3 d6
 cases b3
 ·clear k5 kL hcase
  go_wp2_with fail
  go_ret
  exact ⟨rfl, H4.out.1⟩
 have d4 := (H4.out.2.cell 35).trans X.out.2.2.2.1
 rcases hcase with ⟨h10, hd⟩ | ⟨h10, hd⟩
 case inr =>
  have HD := Lib.hid hd
  clear hd k5 kL
  go_wp2_with fail
  go_ret
  exact ⟨by rw [HD.out]; rfl, H4.out.1⟩
 have HD := Lib.hid hd
 clear hd
 have d5 := (H4.out.2.cell 36).trans X.out.2.2.2.2.1
 go_wp2_with fail
 refine (k5.out _).mono ?_
 rintro e w5 ⟨rfl, hb⟩
 have H5 := Lib.hid (show _ ∧ _ from ⟨H4.out.1.trans (hb.mono H4.out.1.size), H4.out.2.below hb H4.out.2.lt⟩)
 clear k5 hb H4 d4 d5
 cases b5
 ·clear kL
  go_wp2_with fail
  go_ret
  exact ⟨by rw [HD.out]; rfl, H5.out.1⟩
 have d5 := (H5.out.2.cell 36).trans X.out.2.2.2.2.1
 go_wp2_with fail
 refine (kL.out _ H5.out.1).mono ?_
 rintro e w6 ⟨rfl, hb⟩
 have H6 := Lib.hid (H5.out.1.trans (hb.mono H5.out.1.size))
 clear kL hb H5 d5
 go_wp2_with fail
 go_ret
 exact ⟨by rw [HD.out]; cases b6 <;> rfl, H6.out⟩
end Go.Proofs.Ytpdenhmkpiafiaa
