/-
 What the statement rests on, part 9: TxGood3 TxPar TxLoopR TxRef1 OctHash TxPut RefCmp Ref126.
-/
import Derived.Deep.CutBlock
import Derived.Deep.DeepCutAuto
import Derived.Test.YtpdenhmkpiafiaaQTR1
import Derived.Test.YtpdenhmkpiafiaaQTR2
import Derived.Test.YtpdenhmkpiafiaaQTR5
import Derived.Test.YtpdenhmkpiafiaaQTR6
import Derived.Test.YtpdenhmkpiafiaaQTR7
namespace Go.Proofs.Ytpdenhmkpiafiaa
open Go Go.RowKit K6
structure LightT (t : Txv) : Prop where
 n : t.n.length ≤ 50
 a : t.a.length ≤ 50
 h : t.h.length ≤ 50
 p : t.c.p.length ≤ 50
 l : t.c.l.length ≤ 50
 q : ∀ x ∈ t.c.l, x.p.length ≤ 50
def numJ (sn : Int) (l : List Int) (i : Nat) : Prop := (0 ≤ l.getD i 0 ∧ l.getD i 0 ≤ 1099511627776) ∧ (sn < (i : Int) → l.getD (i - 1) 0 < l.getD i 0)
theorem nums_no {sn : Int} {l : List Int} {i : Nat} (hi : i < l.length) (h : ¬ numJ sn l i) : numsB sn l = false := decide_eq_false fun hk => h (hk i hi)
theorem nums_yes {sn : Int} {l : List Int} (h : ∀ i, i < l.length → numJ sn l i) : numsB sn l = true := decide_eq_true h
theorem get_D {l : List Int} {i : Nat} {x : Int} (h : l[i]? = some x) : l.getD i 0 = x := by rw [List.getD_eq_getElem?_getD, h]; rfl
set_option maxRecDepth 100000 in
set_option maxHeartbeats 64000000 in
theorem good_at (t : Txv) (w : World) (ht : TxOk w t) (hl : LightT t) :
  Calls Try.prog 136 #[.agg t.cs.toArray] w fun r w' => r = .returned (.bool (goodK t.key)) ∧ Below w.heap.size w w' := by
 have hsn := shp_n t.k
 have kO := fun wx => txof_any t.k wx
 have kf := Lib.hid fun wx => within_at t.f 1 4294967295 wx
 have kc := fun wx => counts_at (shpOf t.k) t wx hsn (by have := hl.n; omega) (by have := hl.a; omega) (by have := hl.h; omega)
 have kA := fun wx (hb : Below w.heap.size w wx) => goodA_cont t.av t.a wx (ht.a.below hb) ht.ab (by have := hl.a; omega)
 have kG := fun wx (hb : Below w.heap.size w wx) => goodClaim_at t.c wx (ht.c.below hb) (by have := hl.p; omega) (by have := hl.l; omega) (fun e he => by have := hl.q e he; omega)
 have kS := fun wx (hb : Below w.heap.size w wx) => sameClaim_at t.c cm0 wx (ht.c.below hb) (cm0_ok wx) (by have := hl.p; omega) (by have := hl.l; omega) (fun e he => by have := hl.q e he; omega)
 have hok : goodK t.key = (okK t.k && (decide (1 ≤ t.f ∧ t.f ≤ 4294967295) && (cntB (shpOf t.k) t.n.length t.a.length t.h.length && (numsB (shpOf t.k).n t.n && (t.a.all okA && (if (shpOf t.k).c = true then goodCK t.c.key else decide (t.c.key = cm0.key))))))) := rfl
 obtain ⟨S, hS⟩ : ∃ S, shpOf t.k = S := ⟨_, rfl⟩
 unfold OfP at kO
 rw [hS] at kO kc hok hsn
 obtain ⟨sn, st, sa, se, sh, sc⟩ := S
 simp only [Shp.cs] at kO kc hok hsn
 obtain ⟨b0, hb0⟩ : ∃ b, okK t.k = b := ⟨_, rfl⟩
 obtain ⟨b1, hb1⟩ : ∃ b, decide (1 ≤ t.f ∧ t.f ≤ 4294967295) = b := ⟨_, rfl⟩
 obtain ⟨b2, hb2⟩ : ∃ b, cntB ⟨sn, st, sa, se, sh, sc⟩ t.n.length t.a.length t.h.length = b := ⟨_, rfl⟩
 obtain ⟨b3, hb3⟩ : ∃ b, numsB sn t.n = b := ⟨_, rfl⟩
 obtain ⟨b4, hb4⟩ : ∃ b, t.a.all okA = b := ⟨_, rfl⟩
 obtain ⟨b5, hb5⟩ : ∃ b, goodCK t.c.key = b := ⟨_, rfl⟩
 obtain ⟨b6, hb6⟩ : ∃ b, decide (t.c.key = cm0.key) = b := ⟨_, rfl⟩
 rw [hb0] at kO
 rw [hb1] at kf
 rw [hb2] at kc
 rw [hb4] at kA
 rw [hb5] at kG
 rw [hb6] at kS
 rw [hb0, hb1, hb2, hb3, hb4, hb5, hb6] at hok
 obtain ⟨bx, hbx⟩ : ∃ b, (if sc = true then b5 else b6) = b := ⟨_, rfl⟩
 rw [hbx] at hok
 replace hbx := Lib.hid hbx
 rw [hok]
 have x0 := tA0 t
 have x1 := tA1 t
 have x2 := tA2 t
 have x3 := tA3 t
 have hsz : t.cs.toArray.size = 43 := by rw [List.size_toArray]; exact Txv.len ht.c.tok
 have hcsz : t.c.cs.toArray.size = 38 := by rw [List.size_toArray]; exact Cm.len ht.c.tok
 have hmid := Txv.c_ t
 have HN := ht.n
 unfold Txv.nv at HN
 unfold Txv.av at kA
 obtain ⟨m, hm⟩ : ∃ m, t.n.length = m := ⟨_, rfl⟩
 obtain ⟨nA, hnA⟩ : ∃ m, t.a.length = m := ⟨_, rfl⟩
 obtain ⟨nq, hnq⟩ : ∃ q, t.nq = q := ⟨_, rfl⟩
 obtain ⟨nc, hnc⟩ : ∃ q, t.nc = q := ⟨_, rfl⟩
 obtain ⟨aq, haq⟩ : ∃ q, t.aq = q := ⟨_, rfl⟩
 obtain ⟨ac, hac⟩ : ∃ q, t.ac = q := ⟨_, rfl⟩
 have hm50 : m ≤ 50 := by have := hl.n; omega
 rw [hm, hnq, hnc] at x2 HN
 rw [hnA, haq, hac] at x3 kA
 obtain ⟨ct, hct⟩ : ∃ c, t.cs.toArray = c := ⟨_, rfl⟩
 obtain ⟨cc5, hcc⟩ : ∃ c, t.c.cs.toArray = c := ⟨_, rfl⟩
 rw [hct] at x0 x1 x2 x3 hsz hmid kc ⊢
 rw [hcc] at hcsz hmid kG kS
 obtain ⟨tk, htk⟩ : ∃ k, t.k = k := ⟨_, rfl⟩
 obtain ⟨tf, htf⟩ : ∃ k, t.f = k := ⟨_, rfl⟩
 rw [htk] at x0 kO
 rw [htf] at x1 kf
 obtain ⟨ln, hln⟩ : ∃ l, t.n = l := ⟨_, rfl⟩
 rw [hln] at HN hm hb3
 replace HN := Lib.hid (show _ ∧ _ ∧ _ ∧ _ from ⟨HN, hm, hb3, hsn⟩)
 replace kO := Lib.hid kO
 replace kc := Lib.hid kc
 replace kA := Lib.hid kA
 replace kG := Lib.hid kG
 replace kS := Lib.hid kS
 have hmi : (m : Int) ≤ 50 := by omega
 clear hS hok hb0 hb1 hb2 hb3 hb4 hb5 hb6 hm hnA hnq hnc haq hac hct hcc htk htf hln ht hl hm50 hsn
 go_enter Try.func136, Try.ntmps136
 go_upto_region 1 with (fail)
 refine wp_abs (Mem w [(w.heap.size, 116, ct)]) ⟨by go_grown, by (repeat (first | (refine Row.new_at ?_; simp; done) | refine Row.alloc ?_ _)), trivial⟩ ?_
 intro w0 hM
 obtain ⟨hl, r1, -⟩ := hM
 let L : List Sp := [sV 2 [] [] (fun u => u = .tuple #[.agg #[.int .i64 sn, .bool st, .int .i64 sa, .bool se, .int .i64 sh, .bool sc], .bool b0]), sA 6 107 [7] #[.int .i64 0, .bool false, .int .i64 0, .bool false, .int .i64 0, .bool false], sT 7 6 107 [4] (fun g => aggOf g 4)]
 refine wp_region_six0 (shs L) (look6 L) (None_) (by kernel_rfl) (by kernel_rfl) (mk_St L [] [] (by kernel_rfl) (by kernel_rfl) ⟨ok_V ⟨_, rfl⟩, ok_A, ok_T aggOf_congr, trivial⟩ (by simp)) ?_
 intro QQ hQ
 refine stepK rfl (by kernel_rfl) (fun K hK => ?_); go_simp
 apply Exists.intro; apply And.intro; (focus (intro wk hk; go_simp; exact ⟨rfl, rfl⟩)); refine hK _ _ ?_; clear hK K
 refine stepK rfl (by kernel_rfl) (fun K hK => ?_); go_simp
 apply Exists.intro; apply And.intro; (focus (intro wk hk; have cc : wk.cell? ⟨w.heap.size, 0, none⟩ = some (.int .i64 tk) := ((K6.Row.tr r1 hk id).cell 0).trans x0; go_simp; exact ⟨rfl, rfl⟩)); refine hK _ _ ?_; clear hK K
 refine stepS _ rfl (by kernel_rfl) (fun K hK => ?_); go_simp
 refine ⟨?_, ?_⟩
 ·intro wk hk hg hu; go_simp; refine upon_enter ((kO.out _).mono ?_); rintro e w' ⟨rfl, hb⟩; exact ⟨_, rfl, left_V (p := fun u => u = .tuple #[.agg #[.int .i64 sn, .bool st, .int .i64 sa, .bool se, .int .i64 sh, .bool sc], .bool b0]) rfl (hb) rfl⟩
 rintro ⟨v2, lo2, hi2⟩ - - (rfl : v2 = _)
 refine hK _ _ ?_; clear hK K
 iterate 3 (refine stepK rfl (by kernel_rfl) (fun K hK => ?_); go_simp; apply Exists.intro; apply And.intro; (focus (intro wk hk; go_simp; exact ⟨rfl, rfl⟩)); refine hK _ _ ?_; clear hK K)
 refine stepS _ rfl (by kernel_rfl) (fun K hK => ?_); go_simp
 refine ⟨?_, ?_⟩
 ·intro wk hk hg hu; go_simp; exact left_A rfl rfl
 rintro ⟨v6, lo6, hi6⟩ hlo6 hhi6 ⟨e6, f6⟩
 replace e6 : v6 = .pointer (some ⟨lo6, 0, none⟩) := e6; replace f6 : hi6 = lo6 + 1 := f6; replace hlo6 : _ ≤ lo6 := hlo6; subst e6; subst f6
 refine hK _ _ ?_; clear hK K
 refine stepS _ rfl (by kernel_rfl) (fun K hK => ?_); go_simp
 refine ⟨?_, ?_⟩
 ·exact sStoreT rfl rfl rfl rfl rfl rfl rfl (by kernel_rfl) rfl (by kernel_rfl) (by decide) aggOf_congr
 rintro ⟨v7, lo7, hi7⟩ - - (rfl : v7 = undef)
 refine hK _ _ ?_; clear hK K
 refine stepK rfl (by kernel_rfl) (fun K hK => ?_); go_simp
 apply Exists.intro; apply And.intro; (focus (intro wk hk; go_simp; exact ⟨rfl, rfl⟩)); refine hK _ _ ?_; clear hK K
 refine stepN ?_
 refine hQ _ _ ?_
 intro w1 hT hG hF
 have hb1 := hT.below
 have r3 : Row w1 lo6 107 (#[.int .i64 sn, .bool st, .int .i64 sa, .bool se, .int .i64 sh, .bool sc]) := (hF 7 _ rfl rfl (by decide)).2
 have hlt6 := r3.lt
 have hl := hl.trans (hb1.mono hl.size)
 have r1 := r1.below hb1 r1.lt
 clear hT hG hF hQ QQ L hb1 kO
 go_upto_region 2 with (fail)
 cases b0
 ·clear kf kc kA kG kS HN
  let L : List Sp := []
  refine wp_region_six0 (shs L) (look6 L) (None_) (by kernel_rfl) (by kernel_rfl) (mk_St L [] [] (by kernel_rfl) (by kernel_rfl) trivial (by simp)) ?_
  intro QQ hQ
  iterate 3 (refine stepK rfl (by kernel_rfl) (fun K hK => ?_); go_simp; apply Exists.intro; apply And.intro; (focus (intro wk hk; go_simp; exact ⟨rfl, rfl⟩)); refine hK _ _ ?_; clear hK K)
  iterate 4 (refine stepK rfl (by kernel_rfl) (fun K hK => ?_); go_simp; (first | (refine hK _ _ ?_; clear hK K) | (apply Exists.intro; apply And.intro; (focus (intro wk hk; go_simp; exact ⟨rfl, rfl⟩)); refine hK _ _ ?_; clear hK K)))
  iterate 2 (refine stepK rfl (by kernel_rfl) (fun K hK => ?_); go_simp; apply Exists.intro; apply And.intro; (focus (intro wk hk; go_simp; exact ⟨rfl, rfl⟩)); refine hK _ _ ?_; clear hK K)
  iterate 4 (refine stepK rfl (by kernel_rfl) (fun K hK => ?_); go_simp; (first | (refine hK _ _ ?_; clear hK K) | (apply Exists.intro; apply And.intro; (focus (intro wk hk; go_simp; exact ⟨rfl, rfl⟩)); refine hK _ _ ?_; clear hK K)))
  refine stepK rfl (by kernel_rfl) (fun K hK => ?_); go_simp
  apply Exists.intro; apply And.intro; (focus (intro wk hk; go_simp; exact ⟨rfl, rfl⟩)); refine hK _ _ ?_; clear hK K
  refine stepN ?_
  refine hQ _ _ ?_
  intro w2 hT hG hF
  have hb2 := hT.below
  have H9 := Lib.hid (hl.trans (hb2.mono hl.size))
  clear hT hG hF hQ QQ L hl r1 r3 hb2
  go_wp2_with fail
  go_ret
  exact ⟨rfl, H9.out⟩
 cases b1
 ·clear kc kA kG kS HN
  let L : List Sp := [sV 5 [] [] (fun u => u = .bool false)]
  refine wp_region_six0 (shs L) (look6 L) (None_) (by kernel_rfl) (by kernel_rfl) (mk_St L [] [] (by kernel_rfl) (by kernel_rfl) ⟨ok_V ⟨_, rfl⟩, trivial⟩ (by simp)) ?_
  intro QQ hQ
  iterate 3 (refine stepK rfl (by kernel_rfl) (fun K hK => ?_); go_simp; apply Exists.intro; apply And.intro; (focus (intro wk hk; go_simp; exact ⟨rfl, rfl⟩)); refine hK _ _ ?_; clear hK K)
  refine stepK rfl (by kernel_rfl) (fun K hK => ?_); go_simp
  first | (refine hK _ _ ?_; clear hK K) | (apply Exists.intro; apply And.intro; (focus (intro wk hk; go_simp; exact ⟨rfl, rfl⟩)); refine hK _ _ ?_; clear hK K)
  refine stepK rfl (by kernel_rfl) (fun K hK => ?_); go_simp
  first | (refine hK _ _ ?_; clear hK K) | (apply Exists.intro; apply And.intro; (focus (intro wk hk; have cc : wk.cell? ⟨w.heap.size, 1, none⟩ = some (.int .i64 tf) := ((K6.Row.tr r1 hk id).cell 1).trans x1; go_simp; exact ⟨rfl, rfl⟩)); refine hK _ _ ?_; clear hK K)
  refine stepS _ rfl (by kernel_rfl) (fun K hK => ?_); go_simp
  refine ⟨?_, ?_⟩
  ·intro wk hk hg hu; go_simp; refine upon_enter ((kf.out _).mono ?_); rintro e w' ⟨rfl, hb⟩; exact ⟨_, rfl, left_V (p := fun u => u = .bool false) rfl (hb) rfl⟩
  rintro ⟨v5, lo5, hi5⟩ - - (rfl : v5 = _)
  refine hK _ _ ?_; clear hK K
  refine stepK rfl (by kernel_rfl) (fun K hK => ?_); go_simp
  first | (refine hK _ _ ?_; clear hK K) | (apply Exists.intro; apply And.intro; (focus (intro wk hk; go_simp; exact ⟨rfl, rfl⟩)); refine hK _ _ ?_; clear hK K)
  iterate 2 (refine stepK rfl (by kernel_rfl) (fun K hK => ?_); go_simp; apply Exists.intro; apply And.intro; (focus (intro wk hk; go_simp; exact ⟨rfl, rfl⟩)); refine hK _ _ ?_; clear hK K)
  iterate 4 (refine stepK rfl (by kernel_rfl) (fun K hK => ?_); go_simp; (first | (refine hK _ _ ?_; clear hK K) | (apply Exists.intro; apply And.intro; (focus (intro wk hk; go_simp; exact ⟨rfl, rfl⟩)); refine hK _ _ ?_; clear hK K)))
  refine stepK rfl (by kernel_rfl) (fun K hK => ?_); go_simp
  apply Exists.intro; apply And.intro; (focus (intro wk hk; go_simp; exact ⟨rfl, rfl⟩)); refine hK _ _ ?_; clear hK K
  refine stepN ?_
  refine hQ _ _ ?_
  intro w2 hT hG hF
  have hb2 := hT.below
  have H9 := Lib.hid (hl.trans (hb2.mono hl.size))
  clear hT hG hF hQ QQ L hl r1 r3 hb2
  go_wp2_with fail
  go_ret
  exact ⟨rfl, H9.out⟩
 cases b2
 ·clear kA kG kS HN
  let L : List Sp := [sV 5 [] [] (fun u => u = .bool true), sV 11 [] [] (fun u => u = .bool false)]
  refine wp_region_six0 (shs L) (look6 L) (None_) (by kernel_rfl) (by kernel_rfl) (mk_St L [] [] (by kernel_rfl) (by kernel_rfl) ⟨ok_V ⟨_, rfl⟩, ok_V ⟨_, rfl⟩, trivial⟩ (by simp)) ?_
  intro QQ hQ
  iterate 3 (refine stepK rfl (by kernel_rfl) (fun K hK => ?_); go_simp; apply Exists.intro; apply And.intro; (focus (intro wk hk; go_simp; exact ⟨rfl, rfl⟩)); refine hK _ _ ?_; clear hK K)
  refine stepK rfl (by kernel_rfl) (fun K hK => ?_); go_simp
  first | (refine hK _ _ ?_; clear hK K) | (apply Exists.intro; apply And.intro; (focus (intro wk hk; go_simp; exact ⟨rfl, rfl⟩)); refine hK _ _ ?_; clear hK K)
  refine stepK rfl (by kernel_rfl) (fun K hK => ?_); go_simp
  first | (refine hK _ _ ?_; clear hK K) | (apply Exists.intro; apply And.intro; (focus (intro wk hk; have cc : wk.cell? ⟨w.heap.size, 1, none⟩ = some (.int .i64 tf) := ((K6.Row.tr r1 hk id).cell 1).trans x1; go_simp; exact ⟨rfl, rfl⟩)); refine hK _ _ ?_; clear hK K)
  refine stepS _ rfl (by kernel_rfl) (fun K hK => ?_); go_simp
  refine ⟨?_, ?_⟩
  ·intro wk hk hg hu; go_simp; refine upon_enter ((kf.out _).mono ?_); rintro e w' ⟨rfl, hb⟩; exact ⟨_, rfl, left_V (p := fun u => u = .bool true) rfl (hb) rfl⟩
  rintro ⟨v5, lo5, hi5⟩ - - (rfl : v5 = _)
  refine hK _ _ ?_; clear hK K
  refine stepK rfl (by kernel_rfl) (fun K hK => ?_); go_simp
  first | (refine hK _ _ ?_; clear hK K) | (apply Exists.intro; apply And.intro; (focus (intro wk hk; go_simp; exact ⟨rfl, rfl⟩)); refine hK _ _ ?_; clear hK K)
  iterate 2 (refine stepK rfl (by kernel_rfl) (fun K hK => ?_); go_simp; apply Exists.intro; apply And.intro; (focus (intro wk hk; go_simp; exact ⟨rfl, rfl⟩)); refine hK _ _ ?_; clear hK K)
  refine stepK rfl (by kernel_rfl) (fun K hK => ?_); go_simp
  first | (refine hK _ _ ?_; clear hK K) | (apply Exists.intro; apply And.intro; (focus exact kLoad rfl rfl aggT107 r3 rfl id); refine hK _ _ ?_; clear hK K)
  refine stepK rfl (by kernel_rfl) (fun K hK => ?_); go_simp
  first | (refine hK _ _ ?_; clear hK K) | (apply Exists.intro; apply And.intro; (focus exact kLoad rfl rfl aggT116 r1 hsz id); refine hK _ _ ?_; clear hK K)
  refine stepS _ rfl (by kernel_rfl) (fun K hK => ?_); go_simp
  refine ⟨?_, ?_⟩
  ·intro wk hk hg hu; go_simp; refine upon_enter ((kc.out _).mono ?_); rintro e w' ⟨rfl, hb⟩; exact ⟨_, rfl, left_V (p := fun u => u = .bool false) rfl (hb) rfl⟩
  rintro ⟨v11, lo11, hi11⟩ - - (rfl : v11 = _)
  refine hK _ _ ?_; clear hK K
  refine stepK rfl (by kernel_rfl) (fun K hK => ?_); go_simp
  first | (refine hK _ _ ?_; clear hK K) | (apply Exists.intro; apply And.intro; (focus (intro wk hk; go_simp; exact ⟨rfl, rfl⟩)); refine hK _ _ ?_; clear hK K)
  refine stepK rfl (by kernel_rfl) (fun K hK => ?_); go_simp
  apply Exists.intro; apply And.intro; (focus (intro wk hk; go_simp; exact ⟨rfl, rfl⟩)); refine hK _ _ ?_; clear hK K
  refine stepN ?_
  refine hQ _ _ ?_
  intro w2 hT hG hF
  have hb2 := hT.below
  have H9 := Lib.hid (hl.trans (hb2.mono hl.size))
  clear hT hG hF hQ QQ L hl r1 r3 hb2
  go_wp2_with fail
  go_ret
  exact ⟨rfl, H9.out⟩
 let L : List Sp := [sV 5 [] [] (fun u => u = .bool true), sV 11 [] [] (fun u => u = .bool true)]
 refine wp_region_six0 (shs L) (look6 L) (None_) (by kernel_rfl) (by kernel_rfl) (mk_St L [] [] (by kernel_rfl) (by kernel_rfl) ⟨ok_V ⟨_, rfl⟩, ok_V ⟨_, rfl⟩, trivial⟩ (by simp)) ?_
 intro QQ hQ
 iterate 3 (refine stepK rfl (by kernel_rfl) (fun K hK => ?_); go_simp; apply Exists.intro; apply And.intro; (focus (intro wk hk; go_simp; exact ⟨rfl, rfl⟩)); refine hK _ _ ?_; clear hK K)
 refine stepK rfl (by kernel_rfl) (fun K hK => ?_); go_simp
 first | (refine hK _ _ ?_; clear hK K) | (apply Exists.intro; apply And.intro; (focus (intro wk hk; go_simp; exact ⟨rfl, rfl⟩)); refine hK _ _ ?_; clear hK K)
 refine stepK rfl (by kernel_rfl) (fun K hK => ?_); go_simp
 first | (refine hK _ _ ?_; clear hK K) | (apply Exists.intro; apply And.intro; (focus (intro wk hk; have cc : wk.cell? ⟨w.heap.size, 1, none⟩ = some (.int .i64 tf) := ((K6.Row.tr r1 hk id).cell 1).trans x1; go_simp; exact ⟨rfl, rfl⟩)); refine hK _ _ ?_; clear hK K)
 refine stepS _ rfl (by kernel_rfl) (fun K hK => ?_); go_simp
 refine ⟨?_, ?_⟩
 ·intro wk hk hg hu; go_simp; refine upon_enter ((kf.out _).mono ?_); rintro e w' ⟨rfl, hb⟩; exact ⟨_, rfl, left_V (p := fun u => u = .bool true) rfl (hb) rfl⟩
 rintro ⟨v5, lo5, hi5⟩ - - (rfl : v5 = _)
 refine hK _ _ ?_; clear hK K
 refine stepK rfl (by kernel_rfl) (fun K hK => ?_); go_simp
 first | (refine hK _ _ ?_; clear hK K) | (apply Exists.intro; apply And.intro; (focus (intro wk hk; go_simp; exact ⟨rfl, rfl⟩)); refine hK _ _ ?_; clear hK K)
 iterate 2 (refine stepK rfl (by kernel_rfl) (fun K hK => ?_); go_simp; apply Exists.intro; apply And.intro; (focus (intro wk hk; go_simp; exact ⟨rfl, rfl⟩)); refine hK _ _ ?_; clear hK K)
 refine stepK rfl (by kernel_rfl) (fun K hK => ?_); go_simp
 first | (refine hK _ _ ?_; clear hK K) | (apply Exists.intro; apply And.intro; (focus exact kLoad rfl rfl aggT107 r3 rfl id); refine hK _ _ ?_; clear hK K)
 refine stepK rfl (by kernel_rfl) (fun K hK => ?_); go_simp
 first | (refine hK _ _ ?_; clear hK K) | (apply Exists.intro; apply And.intro; (focus exact kLoad rfl rfl aggT116 r1 hsz id); refine hK _ _ ?_; clear hK K)
 refine stepS _ rfl (by kernel_rfl) (fun K hK => ?_); go_simp
 refine ⟨?_, ?_⟩
 ·intro wk hk hg hu; go_simp; refine upon_enter ((kc.out _).mono ?_); rintro e w' ⟨rfl, hb⟩; exact ⟨_, rfl, left_V (p := fun u => u = .bool true) rfl (hb) rfl⟩
 rintro ⟨v11, lo11, hi11⟩ - - (rfl : v11 = _)
 refine hK _ _ ?_; clear hK K
 refine stepK rfl (by kernel_rfl) (fun K hK => ?_); go_simp
 first | (refine hK _ _ ?_; clear hK K) | (apply Exists.intro; apply And.intro; (focus (intro wk hk; go_simp; exact ⟨rfl, rfl⟩)); refine hK _ _ ?_; clear hK K)
 refine stepK rfl (by kernel_rfl) (fun K hK => ?_); go_simp
 apply Exists.intro; apply And.intro; (focus (intro wk hk; go_simp; exact ⟨rfl, rfl⟩)); refine hK _ _ ?_; clear hK K
 refine stepN ?_
 refine hQ _ _ ?_
 intro w2 hT hG hF
 have hb2 := hT.below
 have HL := Lib.hid (show Below w.heap.size w w2 ∧ Row w2 w.heap.size 116 ct ∧ Row w2 lo6 107 (#[.int .i64 sn, .bool st, .int .i64 sa, .bool se, .int .i64 sh, .bool sc]) from ⟨hl.trans (hb2.mono hl.size), r1.below hb2 r1.lt, r3.below hb2 r3.lt⟩)
 have d2 := (HL.out.2.1.cell 2).trans x2
 clear hT hG hF hQ QQ L hl r1 r3 hb2 kf kc hlt6
 go_wp2_with fail
 go_loopg [5, 29] m (fun gg s5 s29 wr => ∃ i : Nat, i + gg = m ∧ s29 = .int .i64 (i : Int) ∧ Hid (∀ j, j < i → numJ sn ln j) ∧ Hid (Below w.heap.size w wr ∧ Row wr w.heap.size 116 ct ∧ Row wr lo6 107 (#[.int .i64 sn, .bool st, .int .i64 sa, .bool se, .int .i64 sh, .bool sc])))
 case atStart => exact ⟨0, by omega, rfl, Lib.hid (fun j h => absurd h (Nat.not_lt_zero j)), HL⟩
 case round =>
  clear HL d2
  obtain ⟨i, him, rfl, hall, hinv⟩ := hrel
  by_cases hi : i < m
  ·obtain ⟨x, hx⟩ : ∃ x, ln[i]? = some x := ⟨_, List.getElem?_eq_getElem (by have := HN.out.2.1; omega)⟩
   have hiln : i < ln.length := (List.getElem?_eq_some_iff.1 hx).1
   obtain ⟨gx, ox, cx', hu, hgx, hcx⟩ := (HN.out.1.below hinv.out.1).get hx
   simp only [Value.slice.injEq] at hu
   obtain ⟨rfl, -, -⟩ := hu
   have cx0 : wr.cell? ⟨gx, ox + i, none⟩ = some (.int .i64 x) := by have h := hcx 0 _ rfl; simpa using h
   have kx := Lib.hid fun wx => within_at x 0 1099511627776 wx
   have hl := hinv.out.1
   have r1 := hinv.out.2.1
   have r3 := hinv.out.2.2
   have hDx := Lib.hid (show ln.getD i 0 = x ∧ i < ln.length from ⟨get_D hx, hiln⟩)
   have hlt : (i : Int) < (m : Int) := by omega
   clear hcx hiln hinv
   go_upto_region 7 with (fail)
   by_cases hw : 0 ≤ x ∧ x ≤ 1099511627776
   case neg =>
    rw [decide_eq_false hw] at kx
    have hbf : b3 = false := by rw [← HN.out.2.2.1]; exact nums_no hDx.out.2 (fun h => hw (by have := h.1; rwa [hDx.out.1] at this))
    subst hbf
    clear hw hx HN hall hDx kA kG kS
    let L : List Sp := [sV 5 [] [] (fun u => u = .bool false)]
    refine wp_region_six (shs L) (look6 L) (None_) (by kernel_rfl) (by kernel_rfl) (mk_St L [] [] (by kernel_rfl) (by kernel_rfl) ⟨ok_V ⟨_, rfl⟩, trivial⟩ (by simp)) ?_
    intro QQ hQ
    refine stepK rfl (by kernel_rfl) (fun K hK => ?_); go_simp
    apply Exists.intro; apply And.intro; (focus (intro wk hk; go_simp; exact ⟨rfl, rfl⟩)); refine hK _ _ ?_; clear hK K
    refine stepK rfl (by kernel_rfl) (fun K hK => ?_); go_simp
    apply Exists.intro; apply And.intro; (focus (intro wk hk; have cc : wk.cell? ⟨w.heap.size, 2, none⟩ = some (.slice (some ⟨gx, ox, none⟩) m nc) := ((K6.Row.tr r1 hk.undrew id).cell 2).trans x2; go_simp; exact ⟨rfl, rfl⟩)); refine hK _ _ ?_; clear hK K
    iterate 2 (refine stepK rfl (by kernel_rfl) (fun K hK => ?_); go_simp; apply Exists.intro; apply And.intro; (focus (intro wk hk; go_simp; exact ⟨rfl, rfl⟩)); refine hK _ _ ?_; clear hK K)
    refine stepK rfl (by kernel_rfl) (fun K hK => ?_); go_simp
    apply Exists.intro; apply And.intro; (focus (intro wk hk; have cc : wk.cell? ⟨gx, ox + i, none⟩ = some (.int .i64 x) := (World.cell?_of_block (hk.undrew.below.block _ hgx)).trans cx0; go_simp; exact ⟨rfl, rfl⟩)); refine hK _ _ ?_; clear hK K
    refine stepS _ rfl (by kernel_rfl) (fun K hK => ?_); go_simp
    refine ⟨?_, ?_⟩
    ·intro wk hk hg hu; go_simp; refine upon_enter ((kx.out _).mono ?_); rintro e w' ⟨rfl, hb⟩; exact ⟨_, rfl, left_V (p := fun u => u = .bool false) rfl (hb) rfl⟩
    rintro ⟨v5, lo5, hi5⟩ - - (rfl : v5 = _)
    refine hK _ _ ?_; clear hK K
    iterate 2 (refine stepK rfl (by kernel_rfl) (fun K hK => ?_); go_simp; apply Exists.intro; apply And.intro; (focus (intro wk hk; go_simp; exact ⟨rfl, rfl⟩)); refine hK _ _ ?_; clear hK K)
    iterate 18 (refine stepK rfl (by kernel_rfl) (fun K hK => ?_); go_simp; (first | (refine hK _ _ ?_; clear hK K) | (apply Exists.intro; apply And.intro; (focus (intro wk hk; go_simp; exact ⟨rfl, rfl⟩)); refine hK _ _ ?_; clear hK K)))
    refine stepK rfl (by kernel_rfl) (fun K hK => ?_); go_simp
    apply Exists.intro; apply And.intro; (focus (intro wk hk; go_simp; exact ⟨rfl, rfl⟩)); refine hK _ _ ?_; clear hK K
    refine stepN ?_
    refine hQ _ _ ?_
    intro w4 hT hG hF
    have hb4 := hT.undrew.below
    have H4 := Lib.hid (show Below w.heap.size w w4 ∧ Row w4 w.heap.size 116 ct ∧ Row w4 lo6 107 (#[.int .i64 sn, .bool st, .int .i64 sa, .bool se, .int .i64 sh, .bool sc]) from ⟨hl.trans (hb4.mono hl.size), r1.below hb4 r1.lt, r3.below hb4 r3.lt⟩)
    clear hT hG hF hQ QQ L hl r1 r3 hb4 kx cx0
    go_wp2_with fail
    go_ret
    exact ⟨rfl, H4.out.1⟩
   rw [decide_eq_true hw] at kx
   by_cases hg : sn < (i : Int)
   case neg =>
    have hnext := Lib.hid (show ∀ j, j < i + 1 → numJ sn ln j from fun j hj => by
     rcases Nat.lt_or_ge j i with h | h
     ·exact hall.out j h
     ·obtain rfl : j = i := by omega
      exact ⟨by rw [hDx.out.1]; exact hw, fun h2 => absurd h2 hg⟩)
    clear hw hx hall hDx
    let L : List Sp := [sV 5 [] [] (fun u => u = .bool true)]
    refine wp_region_six (shs L) (look6 L) (None_) (by kernel_rfl) (by kernel_rfl) (mk_St L [] [] (by kernel_rfl) (by kernel_rfl) ⟨ok_V ⟨_, rfl⟩, trivial⟩ (by simp)) ?_
    intro QQ hQ
    refine stepK rfl (by kernel_rfl) (fun K hK => ?_); go_simp
    apply Exists.intro; apply And.intro; (focus (intro wk hk; go_simp; exact ⟨rfl, rfl⟩)); refine hK _ _ ?_; clear hK K
    refine stepK rfl (by kernel_rfl) (fun K hK => ?_); go_simp
    apply Exists.intro; apply And.intro; (focus (intro wk hk; have cc : wk.cell? ⟨w.heap.size, 2, none⟩ = some (.slice (some ⟨gx, ox, none⟩) m nc) := ((K6.Row.tr r1 hk.undrew id).cell 2).trans x2; go_simp; exact ⟨rfl, rfl⟩)); refine hK _ _ ?_; clear hK K
    iterate 2 (refine stepK rfl (by kernel_rfl) (fun K hK => ?_); go_simp; apply Exists.intro; apply And.intro; (focus (intro wk hk; go_simp; exact ⟨rfl, rfl⟩)); refine hK _ _ ?_; clear hK K)
    refine stepK rfl (by kernel_rfl) (fun K hK => ?_); go_simp
    apply Exists.intro; apply And.intro; (focus (intro wk hk; have cc : wk.cell? ⟨gx, ox + i, none⟩ = some (.int .i64 x) := (World.cell?_of_block (hk.undrew.below.block _ hgx)).trans cx0; go_simp; exact ⟨rfl, rfl⟩)); refine hK _ _ ?_; clear hK K
    refine stepS _ rfl (by kernel_rfl) (fun K hK => ?_); go_simp
    refine ⟨?_, ?_⟩
    ·intro wk hk hg hu; go_simp; refine upon_enter ((kx.out _).mono ?_); rintro e w' ⟨rfl, hb⟩; exact ⟨_, rfl, left_V (p := fun u => u = .bool true) rfl (hb) rfl⟩
    rintro ⟨v5, lo5, hi5⟩ - - (rfl : v5 = _)
    refine hK _ _ ?_; clear hK K
    iterate 2 (refine stepK rfl (by kernel_rfl) (fun K hK => ?_); go_simp; apply Exists.intro; apply And.intro; (focus (intro wk hk; go_simp; exact ⟨rfl, rfl⟩)); refine hK _ _ ?_; clear hK K)
    iterate 2 (refine stepK rfl (by kernel_rfl) (fun K hK => ?_); go_simp; (first | (refine hK _ _ ?_; clear hK K) | (apply Exists.intro; apply And.intro; (focus (intro wk hk; go_simp; exact ⟨rfl, rfl⟩)); refine hK _ _ ?_; clear hK K)))
    refine stepK rfl (by kernel_rfl) (fun K hK => ?_); go_simp
    first | (refine hK _ _ ?_; clear hK K) | (apply Exists.intro; apply And.intro; (focus (intro wk hk; have cc : wk.cell? ⟨lo6, 0, none⟩ = some (.int .i64 sn) := (K6.Row.tr r3 hk.undrew id).cell 0; go_simp; exact ⟨rfl, rfl⟩)); refine hK _ _ ?_; clear hK K)
    iterate 15 (refine stepK rfl (by kernel_rfl) (fun K hK => ?_); go_simp; (first | (refine hK _ _ ?_; clear hK K) | (apply Exists.intro; apply And.intro; (focus (intro wk hk; go_simp; exact ⟨rfl, rfl⟩)); refine hK _ _ ?_; clear hK K)))
    refine stepK rfl (by kernel_rfl) (fun K hK => ?_); go_simp
    apply Exists.intro; apply And.intro; (focus (intro wk hk; go_simp; exact ⟨rfl, rfl⟩)); refine hK _ _ ?_; clear hK K
    refine stepN ?_
    refine hQ _ _ ?_
    intro w4 hT hG hF
    have hb4 := hT.undrew.below
    have H4 := Lib.hid (show Below w.heap.size w w4 ∧ Row w4 w.heap.size 116 ct ∧ Row w4 lo6 107 (#[.int .i64 sn, .bool st, .int .i64 sa, .bool se, .int .i64 sh, .bool sc]) from ⟨hl.trans (hb4.mono hl.size), r1.below hb4 r1.lt, r3.below hb4 r3.lt⟩)
    clear hT hG hF hQ QQ L hl r1 r3 hb4 kx cx0
    go_wp2_with fail
    go_roundg (gk - 1)
    case measure => omega
    case rel => exact ⟨i + 1, by omega, by go_num, hnext, H4⟩
   obtain ⟨k, hk⟩ : ∃ k, i = k + 1 := ⟨i - 1, by have := HN.out.2.2.2; omega⟩
   obtain ⟨y, hy⟩ : ∃ y, ln[k]? = some y := ⟨_, List.getElem?_eq_getElem (by have := HN.out.2.1; omega)⟩
   obtain ⟨gy, oy, cy', hu, hgy, hcy⟩ := (HN.out.1.below hl).get hy
   simp only [Value.slice.injEq, Option.some.injEq, Addr.mk.injEq] at hu
   obtain ⟨⟨rfl, rfl, -⟩, -, -⟩ := hu
   have cy0 : wr.cell? ⟨gx, ox + k, none⟩ = some (.int .i64 y) := by have h := hcy 0 _ rfl; simpa using h
   have wJ : IntKind.i64.wrap ((i : Int) - 1) = (k : Int) := by rw [IntKind.wrap_i64]; omega
   have hkm : (k : Int) < (m : Int) := by omega
   have hDy := Lib.hid (show ln.getD (i - 1) 0 = y by rw [hk]; exact get_D hy)
   clear hcy hy hgy
   by_cases hxy : x ≤ y
   ·have hbf : b3 = false := by rw [← HN.out.2.2.1]; exact nums_no hDx.out.2 (fun h => by have := h.2 hg; rw [hDx.out.1, hDy.out] at this; omega)
    subst hbf
    clear hw hx hall HN hDx hDy kA kG kS hk
    let L : List Sp := [sV 5 [] [] (fun u => u = .bool true)]
    refine wp_region_six (shs L) (look6 L) (None_) (by kernel_rfl) (by kernel_rfl) (mk_St L [] [] (by kernel_rfl) (by kernel_rfl) ⟨ok_V ⟨_, rfl⟩, trivial⟩ (by simp)) ?_
    intro QQ hQ
    refine stepK rfl (by kernel_rfl) (fun K hK => ?_); go_simp
    apply Exists.intro; apply And.intro; (focus (intro wk hk; go_simp; exact ⟨rfl, rfl⟩)); refine hK _ _ ?_; clear hK K
    refine stepK rfl (by kernel_rfl) (fun K hK => ?_); go_simp
    apply Exists.intro; apply And.intro; (focus (intro wk hk; have cc : wk.cell? ⟨w.heap.size, 2, none⟩ = some (.slice (some ⟨gx, ox, none⟩) m nc) := ((K6.Row.tr r1 hk.undrew id).cell 2).trans x2; go_simp; exact ⟨rfl, rfl⟩)); refine hK _ _ ?_; clear hK K
    iterate 2 (refine stepK rfl (by kernel_rfl) (fun K hK => ?_); go_simp; apply Exists.intro; apply And.intro; (focus (intro wk hk; go_simp; exact ⟨rfl, rfl⟩)); refine hK _ _ ?_; clear hK K)
    refine stepK rfl (by kernel_rfl) (fun K hK => ?_); go_simp
    apply Exists.intro; apply And.intro; (focus (intro wk hk; have cc : wk.cell? ⟨gx, ox + i, none⟩ = some (.int .i64 x) := (World.cell?_of_block (hk.undrew.below.block _ hgx)).trans cx0; go_simp; exact ⟨rfl, rfl⟩)); refine hK _ _ ?_; clear hK K
    refine stepS _ rfl (by kernel_rfl) (fun K hK => ?_); go_simp
    refine ⟨?_, ?_⟩
    ·intro wk hk hg hu; go_simp; refine upon_enter ((kx.out _).mono ?_); rintro e w' ⟨rfl, hb⟩; exact ⟨_, rfl, left_V (p := fun u => u = .bool true) rfl (hb) rfl⟩
    rintro ⟨v5, lo5, hi5⟩ - - (rfl : v5 = _)
    refine hK _ _ ?_; clear hK K
    iterate 2 (refine stepK rfl (by kernel_rfl) (fun K hK => ?_); go_simp; apply Exists.intro; apply And.intro; (focus (intro wk hk; go_simp; exact ⟨rfl, rfl⟩)); refine hK _ _ ?_; clear hK K)
    iterate 2 (refine stepK rfl (by kernel_rfl) (fun K hK => ?_); go_simp; (first | (refine hK _ _ ?_; clear hK K) | (apply Exists.intro; apply And.intro; (focus (intro wk hk; go_simp; exact ⟨rfl, rfl⟩)); refine hK _ _ ?_; clear hK K)))
    refine stepK rfl (by kernel_rfl) (fun K hK => ?_); go_simp
    first | (refine hK _ _ ?_; clear hK K) | (apply Exists.intro; apply And.intro; (focus (intro wk hk; have cc : wk.cell? ⟨lo6, 0, none⟩ = some (.int .i64 sn) := (K6.Row.tr r3 hk.undrew id).cell 0; go_simp; exact ⟨rfl, rfl⟩)); refine hK _ _ ?_; clear hK K)
    iterate 3 (refine stepK rfl (by kernel_rfl) (fun K hK => ?_); go_simp; (first | (refine hK _ _ ?_; clear hK K) | (apply Exists.intro; apply And.intro; (focus (intro wk hk; go_simp; exact ⟨rfl, rfl⟩)); refine hK _ _ ?_; clear hK K)))
    refine stepK rfl (by kernel_rfl) (fun K hK => ?_); go_simp
    first | (refine hK _ _ ?_; clear hK K) | (apply Exists.intro; apply And.intro; (focus (intro wk hk; have cc : wk.cell? ⟨w.heap.size, 2, none⟩ = some (.slice (some ⟨gx, ox, none⟩) m nc) := ((K6.Row.tr r1 hk.undrew id).cell 2).trans x2; go_simp; exact ⟨rfl, rfl⟩)); refine hK _ _ ?_; clear hK K)
    iterate 2 (refine stepK rfl (by kernel_rfl) (fun K hK => ?_); go_simp; (first | (refine hK _ _ ?_; clear hK K) | (apply Exists.intro; apply And.intro; (focus (intro wk hk; go_simp; exact ⟨rfl, rfl⟩)); refine hK _ _ ?_; clear hK K)))
    refine stepK rfl (by kernel_rfl) (fun K hK => ?_); go_simp
    first | (refine hK _ _ ?_; clear hK K) | (apply Exists.intro; apply And.intro; (focus (intro wk hk; have cc : wk.cell? ⟨gx, ox + i, none⟩ = some (.int .i64 x) := (World.cell?_of_block (hk.undrew.below.block _ hgx)).trans cx0; go_simp; exact ⟨rfl, rfl⟩)); refine hK _ _ ?_; clear hK K)
    refine stepK rfl (by kernel_rfl) (fun K hK => ?_); go_simp
    first | (refine hK _ _ ?_; clear hK K) | (apply Exists.intro; apply And.intro; (focus (intro wk hk; go_simp; exact ⟨rfl, rfl⟩)); refine hK _ _ ?_; clear hK K)
    refine stepK rfl (by kernel_rfl) (fun K hK => ?_); go_simp
    first | (refine hK _ _ ?_; clear hK K) | (apply Exists.intro; apply And.intro; (focus (intro wk hk; have cc : wk.cell? ⟨w.heap.size, 2, none⟩ = some (.slice (some ⟨gx, ox, none⟩) m nc) := ((K6.Row.tr r1 hk.undrew id).cell 2).trans x2; go_simp; exact ⟨rfl, rfl⟩)); refine hK _ _ ?_; clear hK K)
    iterate 3 (refine stepK rfl (by kernel_rfl) (fun K hK => ?_); go_simp; (first | (refine hK _ _ ?_; clear hK K) | (apply Exists.intro; apply And.intro; (focus (intro wk hk; go_simp; exact ⟨rfl, rfl⟩)); refine hK _ _ ?_; clear hK K)))
    refine stepK rfl (by kernel_rfl) (fun K hK => ?_); go_simp
    first | (refine hK _ _ ?_; clear hK K) | (apply Exists.intro; apply And.intro; (focus (intro wk hk; have cc : wk.cell? ⟨gx, ox + k, none⟩ = some (.int .i64 y) := (World.cell?_of_block (hk.undrew.below.block _ hgx)).trans cy0; go_simp; exact ⟨rfl, rfl⟩)); refine hK _ _ ?_; clear hK K)
    iterate 2 (refine stepK rfl (by kernel_rfl) (fun K hK => ?_); go_simp; (first | (refine hK _ _ ?_; clear hK K) | (apply Exists.intro; apply And.intro; (focus (intro wk hk; go_simp; exact ⟨rfl, rfl⟩)); refine hK _ _ ?_; clear hK K)))
    refine stepK rfl (by kernel_rfl) (fun K hK => ?_); go_simp
    apply Exists.intro; apply And.intro; (focus (intro wk hk; go_simp; exact ⟨rfl, rfl⟩)); refine hK _ _ ?_; clear hK K
    refine stepN ?_
    refine hQ _ _ ?_
    intro w4 hT hG hF
    have hb4 := hT.undrew.below
    have H4 := Lib.hid (show Below w.heap.size w w4 ∧ Row w4 w.heap.size 116 ct ∧ Row w4 lo6 107 (#[.int .i64 sn, .bool st, .int .i64 sa, .bool se, .int .i64 sh, .bool sc]) from ⟨hl.trans (hb4.mono hl.size), r1.below hb4 r1.lt, r3.below hb4 r3.lt⟩)
    clear hT hG hF hQ QQ L hl r1 r3 hb4 kx cx0
    go_wp2_with fail
    go_ret
    exact ⟨rfl, H4.out.1⟩
   ·have hnext := Lib.hid (show ∀ j, j < i + 1 → numJ sn ln j from fun j hj => by
     rcases Nat.lt_or_ge j i with h | h
     ·exact hall.out j h
     ·obtain rfl : j = i := by omega
      exact ⟨by rw [hDx.out.1]; exact hw, fun h2 => by rw [hDx.out.1, hDy.out]; omega⟩)
    clear hw hx hall hDx hDy hk
    let L : List Sp := [sV 5 [] [] (fun u => u = .bool true)]
    refine wp_region_six (shs L) (look6 L) (None_) (by kernel_rfl) (by kernel_rfl) (mk_St L [] [] (by kernel_rfl) (by kernel_rfl) ⟨ok_V ⟨_, rfl⟩, trivial⟩ (by simp)) ?_
    intro QQ hQ
    refine stepK rfl (by kernel_rfl) (fun K hK => ?_); go_simp
    apply Exists.intro; apply And.intro; (focus (intro wk hk; go_simp; exact ⟨rfl, rfl⟩)); refine hK _ _ ?_; clear hK K
    refine stepK rfl (by kernel_rfl) (fun K hK => ?_); go_simp
    apply Exists.intro; apply And.intro; (focus (intro wk hk; have cc : wk.cell? ⟨w.heap.size, 2, none⟩ = some (.slice (some ⟨gx, ox, none⟩) m nc) := ((K6.Row.tr r1 hk.undrew id).cell 2).trans x2; go_simp; exact ⟨rfl, rfl⟩)); refine hK _ _ ?_; clear hK K
    iterate 2 (refine stepK rfl (by kernel_rfl) (fun K hK => ?_); go_simp; apply Exists.intro; apply And.intro; (focus (intro wk hk; go_simp; exact ⟨rfl, rfl⟩)); refine hK _ _ ?_; clear hK K)
    refine stepK rfl (by kernel_rfl) (fun K hK => ?_); go_simp
    apply Exists.intro; apply And.intro; (focus (intro wk hk; have cc : wk.cell? ⟨gx, ox + i, none⟩ = some (.int .i64 x) := (World.cell?_of_block (hk.undrew.below.block _ hgx)).trans cx0; go_simp; exact ⟨rfl, rfl⟩)); refine hK _ _ ?_; clear hK K
    refine stepS _ rfl (by kernel_rfl) (fun K hK => ?_); go_simp
    refine ⟨?_, ?_⟩
    ·intro wk hk hg hu; go_simp; refine upon_enter ((kx.out _).mono ?_); rintro e w' ⟨rfl, hb⟩; exact ⟨_, rfl, left_V (p := fun u => u = .bool true) rfl (hb) rfl⟩
    rintro ⟨v5, lo5, hi5⟩ - - (rfl : v5 = _)
    refine hK _ _ ?_; clear hK K
    iterate 2 (refine stepK rfl (by kernel_rfl) (fun K hK => ?_); go_simp; apply Exists.intro; apply And.intro; (focus (intro wk hk; go_simp; exact ⟨rfl, rfl⟩)); refine hK _ _ ?_; clear hK K)
    iterate 2 (refine stepK rfl (by kernel_rfl) (fun K hK => ?_); go_simp; (first | (refine hK _ _ ?_; clear hK K) | (apply Exists.intro; apply And.intro; (focus (intro wk hk; go_simp; exact ⟨rfl, rfl⟩)); refine hK _ _ ?_; clear hK K)))
    refine stepK rfl (by kernel_rfl) (fun K hK => ?_); go_simp
    first | (refine hK _ _ ?_; clear hK K) | (apply Exists.intro; apply And.intro; (focus (intro wk hk; have cc : wk.cell? ⟨lo6, 0, none⟩ = some (.int .i64 sn) := (K6.Row.tr r3 hk.undrew id).cell 0; go_simp; exact ⟨rfl, rfl⟩)); refine hK _ _ ?_; clear hK K)
    iterate 3 (refine stepK rfl (by kernel_rfl) (fun K hK => ?_); go_simp; (first | (refine hK _ _ ?_; clear hK K) | (apply Exists.intro; apply And.intro; (focus (intro wk hk; go_simp; exact ⟨rfl, rfl⟩)); refine hK _ _ ?_; clear hK K)))
    refine stepK rfl (by kernel_rfl) (fun K hK => ?_); go_simp
    first | (refine hK _ _ ?_; clear hK K) | (apply Exists.intro; apply And.intro; (focus (intro wk hk; have cc : wk.cell? ⟨w.heap.size, 2, none⟩ = some (.slice (some ⟨gx, ox, none⟩) m nc) := ((K6.Row.tr r1 hk.undrew id).cell 2).trans x2; go_simp; exact ⟨rfl, rfl⟩)); refine hK _ _ ?_; clear hK K)
    iterate 2 (refine stepK rfl (by kernel_rfl) (fun K hK => ?_); go_simp; (first | (refine hK _ _ ?_; clear hK K) | (apply Exists.intro; apply And.intro; (focus (intro wk hk; go_simp; exact ⟨rfl, rfl⟩)); refine hK _ _ ?_; clear hK K)))
    refine stepK rfl (by kernel_rfl) (fun K hK => ?_); go_simp
    first | (refine hK _ _ ?_; clear hK K) | (apply Exists.intro; apply And.intro; (focus (intro wk hk; have cc : wk.cell? ⟨gx, ox + i, none⟩ = some (.int .i64 x) := (World.cell?_of_block (hk.undrew.below.block _ hgx)).trans cx0; go_simp; exact ⟨rfl, rfl⟩)); refine hK _ _ ?_; clear hK K)
    refine stepK rfl (by kernel_rfl) (fun K hK => ?_); go_simp
    first | (refine hK _ _ ?_; clear hK K) | (apply Exists.intro; apply And.intro; (focus (intro wk hk; go_simp; exact ⟨rfl, rfl⟩)); refine hK _ _ ?_; clear hK K)
    refine stepK rfl (by kernel_rfl) (fun K hK => ?_); go_simp
    first | (refine hK _ _ ?_; clear hK K) | (apply Exists.intro; apply And.intro; (focus (intro wk hk; have cc : wk.cell? ⟨w.heap.size, 2, none⟩ = some (.slice (some ⟨gx, ox, none⟩) m nc) := ((K6.Row.tr r1 hk.undrew id).cell 2).trans x2; go_simp; exact ⟨rfl, rfl⟩)); refine hK _ _ ?_; clear hK K)
    iterate 3 (refine stepK rfl (by kernel_rfl) (fun K hK => ?_); go_simp; (first | (refine hK _ _ ?_; clear hK K) | (apply Exists.intro; apply And.intro; (focus (intro wk hk; go_simp; exact ⟨rfl, rfl⟩)); refine hK _ _ ?_; clear hK K)))
    refine stepK rfl (by kernel_rfl) (fun K hK => ?_); go_simp
    first | (refine hK _ _ ?_; clear hK K) | (apply Exists.intro; apply And.intro; (focus (intro wk hk; have cc : wk.cell? ⟨gx, ox + k, none⟩ = some (.int .i64 y) := (World.cell?_of_block (hk.undrew.below.block _ hgx)).trans cy0; go_simp; exact ⟨rfl, rfl⟩)); refine hK _ _ ?_; clear hK K)
    iterate 2 (refine stepK rfl (by kernel_rfl) (fun K hK => ?_); go_simp; (first | (refine hK _ _ ?_; clear hK K) | (apply Exists.intro; apply And.intro; (focus (intro wk hk; go_simp; exact ⟨rfl, rfl⟩)); refine hK _ _ ?_; clear hK K)))
    refine stepK rfl (by kernel_rfl) (fun K hK => ?_); go_simp
    apply Exists.intro; apply And.intro; (focus (intro wk hk; go_simp; exact ⟨rfl, rfl⟩)); refine hK _ _ ?_; clear hK K
    refine stepN ?_
    refine hQ _ _ ?_
    intro w4 hT hG hF
    have hb4 := hT.undrew.below
    have H4 := Lib.hid (show Below w.heap.size w w4 ∧ Row w4 w.heap.size 116 ct ∧ Row w4 lo6 107 (#[.int .i64 sn, .bool st, .int .i64 sa, .bool se, .int .i64 sh, .bool sc]) from ⟨hl.trans (hb4.mono hl.size), r1.below hb4 r1.lt, r3.below hb4 r3.lt⟩)
    clear hT hG hF hQ QQ L hl r1 r3 hb4 kx cx0
    go_wp2_with fail
    go_roundg (gk - 1)
    case measure => omega
    case rel => exact ⟨i + 1, by omega, by go_num, hnext, H4⟩
  ·obtain rfl : i = m := by omega
   have hlt : ¬ (i : Int) < (i : Int) := by omega
   have hbt : b3 = true := by rw [← HN.out.2.2.1]; exact nums_yes (fun j hj => hall.out j (by have := HN.out.2.1; omega))
   subst hbt
   have d3 := (hinv.out.2.1.cell 3).trans x3
   clear hall HN
   go_wp2_with fail
   refine (kA.out _ hinv.out.1).mono ?_
   rintro e w3 ⟨rfl, hb⟩
   have H3 := Lib.hid (show Below w.heap.size w w3 ∧ Row w3 w.heap.size 116 ct ∧ Row w3 lo6 107 (#[.int .i64 sn, .bool st, .int .i64 sa, .bool se, .int .i64 sh, .bool sc]) from ⟨hinv.out.1.trans (hb.mono hinv.out.1.size), hinv.out.2.1.below hb hinv.out.2.1.lt, hinv.out.2.2.below hb hinv.out.2.2.lt⟩)
   clear kA hb hinv d3
   cases b4
   ·clear kG kS
    go_wp2_with fail
    go_ret
    exact ⟨rfl, H3.out.1⟩
   have e5 := H3.out.2.2.cell 5
   cases sc
   ·have hbx' : b6 = bx := by have h := hbx.out; simpa using h
    subst hbx'
    clear hbx
    go_upto_region 14 with (fail)
    have hl := H3.out.1
    have r1 := H3.out.2.1
    clear H3 e5 kG
    let L : List Sp := [sV 3 [] [] (fun u => u = .bool b6)]
    refine wp_region_six0 (shs L) (look6 L) (None_) (by kernel_rfl) (by kernel_rfl) (mk_St L [] [] (by kernel_rfl) (by kernel_rfl) ⟨ok_V ⟨_, rfl⟩, trivial⟩ (by simp)) ?_
    intro QQ hQ
    refine stepK rfl (by kernel_rfl) (fun K hK => ?_); go_simp
    apply Exists.intro; apply And.intro; (focus (intro wk hk; go_simp; exact ⟨rfl, rfl⟩)); refine hK _ _ ?_; clear hK K
    refine stepK rfl (by kernel_rfl) (fun K hK => ?_); go_simp
    apply Exists.intro; apply And.intro; (focus exact kLoadMid rfl rfl aggT114 r1 hmid hcsz id); refine hK _ _ ?_; clear hK K
    refine stepK rfl (by kernel_rfl) (fun K hK => ?_); go_simp
    apply Exists.intro; apply And.intro; (focus (intro wk hk; go_simp; exact ⟨rfl, rfl⟩)); refine hK _ _ ?_; clear hK K
    refine stepS _ rfl (by kernel_rfl) (fun K hK => ?_); go_simp
    refine ⟨?_, ?_⟩
    ·intro wk hk hg hu; go_simp; refine upon_enter ((kS.out _ (hl.trans (hk.below.mono hl.size))).mono ?_); rintro e w' ⟨rfl, hb⟩; exact ⟨_, rfl, left_V (p := fun u => u = .bool b6) rfl (hb) rfl⟩
    rintro ⟨v3, lo3, hi3⟩ - - (rfl : v3 = _)
    refine hK _ _ ?_; clear hK K
    refine stepK rfl (by kernel_rfl) (fun K hK => ?_); go_simp
    apply Exists.intro; apply And.intro; (focus (intro wk hk; go_simp; exact ⟨rfl, rfl⟩)); refine hK _ _ ?_; clear hK K
    refine stepN ?_
    refine hQ _ _ ?_
    intro w9 hT hG hF
    have H9 := Lib.hid (hl.trans (hT.below.mono hl.size))
    clear hT hG hF hQ QQ L hl r1
    go_wp2_with fail
    go_ret
    exact ⟨by first | rfl | (simp; done), H9.out⟩
   ·have hbx' : b5 = bx := by have h := hbx.out; simpa using h
    subst hbx'
    clear hbx
    go_upto_region 13 with (fail)
    have hl := H3.out.1
    have r1 := H3.out.2.1
    clear H3 e5 kS
    let L : List Sp := [sV 2 [] [] (fun u => u = .bool b5)]
    refine wp_region_six0 (shs L) (look6 L) (None_) (by kernel_rfl) (by kernel_rfl) (mk_St L [] [] (by kernel_rfl) (by kernel_rfl) ⟨ok_V ⟨_, rfl⟩, trivial⟩ (by simp)) ?_
    intro QQ hQ
    refine stepK rfl (by kernel_rfl) (fun K hK => ?_); go_simp
    apply Exists.intro; apply And.intro; (focus (intro wk hk; go_simp; exact ⟨rfl, rfl⟩)); refine hK _ _ ?_; clear hK K
    refine stepK rfl (by kernel_rfl) (fun K hK => ?_); go_simp
    apply Exists.intro; apply And.intro; (focus exact kLoadMid rfl rfl aggT114 r1 hmid hcsz id); refine hK _ _ ?_; clear hK K
    refine stepS _ rfl (by kernel_rfl) (fun K hK => ?_); go_simp
    refine ⟨?_, ?_⟩
    ·intro wk hk hg hu; go_simp; refine upon_enter ((kG.out _ (hl.trans (hk.below.mono hl.size))).mono ?_); rintro e w' ⟨rfl, hb⟩; exact ⟨_, rfl, left_V (p := fun u => u = .bool b5) rfl (hb) rfl⟩
    rintro ⟨v2, lo2, hi2⟩ - - (rfl : v2 = _)
    refine hK _ _ ?_; clear hK K
    refine stepK rfl (by kernel_rfl) (fun K hK => ?_); go_simp
    apply Exists.intro; apply And.intro; (focus (intro wk hk; go_simp; exact ⟨rfl, rfl⟩)); refine hK _ _ ?_; clear hK K
    refine stepN ?_
    refine hQ _ _ ?_
    intro w9 hT hG hF
    have H9 := Lib.hid (hl.trans (hT.below.mono hl.size))
    clear hT hG hF hQ QQ L hl r1
    go_wp2_with fail
    go_ret
    exact ⟨by first | rfl | (simp; done), H9.out⟩
end Go.Proofs.Ytpdenhmkpiafiaa
namespace Go.Proofs.Ytpdenhmkpiafiaa
open Go Go.RowKit K6
set_option maxRecDepth 100000 in
theorem appendI_nil {w : World} {base n : Nat} {v : Value} {zs : List Value} (h : w.ownsRow base 3 1 v n zs) : (Builtin.append_ #[22, 22] 22 #[v, .slice none 0 0]).run Try.prog w = .ok v w := by
 obtain ⟨i, hi⟩ : ∃ i, Try.prog.info? 3 = some i := ⟨_, rfl⟩
 rcases h.2 with ⟨rfl, h0⟩ | ⟨g, cap, cur, rfl, hb, hg, h2, h3, h4, h5⟩
 ·simp [Builtin.append_, run_underlying Try.underlying22, sizeOf, typeInfo, hi, Builtin.lenOf, Builtin.firstCells]
 ·simp [Builtin.append_, run_underlying Try.underlying22, sizeOf, typeInfo, hi, Builtin.lenOf, Builtin.firstCells, h2, storeCells]
theorem icl_len (l : List Int) : (l.flatMap icl).length = l.length * 1 := by
 rw [Nat.mul_one]
 induction l with
 | nil => rfl
 | cons a l ih => rw [List.flatMap_cons, List.length_append, ih, List.length_cons]; show 1 + _ = _; omega
theorem icl_one (l : List Int) : ∀ u ∈ l.flatMap icl, u.oneCell' = true := fun u hu => by
 obtain ⟨x, -, hx⟩ := List.mem_flatMap.1 hu
 rw [List.mem_singleton.1 hx]
 rfl
set_option maxRecDepth 100000 in
set_option maxHeartbeats 4000000 in
theorem appendI_run {w : World} {base n : Nat} {v u : Value} {zs : List Value} {k : List Int} (h : w.ownsRow base 3 1 v n zs) (hu : Oi w 0 u k) (hL : n + k.length ≤ 1000000) (hb : base ≤ w.heap.size) :
  ∃ v' w', (Builtin.append_ #[22, 22] 22 #[v, u]).run Try.prog w = .ok v' w' ∧ w'.ownsRow base 3 1 v' (n + k.length) (zs ++ k.flatMap icl) ∧ w.grownBy w' v.ownBlock ∧ (v'.ownBlock = v.ownBlock ∨ v'.ownBlock = some w.heap.size) := by
 have hi := hu.is
 rcases id hu.2 with ⟨rfl, h0⟩ | ⟨g, cap, cur, rfl, h1, hg, rest⟩
 ·obtain rfl : k = [] := List.eq_nil_of_length_eq_zero h0
  exact ⟨v, w, appendI_nil h, by simpa using h, ⟨rfl, rfl, rfl, Nat.le_refl _, fun _ _ _ => rfl⟩, .inl rfl⟩
 ·obtain ⟨v', w', hrun, ho, hgr, -, hw⟩ := run_append_own_at (P := Try.prog) w base 22 22 3 _ _ 1 8 rfl rfl rfl rfl rfl rfl (by decide) v n zs h ⟨g, 0, none⟩ k.length cap (k.flatMap icl) (icl_len k) (fun j u hj => World.ownsRow.cells hu (g := g) rfl j u hj) (icl_one k) (by simp only [maxLen]; omega) (by omega) hb
  exact ⟨v', w', hrun, ho, hgr, hw⟩
def tx0 : Txv := ⟨0, 0, none, 0, [], none, 0, [], none, 0, [], cm0⟩
structure GT (w wx : World) (b0 lo hi g : Nat) (es : Int) (ys : List Int) (t : Txv) : Prop where
 src : SA wx lo hi g es ys
 tr : Tr (fun b => b = g) w wx
 r0 : Row wx b0 116 tx0.cs.toArray
 r1 : Row wx w.heap.size 116 t.cs.toArray
 gh : g < w.heap.size
 hh : hi ≤ w.heap.size
 b0l : b0 < lo
 lg : lo ≤ g
 tk : t.c.tok.length = 32
theorem GT.call {w wx wy : World} {b0 lo hi g : Nat} {es e1 : Int} {ys x1 : List Int} {t : Txv} (h : GT w wx b0 lo hi g es ys t) (hs : SA wy lo hi g e1 x1) (ht : Tr (fun b => b = g) wx wy) : GT w wy b0 lo hi g e1 x1 t :=
 ⟨hs, h.tr.trans ht, K6.Row.tr h.r0 ht (by have := h.lg; have := h.b0l; omega), K6.Row.tr h.r1 ht (by have := h.gh; omega), h.gh, h.hh, h.b0l, h.lg, h.tk⟩
theorem GT.put {w wx wy : World} {b0 lo hi g : Nat} {es : Int} {ys : List Int} {t u : Txv} (h : GT w wx b0 lo hi g es ys t) (ht : Tr (fun b => b = w.heap.size) wx wy) (hr : Row wy w.heap.size 116 u.cs.toArray) (hu : u.c.tok.length = 32) : GT w wy b0 lo hi g es ys u :=
 ⟨h.src.keep ht fun b _ h2 hx => by have hx' : b = w.heap.size := hx; have := h.hh; omega, h.tr.trans_new ht fun b hb hlt => by have hb' : b = w.heap.size := hb; omega, K6.Row.tr h.r0 ht (by have := h.b0l; have := h.lg; have := h.gh; omega), hr, h.gh, h.hh, h.b0l, h.lg, hu⟩
structure GO (wx : World) (base : Nat) (t : Txv) : Prop where
 n : Oi wx base t.nv t.n
 a : Oe wx base t.av t.a
 h : Oh wx base t.hv t.h
 c : CmIn wx base t.c
theorem GO.keep {X : Nat → Prop} {w w' : World} {base : Nat} {t : Txv} (h : GO w base t) (hT : Tr X w w') (hX : ∀ b, base ≤ b → ¬ X b) : GO w' base t :=
 ⟨own_tr h.n hT fun b hb => hX b (own_lt h.n b hb).1, own_tr h.a hT fun b hb => hX b (own_lt h.a b hb).1, own_tr h.h hT fun b hb => hX b (own_lt h.h b hb).1, h.c.keep hT hX⟩
structure PureT (K : TxK) : Prop where
 k : I64 K.1
 f : I64 K.2.1
 n : ∀ x ∈ K.2.2.1, I64 x
 a : ∀ x ∈ K.2.2.2.1, x < M
 h : HsOk K.2.2.2.2.1
theorem GO.ok {w : World} {base : Nat} {t : Txv} (h : GO w base t) (hp : PureT t.key) : TxOk w t :=
 ⟨hp.k, hp.f, Oi.is h.n, hp.n, Oe.us h.a, hp.a, Oh.hs h.h hp.h, hp.h, h.c.ok⟩
theorem gNs_I64 (n : Nat) : ∀ s : St, ∀ x ∈ (gMany (gN 1099511627776) n s).1, I64 x := by
 induction n with
 | zero => intro s x h; cases h
 | succ n ih =>
  intro s x hx
  by_cases h0 : s.1 = 0
  ·rw [gMany_go _ _ h0] at hx
   rcases List.mem_cons.1 hx with rfl | hx
   ·exact gV_I64 _ _
   ·exact ih _ x hx
  ·rw [gMany_stop _ _ h0] at hx; cases hx
theorem gAs_ltM (n : Nat) : ∀ {s : St}, By s.2 → ∀ a ∈ (gMany gA n s).1, a < M := by
 induction n with
 | zero => intro s _ a h; cases h
 | succ n ih =>
  intro s h a ha
  by_cases h0 : s.1 = 0
  ·rw [gMany_go _ _ h0] at ha
   rcases List.mem_cons.1 ha with rfl | ha
   ·exact gA_lt h
   ·exact ih (gA_by h) a ha
  ·rw [gMany_stop _ _ h0] at ha; cases ha
theorem gTx_parts {xs : List Int} {k f : Nat} {e1 e2 e3 e4 e5 e6 e7 e8 : Int} {x1 x2 x3 x4 x5 x6 x7 x8 : List Int} {N1 N2 : List Int} {tl : Int} {LA : List Nat} {LH : List (List Int)} {CK : CmK}
  (h1 : gV 28 (0, xs) = (k, e1, x1)) (h2 : gV 4294967295 (e1, x1) = (f, e2, x2)) (h3 : gMany (gN 1099511627776) (shpOf (k : Int)).n.toNat (e2, x2) = (N1, e3, x3)) (h4 : gTail (shpOf (k : Int)).t (e3, x3) = (tl, e4, x4)) (h5 : gMany (gN 1099511627776) tl.toNat (e4, x4) = (N2, e5, x5))
  (h6 : gMany gA (if (shpOf (k : Int)).e = true then tl else (shpOf (k : Int)).a).toNat (e5, x5) = (LA, e6, x6)) (h7 : gMany gH (shpOf (k : Int)).h.toNat (e6, x6) = (LH, e7, x7)) (h8 : gCo (shpOf (k : Int)).c (e7, x7) = (CK, e8, x8)) :
  gTx (0, xs) = (((k : Int), (f : Int), N1 ++ N2, LA, LH, CK), e8, x8) := by
 have g1 : gN 28 (0, xs) = ((k : Int), e1, x1) := by unfold gN; rw [h1]
 have g2 : gN 4294967295 (e1, x1) = ((f : Int), e2, x2) := by unfold gN; rw [h2]
 unfold gTx gTxX txF rSeq gNums rSeq
 simp only [g1, g2, h3, h4, h5, h6, h7, h8]
def ParT (w : World) (K : TxK) (er : Int) (r : Ending) (w' : World) : Prop := ∃ t : Txv, t.key = K ∧ r = .returned (.tuple #[.agg t.cs.toArray, .int .i64 er]) ∧ TxOk w' t ∧ Below w.heap.size w w' ∧ LightT t
theorem tx0_ok (w : World) : TxOk w tx0 :=
 ⟨⟨by decide, by decide⟩, ⟨by decide, by decide⟩, Rs.nil _ _ _, (fun _ h => (by cases h)), Us.nil w, (fun _ h => (by cases h)), Rs.nil _ _ _, (fun _ h => (by cases h)), cm0_ok w⟩
theorem tx0_light : LightT tx0 := ⟨by decide, by decide, by decide, by decide, by decide, fun _ h => (by cases h)⟩
theorem gPr_len (s : St) : (gPr s).1.length ≤ 10 := by
 unfold gPr
 have h1 := gMany_len gH (gV 10 s).1 (gV 10 s).2
 have h2 := gV_most (most := 10) (s := s) (by decide)
 omega
theorem gLf_len (s : St) : (gLf s).1.2.2.2.length ≤ 10 := by
 unfold gLf rSeq
 exact gPr_len _
theorem gLs_lens (n : Nat) : ∀ s : St, ∀ X ∈ (gMany gLf n s).1, X.2.2.2.length ≤ 10 := by
 induction n with
 | zero => intro s X h; cases h
 | succ n ih =>
  intro s X hX
  by_cases h0 : s.1 = 0
  ·rw [gMany_go _ _ h0] at hX
   rcases List.mem_cons.1 hX with rfl | hX
   ·exact gLf_len s
   ·exact ih _ X hX
  ·rw [gMany_stop _ _ h0] at hX; cases hX
theorem gCl_lens (s : St) : (gCl s).1.2.2.2.2.2.1.length ≤ 10 ∧ (gCl s).1.2.2.2.2.2.2.length ≤ 8 ∧ ∀ X ∈ (gCl s).1.2.2.2.2.2.2, X.2.2.2.length ≤ 10 := by
 unfold gCl gClX clOf rSeq
 refine ⟨gPr_len _, ?_, ?_⟩
 ·simp only [gLs]
  refine Nat.le_trans (gMany_len _ _ _) ?_
  have h := fun s => gV_most (most := 8) (s := s) (by decide)
  exact Int.ofNat_le.1 (h _)
 ·simp only [gLs]
  exact gLs_lens _ _
end Go.Proofs.Ytpdenhmkpiafiaa
namespace Go.Proofs.Ytpdenhmkpiafiaa
open Go Go.RowKit K6
theorem set_set' {A : Array Value} {i : Nat} {u v : Value} : (A.setIfInBounds i u).setIfInBounds i v = A.setIfInBounds i v := arr_eq fun j => by
 by_cases h : j = i
 ·subst h
  by_cases hj : j < A.size
  ·rw [Array.getElem?_setIfInBounds_self_of_lt (by simpa using hj), Array.getElem?_setIfInBounds_self_of_lt hj]
  ·rw [Array.getElem?_eq_none (by simp; omega), Array.getElem?_eq_none (by simp; omega)]
 ·rw [Array.getElem?_setIfInBounds_ne (Ne.symm h), Array.getElem?_setIfInBounds_ne (Ne.symm h), Array.getElem?_setIfInBounds_ne (Ne.symm h)]
theorem set_self' {A : Array Value} {i : Nat} {v : Value} (h : A[i]? = some v) : A.setIfInBounds i v = A := arr_eq fun j => by
 by_cases hj : j = i
 ·subst hj
  have hlt : j < A.size := by
   rcases Nat.lt_or_ge j A.size with h1 | h1
   ·exact h1
   ·rw [Array.getElem?_eq_none h1] at h; cases h
  rw [Array.getElem?_setIfInBounds_self_of_lt hlt, h]
 ·rw [Array.getElem?_setIfInBounds_ne (Ne.symm hj)]
structure LpR {α : Type} (Own : World → Nat → Value → List α → Prop) (ws wr : World) (g b1 bx B off : Nat) (q : Option Nat) (SC TA : Array Value) (v : Value) (es : Int) (ys : List Int) (K : List α) : Prop where
 own : Own wr B v K
 src : SR wr g q es ys
 row : Row wr b1 116 (TA.setIfInBounds off v)
 rx : Row wr bx 118 SC
 tr : Tr (fun b => b = g ∨ b = b1 ∨ B ≤ b) ws wr
 sz : B ≤ wr.heap.size
structure LpI {α : Type} (one : St → α × St) (Own : World → Nat → Value → List α → Prop) (ws wr : World) (g b1 bx B off : Nat) (q : Option Nat) (SC TA : Array Value) (v : Value) (gg : Nat) (K0 LX : List α) (e3 : Int) (x3 : List Int) (es : Int) (ys : List Int) (K : List α) : Prop where
 lp : LpR Own ws wr g b1 bx B off q SC TA v es ys (K0 ++ K)
 mi : MI one gg es ys K LX e3 x3
 len : (K0 ++ K).length + gg ≤ 1000
theorem LpI.stop {α : Type} {one : St → α × St} {Own : World → Nat → Value → List α → Prop} {ws wr : World} {g b1 bx B off : Nat} {q : Option Nat} {SC TA : Array Value} {v : Value} {gg : Nat} {K0 LX : List α} {e3 : Int} {x3 : List Int} {es : Int} {ys : List Int} {K : List α} (h : LpI one Own ws wr g b1 bx B off q SC TA v gg K0 LX e3 x3 es ys K) (h0 : es ≠ 0 ∨ gg = 0) : LpR Own ws wr g b1 bx B off q SC TA v e3 x3 (K0 ++ LX) := by
 obtain ⟨h1, h2, h3⟩ := h.mi.stop h0
 have h4 := h.lp
 rw [h1, h2, h3] at h4
 exact h4
theorem wpList_storeM {ops : Array Oper} {rest : List Oper} {o : Oper} {a : Act} {Q : Exit → Act → World → Prop} {w : World} {ty : TypeId} {x y : Operand} {b t off : Nat} {old vs : Array Value} (hgd : o.guard = none) (ho : o.op = .store ty x y) (hx : a.eval x = .pointer (some ⟨b, off, none⟩)) (hy : a.eval y = .agg vs) (hr : Row w b t old)
  (hoff : off + vs.size ≤ old.size) (hi : (Try.prog.info? ty).map (·.size) = some vs.size) (h1 : vs.all (·.oneCell') = true) (h : ∀ w', Row w' b t (setL old off vs.toList) → Tr (fun c => c = b) w w' → wpList Try.prog ops Q rest (a.put o.dst undef) w') : wpList Try.prog ops Q (o :: rest) a w := by
 refine wpList_plain hgd fun K hK => ?_
 unfold Oper.wp
 have hrun : (execOp a.eval o).run Try.prog w = .ok .skip (w.setCells b off vs.toList) := by
  unfold execOp
  simp only [ho, hx, hy, Sem.run_bind, Sem.run_pure, Result.andThen_ok, run_storeAt_mid w b off ty vs (there_row hr hoff) hi h1]
 rw [hrun]
 exact hK _ _ (h _ (row_setL _ _ hr) ⟨World.os_setCells _ _ _ _, tape_setCells', World.output_setCells _ _ _ _, Nat.le_of_eq size_setCells'.symm, fun c _ hc => heap_setCells hc⟩)
theorem LpR.callI {ws wr wy : World} {g b1 bx B off : Nat} {q : Option Nat} {SC TA : Array Value} {v : Value} {es e1 : Int} {ys x1 : List Int} {K : List Int} (h : LpR Oi ws wr g b1 bx B off q SC TA v es ys K) (hs : SR wy g q e1 x1) (ht : Tr (fun b => b = g) wr wy) (hg : g < B) (h1 : b1 ≠ g) (h2 : bx ≠ g) : LpR Oi ws wy g b1 bx B off q SC TA v e1 x1 K :=
 ⟨own_tr h.own ht (fun b hb hx => by have hx' : b = g := hx; have h3 := (own_lt h.own b hb).1; omega), hs, K6.Row.tr h.row ht h1, K6.Row.tr h.rx ht h2, h.tr.trans_new ht (fun b hb _ => .inl hb), Nat.le_trans h.sz ht.size⟩
theorem gCo_lens (c : Bool) (s : St) : (gCo c s).1.2.2.2.2.2.1.length ≤ 10 ∧ (gCo c s).1.2.2.2.2.2.2.length ≤ 8 ∧ ∀ X ∈ (gCo c s).1.2.2.2.2.2.2, X.2.2.2.length ≤ 10 := by
 cases c
 ·exact ⟨by show ([] : List (List Int)).length ≤ 10; decide, by show ([] : List LfK).length ≤ 8; decide, fun _ h => (by cases h)⟩
 ·exact gCl_lens s
theorem tx0_csR : tx0.cs.toArray = #[.int .i64 0, .int .i64 0, .slice none 0 0, .slice none 0 0, .slice none 0 0, .int .i64 0, .int .i64 0, .int .i64 0, .int .u8 0, .int .u8 0, .int .u8 0, .int .u8 0, .int .u8 0, .int .u8 0, .int .u8 0, .int .u8 0, .int .u8 0, .int .u8 0, .int .u8 0, .int .u8 0, .int .u8 0, .int .u8 0, .int .u8 0, .int .u8 0, .int .u8 0, .int .u8 0, .int .u8 0, .int .u8 0, .int .u8 0, .int .u8 0, .int .u8 0, .int .u8 0, .int .u8 0, .int .u8 0, .int .u8 0, .int .u8 0, .int .u8 0, .int .u8 0, .int .u8 0, .int .u8 0, .slice none 0 0, .slice none 0 0, .int .i64 0] := by kernel_rfl
theorem info116R {Y : Array Value} (h : Y.size = 43) : (Try.prog.info? 116).map (·.size) = some Y.size := by rw [h]; kernel_rfl
theorem shp_moreR (k : Int) : (0 ≤ (shpOf k).a ∧ (shpOf k).a ≤ 1) ∧ (0 ≤ (shpOf k).h ∧ (shpOf k).h ≤ 1) ∧ ((shpOf k).e = true → (shpOf k).t = true) ∧ ((shpOf k).c = true → (shpOf k).t = false) := by
 unfold shpOf
 split
 ·rename_i h
  have h2 : k = 1 ∨ k = 2 ∨ k = 3 ∨ k = 4 ∨ k = 5 ∨ k = 6 ∨ k = 7 ∨ k = 8 ∨ k = 9 ∨ k = 10 ∨ k = 11 ∨ k = 12 ∨ k = 13 ∨ k = 14 ∨ k = 15 ∨ k = 16 ∨ k = 17 ∨ k = 18 ∨ k = 19 ∨ k = 20 ∨ k = 21 ∨ k = 22 ∨ k = 23 ∨ k = 24 ∨ k = 25 ∨ k = 26 ∨ k = 27 ∨ k = 28 := by omega
  rcases h2 with rfl | rfl | rfl | rfl | rfl | rfl | rfl | rfl | rfl | rfl | rfl | rfl | rfl | rfl | rfl | rfl | rfl | rfl | rfl | rfl | rfl | rfl | rfl | rfl | rfl | rfl | rfl | rfl <;> decide
 ·decide
end Go.Proofs.Ytpdenhmkpiafiaa
namespace Go.Proofs.Ytpdenhmkpiafiaa
open Go Go.RowKit K6
def rsA : Array Value := #[.int .i64 2, .bool false, .int .i64 1, .bool false, .int .i64 0, .bool false, .int .i64 1, .bool false, .int .i64 0, .bool false, .int .i64 0, .bool false, .int .i64 1, .bool false, .int .i64 0, .bool false, .int .i64 0, .bool false, .int .i64 2, .bool false, .int .i64 0, .bool false, .int .i64 0, .bool false, .int .i64 2, .bool false, .int .i64 1, .bool false, .int .i64 0, .bool false, .int .i64 1, .bool false, .int .i64 1, .bool false, .int .i64 0, .bool false, .int .i64 1, .bool false, .int .i64 1, .bool false, .int .i64 0, .bool false, .int .i64 1, .bool false, .int .i64 0, .bool false, .int .i64 0, .bool false, .int .i64 1, .bool false, .int .i64 0, .bool false, .int .i64 0, .bool false, .int .i64 1, .bool false, .int .i64 0, .bool false, .int .i64 0, .bool false, .int .i64 1, .bool false, .int .i64 0, .bool false, .int .i64 0, .bool false, .int .i64 1, .bool false, .int .i64 1, .bool false, .int .i64 0, .bool false, .int .i64 2, .bool false, .int .i64 0, .bool false, .int .i64 0, .bool false, .int .i64 1, .bool false, .int .i64 0, .bool false, .int .i64 0, .bool false, .int .i64 0, .bool false, .int .i64 0, .bool false, .int .i64 0, .bool false, .int .i64 0, .bool true, .int .i64 0, .bool false, .int .i64 0, .bool false, .int .i64 2, .bool false, .int .i64 0, .bool false, .int .i64 0, .bool false, .int .i64 2, .bool false, .int .i64 0, .bool false, .int .i64 0, .bool false, .int .i64 2, .bool false, .int .i64 0, .bool false, .int .i64 0, .bool false, .int .i64 3, .bool false, .int .i64 0, .bool false, .int .i64 0, .bool false, .int .i64 3, .bool false, .int .i64 1, .bool false, .int .i64 0, .bool false, .int .i64 2, .bool true, .int .i64 0, .bool true, .int .i64 0, .bool false, .int .i64 1, .bool false, .int .i64 1, .bool false, .int .i64 0, .bool false, .int .i64 0, .bool false, .int .i64 0, .bool false, .int .i64 1, .bool false, .int .i64 1, .bool false, .int .i64 0, .bool false, .int .i64 0, .bool false, .int .i64 1, .bool false, .int .i64 0, .bool false, .int .i64 0, .bool false, .int .i64 0, .bool false, .int .i64 0, .bool false, .int .i64 0, .bool true, .int .i64 2, .bool false, .int .i64 0, .bool false, .int .i64 0, .bool false]
set_option maxRecDepth 100000 in
theorem rsA_at : ∀ i, i < 28 → ∀ j v, (shpL.getD i shpZ).cs[j]? = some v → rsA[i * 6 + j]? = some v := fun i hi j v hj => by
 have hj6 : j < 6 := (Array.getElem?_eq_some_iff.1 hj).1
 rw [← hj]
 have h : i = 0 ∨ i = 1 ∨ i = 2 ∨ i = 3 ∨ i = 4 ∨ i = 5 ∨ i = 6 ∨ i = 7 ∨ i = 8 ∨ i = 9 ∨ i = 10 ∨ i = 11 ∨ i = 12 ∨ i = 13 ∨ i = 14 ∨ i = 15 ∨ i = 16 ∨ i = 17 ∨ i = 18 ∨ i = 19 ∨ i = 20 ∨ i = 21 ∨ i = 22 ∨ i = 23 ∨ i = 24 ∨ i = 25 ∨ i = 26 ∨ i = 27 := by omega
 have h2 : j = 0 ∨ j = 1 ∨ j = 2 ∨ j = 3 ∨ j = 4 ∨ j = 5 := by omega
 rcases h with rfl | rfl | rfl | rfl | rfl | rfl | rfl | rfl | rfl | rfl | rfl | rfl | rfl | rfl | rfl | rfl | rfl | rfl | rfl | rfl | rfl | rfl | rfl | rfl | rfl | rfl | rfl | rfl <;> rcases h2 with rfl | rfl | rfl | rfl | rfl | rfl <;> rfl
theorem upon_run {P : Program} {V : Value → World → Prop} {r : Result Next} {u : Value} {w2 : World} (h : r = .ok (.value u) w2) (hv : V u w2) : sUpon P V r := by rw [h]; exact upon_value hv
theorem aggT118 : AggT Try.prog 118 6 := ⟨⟨_, Try.underlying118, rfl⟩, by kernel_rfl⟩
theorem okK_dec (k : Int) : okK k = decide (1 ≤ k ∧ k ≤ 28) := by
 unfold okK
 rw [Bool.decide_and]
set_option maxRecDepth 100000 in
set_option maxHeartbeats 64000000 in
theorem rof15_at (k : Int) (w : World) : Calls Try.prog 135 #[.int .i64 k] w (OfP w k) := by
 unfold OfP
 obtain ⟨S, hS⟩ : ∃ S, shpOf k = S := ⟨_, rfl⟩
 obtain ⟨ok, hok⟩ : ∃ b, okK k = b := ⟨_, rfl⟩
 rw [hS, hok]
 have HS := Lib.hid (show _ ∧ _ from ⟨hS, hok⟩)
 clear hS hok
 go_enter Try.func135, Try.ntmps135
 go_upto_region 1 with (fail)
 refine wp_abs (Mem w [(w.heap.size, 118, #[.int .i64 0, .bool false, .int .i64 0, .bool false, .int .i64 0, .bool false])]) ⟨by go_grown, by (repeat (first | (refine Row.new_at ?_; simp; done) | refine Row.alloc ?_ _)), trivial⟩ ?_
 intro w0 hM
 obtain ⟨hl, r0, -⟩ := hM
 let L : List Sp := [sL 28 118 [] 28 rsA]
 refine wp_region_six0 (shs L) (look6 L) (None_) (by kernel_rfl) (by kernel_rfl) (mk_St L [] [] (by kernel_rfl) (by kernel_rfl) ⟨ok_L, trivial⟩ (by simp)) ?_
 intro QQ hQ
 iterate 28 (refine stepK rfl (by kernel_rfl) (fun K hK => ?_); go_simp; apply Exists.intro; apply And.intro; (focus (intro wk hk; go_simp; exact ⟨rfl, rfl⟩)); refine hK _ _ ?_; clear hK K)
 refine stepS _ rfl (by kernel_rfl) (fun K hK => ?_); go_simp
 refine ⟨?_, ?_⟩
 ·intro wk hk hg hu; refine upon_run (u := .slice (some ⟨wk.heap.size, 0, none⟩) 28 28) (w2 := wk.alloc (.cells rsA 118)) (by kernel_rfl) (left_L rfl rfl)
 rintro ⟨v28, lo28, hi28⟩ hlo28 hhi28 ⟨e28, f28⟩
 replace e28 : v28 = .slice (some ⟨lo28, 0, none⟩) 28 28 := e28; replace f28 : hi28 = lo28 + 1 := f28; replace hlo28 : _ ≤ lo28 := hlo28; subst e28; subst f28
 refine hK _ _ ?_; clear hK K
 refine stepK rfl (by kernel_rfl) (fun K hK => ?_); go_simp
 apply Exists.intro; apply And.intro; (focus (intro wk hk; go_simp; exact ⟨rfl, rfl⟩)); refine hK _ _ ?_; clear hK K
 refine stepN ?_
 refine hQ _ _ ?_
 intro w1 hT hG hF
 have hb1 := hT.below
 have r1 : Row w1 lo28 118 rsA := (hF 28 _ rfl rfl (by decide)).2
 replace r0 := r0.below hb1 r0.lt
 replace hl := hl.trans (hb1.mono hl.size)
 clear hT hG hF hQ QQ L hb1
 by_cases h1 : k < 1
 ·have e1 := Lib.hid (show shpOf k = shpZ from by unfold shpOf; rw [if_neg (by omega)])
  have e2 := Lib.hid (show okK k = false from by rw [okK_dec]; exact decide_eq_false (by omega))
  clear r1
  go_upto_region 3 with (fail)
  let L : List Sp := [sO 1 (w.heap.size) 118 [0] (fun g => aggOf g 0)]
  refine wp_region_six0 (shs L) (look6 L) (fun c => c = w.heap.size) (by kernel_rfl) (by kernel_rfl) (mk_St L [1] [1] (by kernel_rfl) (by kernel_rfl) ⟨ok_O aggOf_congr r0.lt (rfl), trivial⟩ (by simp)) ?_
  intro QQ hQ
  refine stepK rfl (by kernel_rfl) (fun K hK => ?_); go_simp
  apply Exists.intro; apply And.intro; (focus (intro wk hk; go_simp; exact ⟨rfl, rfl⟩)); refine hK _ _ ?_; clear hK K
  refine stepS _ rfl (by kernel_rfl) (fun K hK => ?_); go_simp
  refine ⟨?_, ?_⟩
  ·exact sStoreO rfl rfl rfl rfl rfl rfl r0 id (by kernel_rfl) rfl (by kernel_rfl) (by decide) aggOf_congr
  rintro ⟨v1, lo1, hi1⟩ - - (rfl : v1 = undef)
  refine hK _ _ ?_; clear hK K
  refine stepKz rfl (fun K hK => ?_); go_simp
  apply Exists.intro; apply And.intro; (focus (intro wk hk; go_simp; exact ⟨rfl, rfl⟩)); refine hK _ _ ?_; clear hK K
  refine stepN ?_
  refine hQ _ _ ?_
  intro w9 hT hG hF
  have x0 : Row w9 w.heap.size 118 (#[.int .i64 0, .bool false, .int .i64 0, .bool false, .int .i64 0, .bool false]) := hF 1 _ rfl rfl (by decide)
  have hl9 := Lib.hid (hl.trans (hT.below_of hl.size (by intro c hc; have hc' : c = w.heap.size := hc; omega)))
  clear hT hG hF hQ QQ L hl r0
  go_wp2_with fail
  refine bodyPost_ret (results_ct rfl aggT118 rfl x0 rfl) rfl ?_
  exact ⟨by rw [← HS.out.1, ← HS.out.2, e1.out, e2.out]; rfl, hl9.out⟩
 ·by_cases h2 : 28 < k
  ·have e1 := Lib.hid (show shpOf k = shpZ from by unfold shpOf; rw [if_neg (by omega)])
   have e2 := Lib.hid (show okK k = false from by rw [okK_dec]; exact decide_eq_false (by omega))
   clear r1
   go_upto_region 3 with (fail)
   let L : List Sp := [sO 1 (w.heap.size) 118 [0] (fun g => aggOf g 0)]
   refine wp_region_six0 (shs L) (look6 L) (fun c => c = w.heap.size) (by kernel_rfl) (by kernel_rfl) (mk_St L [1] [1] (by kernel_rfl) (by kernel_rfl) ⟨ok_O aggOf_congr r0.lt (rfl), trivial⟩ (by simp)) ?_
   intro QQ hQ
   refine stepK rfl (by kernel_rfl) (fun K hK => ?_); go_simp
   apply Exists.intro; apply And.intro; (focus (intro wk hk; go_simp; exact ⟨rfl, rfl⟩)); refine hK _ _ ?_; clear hK K
   refine stepS _ rfl (by kernel_rfl) (fun K hK => ?_); go_simp
   refine ⟨?_, ?_⟩
   ·exact sStoreO rfl rfl rfl rfl rfl rfl r0 id (by kernel_rfl) rfl (by kernel_rfl) (by decide) aggOf_congr
   rintro ⟨v1, lo1, hi1⟩ - - (rfl : v1 = undef)
   refine hK _ _ ?_; clear hK K
   refine stepKz rfl (fun K hK => ?_); go_simp
   apply Exists.intro; apply And.intro; (focus (intro wk hk; go_simp; exact ⟨rfl, rfl⟩)); refine hK _ _ ?_; clear hK K
   refine stepN ?_
   refine hQ _ _ ?_
   intro w9 hT hG hF
   have x0 : Row w9 w.heap.size 118 (#[.int .i64 0, .bool false, .int .i64 0, .bool false, .int .i64 0, .bool false]) := hF 1 _ rfl rfl (by decide)
   have hl9 := Lib.hid (hl.trans (hT.below_of hl.size (by intro c hc; have hc' : c = w.heap.size := hc; omega)))
   clear hT hG hF hQ QQ L hl r0
   go_wp2_with fail
   refine bodyPost_ret (results_ct rfl aggT118 rfl x0 rfl) rfl ?_
   exact ⟨by rw [← HS.out.1, ← HS.out.2, e1.out, e2.out]; rfl, hl9.out⟩
  ·obtain ⟨i, hi⟩ : ∃ i : Nat, k - 1 = (i : Int) := ⟨(k - 1).toNat, by omega⟩
   have e1 : shpOf k = shpL.getD i shpZ := by unfold shpOf; rw [if_pos (by omega), show (k - 1).toNat = i by omega]
   have e2 := Lib.hid (show okK k = true from by rw [okK_dec]; exact decide_eq_true (by omega))
   have hsub := rsA_at i (by omega)
   rw [← e1, HS.out.1] at hsub
   have hok := Lib.hid HS.out.2
   clear HS
   obtain ⟨sn, st, sa, se, sh, sc⟩ := S
   simp only [Shp.cs] at hsub
   have hw : IntKind.i64.wrap (i : Int) = (i : Int) := by rw [IntKind.wrap_i64]; omega
   have hw1 : IntKind.i64.wrap (k - 1) = (i : Int) := by rw [IntKind.wrap_i64]; omega
   have hlt : (i : Int) < 28 := by omega
   have hge : (0 : Int) ≤ (i : Int) := by omega
   clear e1
   go_upto_region 4 with (fail)
   let L : List Sp := [sO 5 (w.heap.size) 118 [4] (fun g => aggOf g 4)]
   refine wp_region_six0 (shs L) (look6 L) (fun c => c = w.heap.size) (by kernel_rfl) (by kernel_rfl) (mk_St L [5] [5] (by kernel_rfl) (by kernel_rfl) ⟨ok_O aggOf_congr r0.lt (rfl), trivial⟩ (by simp)) ?_
   intro QQ hQ
   iterate 4 (refine stepK rfl (by kernel_rfl) (fun K hK => ?_); go_simp; apply Exists.intro; apply And.intro; (focus (intro wk hk; go_simp; exact ⟨rfl, rfl⟩)); refine hK _ _ ?_; clear hK K)
   refine stepK rfl (by kernel_rfl) (fun K hK => ?_); go_simp
   apply Exists.intro; apply And.intro; (focus exact kLoadMid rfl rfl aggT118 r1 hsub rfl id); refine hK _ _ ?_; clear hK K
   refine stepS _ rfl (by kernel_rfl) (fun K hK => ?_); go_simp
   refine ⟨?_, ?_⟩
   ·exact sStoreO rfl rfl rfl rfl rfl rfl r0 id (by kernel_rfl) rfl (by kernel_rfl) (by decide) aggOf_congr
   rintro ⟨v5, lo5, hi5⟩ - - (rfl : v5 = undef)
   refine hK _ _ ?_; clear hK K
   refine stepKz rfl (fun K hK => ?_); go_simp
   apply Exists.intro; apply And.intro; (focus (intro wk hk; go_simp; exact ⟨rfl, rfl⟩)); refine hK _ _ ?_; clear hK K
   refine stepN ?_
   refine hQ _ _ ?_
   intro w9 hT hG hF
   have x0 : Row w9 w.heap.size 118 (#[.int .i64 sn, .bool st, .int .i64 sa, .bool se, .int .i64 sh, .bool sc]) := hF 5 _ rfl rfl (by decide)
   have hl9 := Lib.hid (hl.trans (hT.below_of hl.size (by intro c hc; have hc' : c = w.heap.size := hc; omega)))
   clear hT hG hF hQ QQ L hl r0 r1 hsub
   go_wp2_with fail
   refine bodyPost_ret (results_ct rfl aggT118 rfl x0 rfl) rfl ?_
   exact ⟨by rw [← hok.out, e2.out]; rfl, hl9.out⟩
end Go.Proofs.Ytpdenhmkpiafiaa
namespace Go.Proofs.Ytpdenhmkpiafiaa
open Go Go.RowKit K6
theorem Bs_row {w : World} {b t n : Nat} {ys : List Int} (h : Row w b t (bv ys).toArray) (hn : ys.length = n) : Bs w (.slice (some ⟨b, 0, none⟩) n n) ys := by
 subst hn
 refine ⟨_, _, rfl, (fun h => (by cases h)), fun a ha j u hj => ?_⟩
 cases ha
 rw [add_at, Nat.zero_add, h.cell]
 simpa using hj
set_option maxRecDepth 100000 in
set_option maxHeartbeats 8000000 in
theorem hash_put (u : Value) (xs hs : List Int) (w : World) (h : Bs w u xs) (hL0 : xs.length ≤ 10000000) (hh : hs.length = 32) :
  Calls Try.prog 42 #[u, .agg (bv hs).toArray] w fun e w' => ∃ v, e = .returned v ∧ Ob w' w.heap.size v (xs ++ hs) ∧ Below w.heap.size w w' := by
 have hL := Lib.hid (show xs.length ≤ 100000000 by omega)
 have hH := Lib.hid hh
 obtain ⟨z3, hz3e⟩ : ∃ z, xs ++ hs = z := ⟨_, rfl⟩
 have hz3 := Lib.hid hz3e
 have hfin := Lib.hid hz3e.symm
 clear hz3e
 have hb0 := h
 clear h hL0 hh
 go_enter Try.func42, Try.ntmps42
 apply wp_seq_eq
 focus
  intro J hJ
  go_wp2_with fail
  exact hJ
 refine wp_abs (Mem w [(w.heap.size, 35, (bv hs).toArray)]) ⟨by go_grown, Row.new_at rfl, trivial⟩ ?_
 intro w0 hM
 obtain ⟨hl, rh, -⟩ := hM
 have hb := hb0.below hl
 clear hb0
 go_upto_region 1 with (fail)
 let L : List Sp := [sQ 1 [] [] [] [3] w0.heap.size xs (fun _ => True), sQ 3 [1] [1] [1] [] w0.heap.size z3 (fun _ => True)]
 refine wp_region_six7 (shs L) (look6 L) (None_) (by kernel_rfl) (by kernel_rfl) (mk_St L [] [] (by kernel_rfl) (by kernel_rfl) ⟨ok_Q ⟨undef, trivial⟩ (by simp), ok_Q ⟨undef, trivial⟩ (by simp), trivial⟩ (by simp)) ?_
 intro QQ hQ
 refine stepK rfl (by kernel_rfl) (fun K hK => ?_); go_simp
 apply Exists.intro; apply And.intro; (focus (intro wk hk; go_simp; exact ⟨rfl, rfl⟩)); refine hK _ _ ?_; clear hK K
 refine stepS _ rfl (by kernel_rfl) (fun K hK => ?_); go_simp
 refine ⟨?_, ?_⟩
 ·intro wk hk hg hu; have hb9 := hb.below hk.undrew.below; go_simp; refine upon_enter ((clone_any u xs wk hb9 hL.out).mono ?_); rintro e w' ⟨v, rfl, ho, hbb⟩; exact ⟨_, rfl, left_Qc rfl rfl ho hbb hk.undrew.size trivial⟩
 rintro ⟨v1, lo1, hi1⟩ - - -
 refine hK _ _ ?_; clear hK K
 refine stepK rfl (by kernel_rfl) (fun K hK => ?_); go_simp
 apply Exists.intro; apply And.intro; (focus (intro wk hk; go_simp; exact ⟨rfl, rfl⟩)); refine hK _ _ ?_; clear hK K
 refine stepS _ rfl (by kernel_rfl) (fun K hK => ?_); go_simp
 refine ⟨?_, ?_⟩
 ·intro wk hk hg hu; have u1 := hu 1 (show 1 ∈ [1] by decide); have o1 : OwnF 1 [] w0.heap.size (xs) _ wk := u1; have p1 : Ob wk w0.heap.size v1 (xs) := o1.1; have s9 := (Bs_row (K6.Row.tr rh hk.undrew id) hH.out); obtain ⟨v', w', hrun, ho2, hgb, hw⟩ := append_run p1 s9 (by have := hL.out; have := hH.out; omega) hk.undrew.size; rw [run_append_op rfl rfl rfl hrun]; exact left_Qa rfl rfl (by decide) o1.2 hgb (by rw [← hz3.out]; exact ho2) hw trivial
 rintro ⟨v3, lo3, hi3⟩ - - -
 refine hK _ _ ?_; clear hK K
 refine stepK rfl (by kernel_rfl) (fun K hK => ?_); go_simp
 apply Exists.intro; apply And.intro; (focus (intro wk hk; go_simp; exact ⟨rfl, rfl⟩)); refine hK _ _ ?_; clear hK K
 refine stepN ?_
 refine hQ _ _ ?_
 intro w3 hT hG hF
 have hb3 := hT.undrew.below
 have o9 : OwnF 3 [1] w0.heap.size z3 _ w3 := hF 3 _ rfl rfl (by decide)
 have H := Lib.hid (show _ ∧ _ from ⟨(show Ob w3 w0.heap.size v3 z3 from o9.1).base hl.size, hl.trans (hb3.mono hl.size)⟩)
 clear hT hG hF hb3 hQ QQ L o9 hl hb
 go_wp2_with fail
 go_ret
 exact ⟨_, rfl, by rw [← hfin.out]; exact H.out.1, H.out.2⟩
end Go.Proofs.Ytpdenhmkpiafiaa
namespace Go.Proofs.Ytpdenhmkpiafiaa
open Go Go.RowKit K6
theorem bv_arr {x : List Int} (h : x.length = 32) : (bv x).toArray.size = 32 := by rw [List.size_toArray, bv_len]; exact h
theorem bv_arr_one (x : List Int) : (bv x).toArray.all (·.oneCell') = true := by rw [List.all_toArray]; exact bv_all x
theorem W4_one_ (a : Nat) : (W4 a).all (·.oneCell') = true := by kernel_rfl
theorem info35 {Y : Array Value} (h : Y.size = 32) : (Try.prog.info? 35).map (·.size) = some Y.size := by rw [h]; kernel_rfl
theorem info31 {Y : Array Value} (h : Y.size = 4) : (Try.prog.info? 31).map (·.size) = some Y.size := by rw [h]; kernel_rfl
theorem info198 {Y : Array Value} (h : Y.size = 7) : (Try.prog.info? 198).map (·.size) = some Y.size := by rw [h]; kernel_rfl
set_option maxRecDepth 100000 in
set_option maxHeartbeats 16000000 in
theorem putProof_at (u v : Value) (xs : List Int) (l : List (List Int)) (w : World) (hu : Bs w u xs) (hL : xs.length ≤ 4000000) (h : Hs w v l) (hh : ∀ x ∈ l, x.length = 32) (hm1 : l.length ≤ 1000) :
  Calls Try.prog 243 #[u, v] w fun e w' => ∃ x, e = .returned x ∧ Ob w' w.heap.size x (xs ++ prfB l) ∧ Below w.heap.size w w' := by
 have HC1 := Lib.hid (show _ ∧ _ from ⟨h, hh⟩)
 obtain ⟨q, c, rfl, -⟩ := h
 obtain ⟨m, hm⟩ : ∃ m, l.length = m := ⟨_, rfl⟩
 rw [hm] at HC1 hm1
 obtain ⟨P, hP⟩ : ∃ P, xs ++ enc m = P := ⟨_, rfl⟩
 have hPl1 := Lib.hid (show P.length ≤ 4100000 by rw [← hP, List.length_append]; have := enc_len9 (m := m) (by omega); omega)
 have hPe := Lib.hid (show P ++ l.flatMap (fun y : List Int => y) = xs ++ prfB l by unfold prfB; rw [← hP, hm, List.append_assoc])
 have kv := var_any u xs (m : Int) w hu (by omega) (by omega)
 rw [Int.toNat_natCast, hP] at kv
 replace kv := Lib.hid kv
 rw [hm]
 have HM1 := Lib.hid hm
 have hmi : (m : Int) ≤ 1000 := by omega
 obtain ⟨B, hB⟩ : ∃ B, w.heap.size = B := ⟨_, rfl⟩
 clear hu hL hP hh hm
 go_enter Try.func243, Try.ntmps243
 go_wp2_with fail
 refine kv.out.mono ?_
 rintro e w1 ⟨x1, rfl, ho, hb⟩
 rw [hB] at ho
 have H1 := Lib.hid (show _ ∧ _ from ⟨ho, hb⟩)
 clear kv ho hb
 go_wp2_with fail
 go_loopg [0, 13] m (fun gg s0 s13 wr => ∃ i : Nat, i + gg = m ∧ s13 = .int .i64 (i : Int) ∧ Hid (Ob wr B s0 (P ++ (l.take i).flatMap (fun y : List Int => y))) ∧ Hid (Below w.heap.size w wr))
 case atStart => exact ⟨0, by omega, rfl, Lib.hid (by rw [List.take_zero, List.flatMap_nil, List.append_nil]; exact H1.out.1), Lib.hid H1.out.2⟩
 case round =>
  clear H1
  obtain ⟨i1, him1, rfl, hob1, hinv1⟩ := hrel
  by_cases hi : i1 < m
  ·obtain ⟨x, hx⟩ : ∃ x, l[i1]? = some x := ⟨_, List.getElem?_eq_getElem (by have := HM1.out; omega)⟩
   obtain ⟨gx, ox, cx', hu, hgx, hcx⟩ := (HC1.out.1.below hinv1.out).get hx
   simp only [Value.slice.injEq] at hu
   obtain ⟨rfl, -, -⟩ := hu
   have hxl := HC1.out.2 x (List.mem_of_getElem? hx)
   have hst := flat_step (fun y : List Int => y) hx P
   obtain ⟨Y0, hY0⟩ : ∃ Z, P ++ (l.take i1).flatMap (fun y : List Int => y) = Z := ⟨_, rfl⟩
   obtain ⟨Z1, hZ1⟩ : ∃ Z, P ++ (l.take (i1 + 1)).flatMap (fun y : List Int => y) = Z := ⟨_, rfl⟩
   have hy0 : Y0.length ≤ 5000000 := by
    rw [← hY0, List.length_append]
    have h1 := flat_le (f := (fun y : List Int => y)) (c := 32) (l := l.take i1) (fun y hy => Nat.le_of_eq (HC1.out.2 y (List.mem_of_mem_take hy)))
    rw [List.length_take] at h1
    have h2 := hPl1.out
    omega
   rw [hY0] at hob1 hst
   rw [hZ1] at hst
   have k4 := fun wx vx (h : Bs wx vx Y0) => hash_put vx Y0 x wx h (by omega) hxl
   have hst2 := hst
   rw [hst2] at k4
   obtain ⟨Y, hY⟩ : ∃ Y, (bv x).toArray = Y := ⟨_, rfl⟩
   have hYsz := bv_arr hxl
   have hYone := bv_arr_one x
   replace hcx : ∀ j v, ((bv x).toArray).toList[j]? = some v → wr.cell? ⟨gx, ox + i1 * 32 + j, none⟩ = some v := hcx
   rw [hY] at k4 hYsz hYone hcx
   have hinf := info35 hYsz
   replace k4 := Lib.hid k4
   replace hZ1 := Lib.hid hZ1
   clear hx hY0 hst hst2 hy0 hxl hY
   have hlt : (i1 : Int) < (m : Int) := by omega
   have hBr : B ≤ wr.heap.size := by have := hinv1.out.size; omega
   go_upto_region 4 with (fail)
   let L : List Sp := [sA 2 35 [3] zr32, sT 3 2 35 [1] (fun g => aggOf g 1)]
   refine wp_region_six0 (shs L) (look6 L) (None_) (by kernel_rfl) (by kernel_rfl) (mk_St L [] [] (by kernel_rfl) (by kernel_rfl) ⟨ok_A, ok_T aggOf_congr, trivial⟩ (by simp)) ?_
   intro QQ hQ
   refine stepK rfl (by kernel_rfl) (fun K hK => ?_); go_simp
   apply Exists.intro; apply And.intro; (focus (intro wk hk; go_simp; exact ⟨rfl, rfl⟩)); refine hK _ _ ?_; clear hK K
   refine stepK rfl (by kernel_rfl) (fun K hK => ?_); go_simp
   apply Exists.intro; apply And.intro; (focus exact kLoadA rfl rfl aggR35 hcx hYsz hgx id); refine hK _ _ ?_; clear hK K
   refine stepS _ rfl (by kernel_rfl) (fun K hK => ?_); go_simp
   refine ⟨?_, ?_⟩
   ·intro wk hk hg hu; go_simp; exact left_A rfl rfl
   rintro ⟨v2, lo2, hi2⟩ hlo2 hhi2 ⟨e2, f2⟩
   replace e2 : v2 = .pointer (some ⟨lo2, 0, none⟩) := e2; replace f2 : hi2 = lo2 + 1 := f2; replace hlo2 : _ ≤ lo2 := hlo2; subst e2; subst f2
   refine hK _ _ ?_; clear hK K
   refine stepS _ rfl (by kernel_rfl) (fun K hK => ?_); go_simp
   refine ⟨?_, ?_⟩
   ·exact sStoreT rfl rfl rfl rfl rfl rfl rfl hinf hYsz.symm hYone (by decide) aggOf_congr
   rintro ⟨v3, lo3, hi3⟩ - - (rfl : v3 = undef)
   refine hK _ _ ?_; clear hK K
   refine stepN ?_
   refine hQ _ _ ?_
   intro w4 hT hG hF
   have hbw4 := hT.below
   have rY : Row w4 lo2 35 Y := (hF 3 _ rfl rfl (by decide)).2
   clear hT hG hF hQ QQ L hcx hgx
   have ob4 := hob1.out.below hbw4
   have hl4 := Lib.hid (hinv1.out.trans (hbw4.mono hinv1.out.size))
   have hs4 := hbw4.size
   have hB4 : B ≤ w4.heap.size := by omega
   clear hob1 hinv1 hbw4 hYone hinf hs4
   go_upto_region 5 with (fail)
   let L : List Sp := [sF 2 [] [] [] (fun _ => True) (fun x w => Ob w B x.v Z1)]
   refine wp_region_six0 (shs L) (look6 L) (None_) (by kernel_rfl) (by kernel_rfl) (mk_St L [] [] (by kernel_rfl) (by kernel_rfl) ⟨ok_F (any_some _) (fun _ _ _ h hb => Ob.below h hb), trivial⟩ (by simp)) ?_
   intro QQ hQ
   refine stepK rfl (by kernel_rfl) (fun K hK => ?_); go_simp
   apply Exists.intro; apply And.intro; (focus (intro wk hk; go_simp; exact ⟨rfl, rfl⟩)); refine hK _ _ ?_; clear hK K
   refine stepK rfl (by kernel_rfl) (fun K hK => ?_); go_simp
   apply Exists.intro; apply And.intro; (focus exact kLoad rfl rfl aggR35 rY hYsz id); refine hK _ _ ?_; clear hK K
   refine stepS _ rfl (by kernel_rfl) (fun K hK => ?_); go_simp
   refine ⟨?_, ?_⟩
   ·intro wk hk hg hu; go_simp; refine upon_enter ((k4.out _ u0 (ob4.below hk.below).bs).mono ?_); rintro e w' ⟨v, rfl, hv, hb9⟩; exact ⟨_, rfl, left_F rfl rfl hb9 trivial (hv.base (by have := hk.size; omega))⟩
   rintro ⟨v2, lo2, hi2⟩ - - -
   refine hK _ _ ?_; clear hK K
   refine stepK rfl (by kernel_rfl) (fun K hK => ?_); go_simp
   apply Exists.intro; apply And.intro; (focus (intro wk hk; go_simp; exact ⟨rfl, rfl⟩)); refine hK _ _ ?_; clear hK K
   refine stepN ?_
   refine hQ _ _ ?_
   intro w5 hT hG hF
   have o5 : Ob w5 B v2 Z1 := hF 2 _ rfl rfl (by decide)
   have hb5 := hT.below
   have H5 := Lib.hid (show Ob w5 B v2 (P ++ (l.take (i1 + 1)).flatMap (fun y : List Int => y)) ∧ Below w.heap.size w w5 from ⟨by rw [hZ1.out]; exact o5, hl4.out.trans (hb5.mono hl4.out.size)⟩)
   clear hT hG hF hQ QQ L k4 ob4 rY o5 hb5 hl4 hYsz hZ1
   go_wp2_with fail
   go_roundg (gk - 1)
   case measure => omega
   case rel => exact ⟨i1 + 1, by omega, by go_num, Lib.hid H5.out.1, Lib.hid H5.out.2⟩
  ·obtain rfl : i1 = m := by omega
   have hlt : ¬ (i1 : Int) < (i1 : Int) := by omega
   rw [List.take_of_length_le (by have := HM1.out; omega)] at hob1
   go_wp2_with fail
   go_ret
   exact ⟨_, rfl, by rw [← hPe.out]; exact hob1.out, by first | exact hinv1.out | (rw [hB]; exact hinv1.out) | (rw [← hB]; exact hinv1.out)⟩
end Go.Proofs.Ytpdenhmkpiafiaa
namespace Go.Proofs.Ytpdenhmkpiafiaa
open Go Go.RowKit K6 Ref
namespace Ref
theorem len_lt {a b : Nat} (h : (digs a).length < (digs b).length) : a < b := by
 have h1 : a < B ^ (digs a).length := by
  have := val_lt (dig_digs a)
  rwa [val_digs] at this
 refine Nat.lt_of_not_le fun h2 => ?_
 have := digs_len (Nat.lt_of_le_of_lt h2 h1)
 omega
theorem val_split {xs : List Nat} {j : Nat} (h : j < xs.length) : val xs = val (xs.take j) + B ^ j * (dg xs j + B * val (xs.drop (j + 1))) := by
 conv => lhs; rw [← List.take_append_drop j xs, List.drop_eq_getElem_cons h]
 rw [val_append, List.length_take, Nat.min_eq_left (Nat.le_of_lt h)]
 congr 2
 show xs[j] + _ = _
 congr 1
 have := dg_some h
 rw [List.getElem?_eq_getElem h] at this
 exact Option.some.inj this
theorem take_lt {xs : List Nat} (h : Dig xs) (j : Nat) (hj : j ≤ xs.length) : val (xs.take j) < B ^ j := by
 have := val_lt (xs := xs.take j) (fun x hx => h x (List.mem_of_mem_take hx))
 rwa [List.length_take, Nat.min_eq_left hj] at this
theorem dig_lt {xs ys : List Nat} {j : Nat} (hx : Dig xs) (hjx : j < xs.length) (hjy : j < ys.length) (hd : xs.drop (j + 1) = ys.drop (j + 1)) (hl : dg xs j < dg ys j) : val xs < val ys := by
 rw [val_split hjx, val_split hjy, hd]
 have h1 := take_lt hx j (Nat.le_of_lt hjx)
 have h2 : B ^ j * (dg xs j + B * val (ys.drop (j + 1)) + 1) ≤ B ^ j * (dg ys j + B * val (ys.drop (j + 1))) := Nat.mul_le_mul_left _ (by omega)
 rw [Nat.mul_add, Nat.mul_one] at h2
 omega
theorem drop_step {xs ys : List Nat} {j : Nat} (hjx : j < xs.length) (hjy : j < ys.length) (hd : xs.drop (j + 1) = ys.drop (j + 1)) (he : dg xs j = dg ys j) : xs.drop j = ys.drop j := by
 have h1 := dg_some hjx
 have h2 := dg_some hjy
 rw [List.getElem?_eq_getElem hjx] at h1
 rw [List.getElem?_eq_getElem hjy] at h2
 rw [List.drop_eq_getElem_cons hjx, List.drop_eq_getElem_cons hjy, hd, Option.some.inj h1, Option.some.inj h2, he]
end Ref
theorem Sl.cell {w : World} {g o n c : Nat} {xs : List Nat} (h : Sl w (.slice (some ⟨g, o, none⟩) n c) xs) {i : Nat} (hi : i < xs.length) : g < w.heap.size ∧ w.cell? ⟨g, o + i, none⟩ = some (.int .u32 ((dg xs i : Nat) : Int)) := by
 obtain ⟨r, c', e, hc, h0, h1⟩ := h
 cases e
 obtain ⟨g', o', e', hg, hi'⟩ := h1 _ rfl
 cases e'
 exact ⟨hg, hi' i hi⟩
theorem Sl.addr {w : World} {v : Value} {xs : List Nat} (h : Sl w v xs) (h0 : 0 < xs.length) : ∃ g o c, v = .slice (some ⟨g, o, none⟩) xs.length c := by
 obtain ⟨r, c, rfl, hc, hr, h1⟩ := h
 cases r with
 | none => exfalso; have := hr rfl; omega
 | some a => obtain ⟨g, o, rfl, _⟩ := h1 a rfl; exact ⟨g, o, c, rfl⟩
theorem Sl.addr' {w : World} {r : Option Addr} {n c : Nat} {xs : List Nat} (h : Sl w (.slice r n c) xs) (h0 : 0 < xs.length) : ∃ g o, r = some ⟨g, o, none⟩ := by
 obtain ⟨g, o, c', e⟩ := h.addr h0
 exact ⟨g, o, by cases e; rfl⟩
set_option maxRecDepth 100000 in
set_option maxHeartbeats 4000000 in
theorem natcmp_any (v u : Value) (xs ys : List Nat) (w : World) (hx : Dig xs) (hy : Dig ys) (sv : Sl w v xs) (su : Sl w u ys) (lx : xs.length < 1099511627776) (ly : ys.length < 1099511627776) :
  Calls Try.prog 173 #[v, u] w fun e w' => e = .returned (.int .i64 (cmpN (val xs) (val ys))) ∧ Below w.heap.size w w' := by
 have lp : (digs (val xs)).length < 1099511627776 := Nat.lt_of_le_of_lt (digs_len (val_lt hx)) lx
 have lq : (digs (val ys)).length < 1099511627776 := Nat.lt_of_le_of_lt (digs_len (val_lt hy)) ly
 have HT := trim_any v xs w hx sv lx
 have HU := trim_any u ys w hy su ly
 clear sv su lx ly hx hy
 obtain ⟨a, ha⟩ : ∃ a, a = val xs := ⟨_, rfl⟩
 obtain ⟨b, hb⟩ : ∃ b, b = val ys := ⟨_, rfl⟩
 rw [← ha] at HT lp ⊢
 rw [← hb] at HU lq ⊢
 clear ha hb
 replace HT := Lib.hid HT
 replace HU := Lib.hid HU
 go_enter Try.func173, Try.ntmps173
 go_wp2_with fail
 refine HT.out.mono ?_
 rintro e w1 ⟨rfl, v1, rfl, s1⟩
 go_wp2_with fail
 refine HU.out.mono ?_
 rintro e w2 ⟨rfl, u1, rfl, s2⟩
 clear HT HU
 obtain ⟨r1, c1, e1, k1, -, -⟩ := id s1
 obtain ⟨r2, c2, e2, k2, -, -⟩ := id s2
 have dx := dig_digs a
 have dy := dig_digs b
 have va := val_digs a
 have vb := val_digs b
 have lt1 := @len_lt a b
 have lt2 := @len_lt b a
 generalize digs a = p at *
 generalize digs b = q at *
 subst e1
 subst e2
 obtain ⟨n, hn⟩ : ∃ n, p.length = n := ⟨_, rfl⟩
 obtain ⟨m, hm⟩ : ∃ m, q.length = m := ⟨_, rfl⟩
 rw [hn] at s1 lp k1 lt1 lt2 ⊢
 rw [hm] at s2 lq k2 lt1 lt2 ⊢
 by_cases hl1 : n < m
 ·have hv : cmpN a b = -1 := by unfold cmpN; rw [if_pos (lt1 hl1)]
  replace hv := Lib.hid hv
  have g1 : ((n : Int) != (m : Int)) = true := by simp; omega
  have g2 : ((n : Int) < (m : Int)) := by omega
  clear va vb dx dy lt1 lt2 s1 s2
  go_wp2_with fail
  go_ret
  exact ⟨by rw [hv.out]; rfl, Below.refl _ _⟩
 by_cases hl2 : m < n
 ·have hv : cmpN a b = 1 := by have := lt2 hl2; unfold cmpN; rw [if_neg (by omega), if_pos this]
  replace hv := Lib.hid hv
  have g1 : ((n : Int) != (m : Int)) = true := by simp; omega
  have g2 : ¬ ((n : Int) < (m : Int)) := by omega
  clear va vb dx dy lt1 lt2 s1 s2
  go_wp2_with fail
  go_ret
  exact ⟨by rw [hv.out]; rfl, Below.refl _ _⟩
 obtain rfl : m = n := by omega
 have S := Lib.hid (show _ ∧ _ ∧ _ ∧ _ ∧ _ ∧ _ from ⟨dx, dy, va, vb, s1, s2⟩)
 clear dx dy va vb s1 s2 lt1 lt2
 go_wp2_with fail
 go_loopg [5] m (fun gg s5 wr => gg ≤ m ∧ s5 = .int .i64 ((gg : Int) - 1) ∧ Below w2.heap.size w2 wr ∧ p.drop gg = q.drop gg)
 case atStart => exact ⟨Nat.le_refl _, rfl, Below.refl _ _, by rw [List.drop_eq_nil_of_le (by omega), List.drop_eq_nil_of_le (by omega)]⟩
 case round =>
  obtain ⟨hk, rfl, hl, hd⟩ := hrel
  rcases Nat.eq_zero_or_pos gk with h0 | h0
  ·subst h0
   have hv : cmpN a b = 0 := by
    have e : p = q := by simpa using hd
    have : a = b := by rw [← S.out.2.2.1, ← S.out.2.2.2.1, e]
    unfold cmpN; rw [if_neg (by omega), if_neg (by omega)]
   replace hv := Lib.hid hv
   clear hd
   go_wp2_with fail
   go_ret
   exact ⟨by rw [hv.out]; rfl, hl⟩
  ·obtain ⟨g, o, rfl⟩ := S.out.2.2.2.2.1.addr' (by omega)
   obtain ⟨g', o', rfl⟩ := S.out.2.2.2.2.2.addr' (by omega)
   obtain ⟨j, rfl⟩ : ∃ j, gk = j + 1 := ⟨gk - 1, by omega⟩
   have c1j := S.out.2.2.2.2.1.cell (i := j) (by omega)
   have c2j := S.out.2.2.2.2.2.cell (i := j) (by omega)
   have e1 : ((j : Int) + 1) - 1 = (j : Int) := by omega
   have hI : (j : Int) < (m : Int) := by omega
   have HD := Lib.hid hd
   clear hd
   obtain ⟨x, hx⟩ : ∃ x, dg p j = x := ⟨_, rfl⟩
   obtain ⟨y, hy⟩ : ∃ y, dg q j = y := ⟨_, rfl⟩
   rw [hx] at c1j
   rw [hy] at c2j
   replace c1j := And.intro c1j.1 (((bcell hl).1 g (o + j) c1j.1).trans c1j.2)
   replace c2j := And.intro c2j.1 (((bcell hl).1 g' (o' + j) c2j.1).trans c2j.2)
   have hg1 : g < wr.heap.size := Nat.lt_of_lt_of_le c1j.1 hl.size
   have hg2 : g' < wr.heap.size := Nat.lt_of_lt_of_le c2j.1 hl.size
   replace c1j := c1j.2
   replace c2j := c2j.2
   have fin : (x = y → p.drop j = q.drop j) ∧ (x < y → cmpN a b = -1) ∧ (y < x → cmpN a b = 1) := by
    refine ⟨fun h => drop_step (by omega) (by omega) HD.out (by rw [hx, hy, h]), fun h => ?_, fun h => ?_⟩
    ·have := dig_lt S.out.1 (by omega) (by omega) HD.out (by rw [hx, hy]; exact h)
     rw [S.out.2.2.1, S.out.2.2.2.1] at this
     unfold cmpN; rw [if_pos this]
    ·have := dig_lt S.out.2.1 (by omega) (by omega) HD.out.symm (by rw [hx, hy]; exact h)
     rw [S.out.2.2.1, S.out.2.2.2.1] at this
     unfold cmpN; rw [if_neg (by omega), if_pos this]
   have HF := Lib.hid fin
   clear fin hx hy HD
   go_upto_region 9 with (fail)
   refine wp_abs (fun w5 => Below w2.heap.size w2 w5 ∧ g < w5.heap.size ∧ g' < w5.heap.size ∧ w5.cell? ⟨g, o + j, none⟩ = some (.int .u32 ((x : Nat) : Int)) ∧ w5.cell? ⟨g', o' + j, none⟩ = some (.int .u32 ((y : Nat) : Int))) ⟨hl, hg1, hg2, c1j, c2j⟩ ?_
   clear hl hg1 hg2 c1j c2j
   rintro w5 ⟨hl, hg1, hg2, c1j, c2j⟩
   let L : List Sp := []
   refine wp_region_six (shs L) (look6 L) (None_) (by kernel_rfl) (by kernel_rfl) (mk_St L [] [] (by kernel_rfl) (by kernel_rfl) trivial (by simp)) ?_
   intro QQ hQ
   iterate 3 (refine stepK rfl (by kernel_rfl) (fun K hK => ?_); go_simp; apply Exists.intro; apply And.intro; (focus (intro wk hk; go_simp; exact ⟨rfl, rfl⟩)); refine hK _ _ ?_; clear hK K)
   refine stepK rfl (by kernel_rfl) (fun K hK => ?_); go_simp
   apply Exists.intro; apply And.intro; (focus (intro wk hk; have cc := ((bcell hk.undrew.below).1 g (o + j) hg1).trans c1j; go_simp; exact ⟨rfl, rfl⟩)); refine hK _ _ ?_; clear hK K
   iterate 3 (refine stepK rfl (by kernel_rfl) (fun K hK => ?_); go_simp; apply Exists.intro; apply And.intro; (focus (intro wk hk; go_simp; exact ⟨rfl, rfl⟩)); refine hK _ _ ?_; clear hK K)
   refine stepK rfl (by kernel_rfl) (fun K hK => ?_); go_simp
   apply Exists.intro; apply And.intro; (focus (intro wk hk; have cc := ((bcell hk.undrew.below).1 g' (o' + j) hg2).trans c2j; go_simp; exact ⟨rfl, rfl⟩)); refine hK _ _ ?_; clear hK K
   refine stepK rfl (by kernel_rfl) (fun K hK => ?_); go_simp
   apply Exists.intro; apply And.intro; (focus (intro wk hk; go_simp; exact ⟨rfl, rfl⟩)); refine hK _ _ ?_; clear hK K
   refine stepN ?_
   refine hQ _ _ ?_
   intro w6 hT hG hF
   have hb6 := hT.undrew.below
   replace c1j := ((bcell hb6).1 g (o + j) hg1).trans c1j
   replace c2j := ((bcell hb6).1 g' (o' + j) hg2).trans c2j
   replace hg1 := Nat.lt_of_lt_of_le hg1 hb6.size
   replace hg2 := Nat.lt_of_lt_of_le hg2 hb6.size
   replace hl := hl.trans (hb6.mono hl.size)
   clear hT hG hF hQ QQ L hb6
   by_cases hz : x = y
   ·have hF := HF.out.1 hz
    subst hz
    have HG := Lib.hid hF
    clear hF HF
    go_wp2_with fail
    go_roundg j
    case measure => omega
    case rel => exact ⟨by omega, rfl, hl, HG.out⟩
   ·have hz' : ((x : Int) != (y : Int)) = true := by simp; omega
    go_upto_region 10 with (fail)
    let L : List Sp := []
    refine wp_region_six (shs L) (look6 L) (None_) (by kernel_rfl) (by kernel_rfl) (mk_St L [] [] (by kernel_rfl) (by kernel_rfl) trivial (by simp)) ?_
    intro QQ hQ
    iterate 3 (refine stepK rfl (by kernel_rfl) (fun K hK => ?_); go_simp; apply Exists.intro; apply And.intro; (focus (intro wk hk; go_simp; exact ⟨rfl, rfl⟩)); refine hK _ _ ?_; clear hK K)
    refine stepK rfl (by kernel_rfl) (fun K hK => ?_); go_simp
    apply Exists.intro; apply And.intro; (focus (intro wk hk; have cc := ((bcell hk.undrew.below).1 g (o + j) hg1).trans c1j; go_simp; exact ⟨rfl, rfl⟩)); refine hK _ _ ?_; clear hK K
    iterate 3 (refine stepK rfl (by kernel_rfl) (fun K hK => ?_); go_simp; apply Exists.intro; apply And.intro; (focus (intro wk hk; go_simp; exact ⟨rfl, rfl⟩)); refine hK _ _ ?_; clear hK K)
    refine stepK rfl (by kernel_rfl) (fun K hK => ?_); go_simp
    apply Exists.intro; apply And.intro; (focus (intro wk hk; have cc := ((bcell hk.undrew.below).1 g' (o' + j) hg2).trans c2j; go_simp; exact ⟨rfl, rfl⟩)); refine hK _ _ ?_; clear hK K
    refine stepK rfl (by kernel_rfl) (fun K hK => ?_); go_simp
    apply Exists.intro; apply And.intro; (focus (intro wk hk; go_simp; exact ⟨rfl, rfl⟩)); refine hK _ _ ?_; clear hK K
    refine stepN ?_
    refine hQ _ _ ?_
    intro w7 hT hG hF
    have hb7 := hT.undrew.below
    replace hl := hl.trans (hb7.mono hl.size)
    clear hT hG hF hQ QQ L hb7
    by_cases hlt : x < y
    ·have hv := HF.out.2.1 hlt
     replace hv := Lib.hid hv
     have g2 : ((x : Int) < (y : Int)) := by omega
     clear HF
     go_wp2_with fail
     go_ret
     exact ⟨by rw [hv.out]; rfl, hl⟩
    ·have hv := HF.out.2.2 (by omega)
     replace hv := Lib.hid hv
     have g2 : ¬ ((x : Int) < (y : Int)) := by omega
     clear HF
     go_wp2_with fail
     go_ret
     exact ⟨by rw [hv.out]; rfl, hl⟩
theorem M_B : M = B ^ 8 := by unfold M; decide
theorem len8 {a : Nat} (ha : a < M) : (digs a).length < 1099511627776 := Nat.lt_of_le_of_lt (digs_len (k := 8) (Nat.lt_of_lt_of_eq ha M_B)) (by omega)
set_option maxRecDepth 100000 in
set_option maxHeartbeats 4000000 in
theorem refcmpU {a b : Nat} (ha : a < M) (hb : b < M) (w : World) : Calls Try.prog 57 #[.agg (W4 a), .agg (W4 b)] w (Ret w (.int .i64 (cmpN a b))) := by
 have hc : ∀ wx v u, Sl wx v (digs a) → Sl wx u (digs b) → Calls Try.prog 173 #[v, u] wx (Ret wx (.int .i64 (cmpN a b))) := fun wx v u s1 s2 => by
  have := natcmp_any v u _ _ wx (dig_digs a) (dig_digs b) s1 s2 (len8 ha) (len8 hb)
  rw [val_digs, val_digs] at this
  exact this
 go_enter Try.func57, Try.ntmps57
 apply wp_seq_eq
 focus
  intro J hJ
  go_wp2_with fail
  exact hJ
 refine wp_abs (Mem w [(w.heap.size, 31, W4 a), (w.heap.size + 1, 31, W4 b)]) ⟨by go_grown, ?_, ?_, trivial⟩ ?_
 ·repeat (first | (refine Row.new_at ?_; simp; done) | refine Row.alloc ?_ _)
 ·repeat (first | (refine Row.new_at ?_; simp; done) | refine Row.alloc ?_ _)
 intro w0 hM
 obtain ⟨hl, ra, rb, -⟩ := hM
 go_upto_region 1 with (fail)
 let L : List Sp := [sF 1 [] [] [] (fun _ => True) (fun x w => Sl w x.v (digs (a))), sF 3 [] [] [] (fun _ => True) (fun x w => Sl w x.v (digs (b))), sV 4 [1, 3] [1, 3] (fun u => u = .int .i64 (cmpN a b))]
 refine wp_region_six (shs L) (look6 L) (None_) (by kernel_rfl) (by kernel_rfl) (mk_St L [] [] (by kernel_rfl) (by kernel_rfl) ⟨ok_F (any_some _) (fun _ _ _ h hb => Sl.below h hb), ok_F (any_some _) (fun _ _ _ h hb => Sl.below h hb), ok_V ⟨_, rfl⟩, trivial⟩ (by simp)) ?_
 intro QQ hQ
 refine stepK rfl (by kernel_rfl) (fun K hK => ?_); go_simp
 apply Exists.intro; apply And.intro; (focus exact kLoad rfl rfl aggT31 ra rfl id); refine hK _ _ ?_; clear hK K
 refine stepS _ rfl (by kernel_rfl) (fun K hK => ?_); go_simp
 refine ⟨?_, ?_⟩
 ·intro wk hk hg hu; go_simp; refine upon_enter ((of164 a ha _).mono ?_); rintro e w' ⟨v, rfl, hv, hb⟩; exact ⟨_, rfl, left_F rfl rfl hb trivial hv⟩
 rintro ⟨v1, lo1, hi1⟩ - - -
 refine hK _ _ ?_; clear hK K
 refine stepK rfl (by kernel_rfl) (fun K hK => ?_); go_simp
 apply Exists.intro; apply And.intro; (focus exact kLoad rfl rfl aggT31 rb rfl id); refine hK _ _ ?_; clear hK K
 refine stepS _ rfl (by kernel_rfl) (fun K hK => ?_); go_simp
 refine ⟨?_, ?_⟩
 ·intro wk hk hg hu; go_simp; refine upon_enter ((of164 b hb _).mono ?_); rintro e w' ⟨v, rfl, hv, hb⟩; exact ⟨_, rfl, left_F rfl rfl hb trivial hv⟩
 rintro ⟨v3, lo3, hi3⟩ - - -
 refine hK _ _ ?_; clear hK K
 refine stepS _ rfl (by kernel_rfl) (fun K hK => ?_); go_simp
 refine ⟨?_, ?_⟩
 ·intro wk hk hg hu; have u1 := hu 1 (show 1 ∈ [1, 3] by decide); have u3 := hu 3 (show 3 ∈ [1, 3] by decide); have s1 : Sl wk v1 (digs a) := u1; have s3 : Sl wk v3 (digs b) := u3; go_simp; refine upon_enter ((hc _ v1 v3 s1 s3).mono ?_); rintro e w' ⟨rfl, hb⟩; exact ⟨_, rfl, left_V (p := fun u => u = .int .i64 (cmpN a b)) rfl (hb) rfl⟩
 rintro ⟨v4, lo4, hi4⟩ - - (rfl : v4 = _)
 refine hK _ _ ?_; clear hK K
 refine stepK rfl (by kernel_rfl) (fun K hK => ?_); go_simp
 apply Exists.intro; apply And.intro; (focus (intro wk hk; go_simp; exact ⟨rfl, rfl⟩)); refine hK _ _ ?_; clear hK K
 refine stepN ?_
 refine hQ _ _ ?_
 intro w1 hT hG hF
 have hbw1 := hT.undrew.below
 replace hl := hl.trans (hbw1.mono hl.size)
 clear hT hG hF hbw1 hQ QQ L 
 go_wp2_with fail
 go_ret
 exact ⟨rfl, hl⟩
end Go.Proofs.Ytpdenhmkpiafiaa
namespace Go.Proofs.Ytpdenhmkpiafiaa
open Go Go.RowKit K6
theorem cmpN_le {a b : Nat} (h : a ≤ b) : cmpN a b ≤ 0 := by unfold cmpN; split <;> (try split) <;> omega
theorem cmpN_gt {a b : Nat} (h : b < a) : 0 < cmpN a b := by unfold cmpN; rw [if_neg (by omega), if_pos h]; omega
def M3 : Nat := 340282366920938463463374607431768211455
theorem M3_lt : M3 < M := by unfold M3 M; omega
theorem W4_M3 : #[Value.int .u64 18446744073709551615, .int .u64 18446744073709551615, .int .u64 0, .int .u64 0] = W4 M3 := by
 unfold W4
 rw [show wordsOf M3 0 = 18446744073709551615 by decide, show wordsOf M3 1 = 18446744073709551615 by decide, show wordsOf M3 2 = 0 by decide, show wordsOf M3 3 = 0 by decide]
theorem amt_M3 (a : Nat) : decide (a < M2) = decide (cmpN a M3 ≤ 0) := by
 congr 1
 refine propext ⟨fun h => cmpN_le (by unfold M2 at h; unfold M3; omega), fun h => ?_⟩
 refine Nat.lt_of_not_le fun h1 => ?_
 have := cmpN_gt (a := a) (b := M3) (by unfold M2 at h1; unfold M3; omega)
 omega
set_option maxRecDepth 100000 in
set_option maxHeartbeats 16000000 in
theorem refMostU (w : World) : Calls Try.prog 130 #[] w (Ret w (.agg (W4 M3))) := by
 go_enter Try.func130, Try.ntmps130
 apply wp_seq_eq
 focus
  intro J hJ
  go_wp2_with fail
  exact hJ
 refine wp_abs (Mem w [(w.heap.size, 31, arr .u64 (fun _ => 0) 4)]) ⟨by go_grown, ?_, trivial⟩ ?_
 ·repeat (first | (refine Row.new_at ?_; simp; done) | refine Row.alloc ?_ _)
 intro w0 hM
 obtain ⟨hl, r0, -⟩ := hM
 go_upto_region 1 with (fail)
 let L : List Sp := [sO 1 (w.heap.size) 31 [0] (fun g => aggOf g 0)]
 refine wp_region_six0 (shs L) (look6 L) (fun c => c = w.heap.size) (by kernel_rfl) (by kernel_rfl) (mk_St L [1] [1] (by kernel_rfl) (by kernel_rfl) ⟨ok_O aggOf_congr r0.lt (rfl), trivial⟩ (by simp)) ?_
 intro QQ hQ
 refine stepK rfl (by kernel_rfl) (fun K hK => ?_); go_simp
 apply Exists.intro; apply And.intro; (focus (intro wk hk; go_simp; exact ⟨rfl, rfl⟩)); refine hK _ _ ?_; clear hK K
 refine stepS _ rfl (by kernel_rfl) (fun K hK => ?_); go_simp
 refine ⟨?_, ?_⟩
 ·exact sStoreO rfl rfl rfl rfl rfl rfl r0 id (by kernel_rfl) rfl (by kernel_rfl) (by decide) aggOf_congr
 rintro ⟨v1, lo1, hi1⟩ - - (rfl : v1 = undef)
 refine hK _ _ ?_; clear hK K
 refine stepN ?_
 refine hQ _ _ ?_
 intro w1 hT hG hF
 have hT' := hT
 have xr0 : Row w1 (w.heap.size) 31 (#[.int .u64 18446744073709551615, .int .u64 18446744073709551615, .int .u64 0, .int .u64 0]) := hF 1 _ rfl rfl (by decide)
 have hl9 : Below w.heap.size w w1 := hl.trans (hT'.below_of hl.size (by intro c hc; omega))
 clear hT hT' hG hF hQ QQ L hl r0
 have hl := hl9; clear hl9
 have r0 := xr0; clear xr0
 replace r0 := Row.congr r0 W4_M3
 go_wp2_with fail
 refine bodyPost_ret (results_c rfl aggT31 rfl r0 rfl) rfl ?_
 exact ⟨rfl, hl⟩
set_option maxRecDepth 100000 in
set_option maxHeartbeats 16000000 in
theorem refAmountU {a : Nat} (ha : a < M) (w : World) : Calls Try.prog 126 #[.agg (W4 a)] w (Ret w (.bool (decide (a < M2)))) := by
 have hh0 := amt_M3 a
 obtain ⟨c, hc⟩ : ∃ c, c = cmpN a M3 := ⟨_, rfl⟩
 rw [← hc] at hh0
 have hh := Lib.hid hh0
 clear hh0
 have k0 := Lib.hid (show ∀ wx, Calls Try.prog 130 #[] wx (Ret wx (.agg (W4 M3))) from fun wx => by have h := refMostU  wx; exact h)
 have k1 := Lib.hid (show ∀ wx, Calls Try.prog 57 #[.agg (W4 a), .agg (W4 M3)] wx (Ret wx (.int .i64 c)) from fun wx => by have h := refcmpU ha M3_lt wx; rw [← hc] at h; exact h)
 clear hc
 go_enter Try.func126, Try.ntmps126
 apply wp_seq_eq
 focus
  intro J hJ
  go_wp2_with fail
  exact hJ
 refine wp_abs (Mem w [(w.heap.size, 31, W4 a)]) ⟨by go_grown, ?_, trivial⟩ ?_
 ·repeat (first | (refine Row.new_at ?_; simp; done) | refine Row.alloc ?_ _)
 intro w0 hM
 obtain ⟨hl, r0, -⟩ := hM
 go_upto_region 1 with (fail)
 let L : List Sp := [sV 1 [] [] (fun u => u = .agg (W4 M3)), sV 2 [] [] (fun u => u = .int .i64 c)]
 refine wp_region_six (shs L) (look6 L) (None_) (by kernel_rfl) (by kernel_rfl) (mk_St L [] [] (by kernel_rfl) (by kernel_rfl) ⟨ok_V ⟨_, rfl⟩, ok_V ⟨_, rfl⟩, trivial⟩ (by simp)) ?_
 intro QQ hQ
 refine stepK rfl (by kernel_rfl) (fun K hK => ?_); go_simp
 apply Exists.intro; apply And.intro; (focus exact kLoad rfl rfl aggT31 r0 rfl id); refine hK _ _ ?_; clear hK K
 refine stepS _ rfl (by kernel_rfl) (fun K hK => ?_); go_simp
 refine ⟨?_, ?_⟩
 ·intro wk hk hg hu; go_simp; refine upon_enter ((k0.out _).mono ?_); rintro e w' ⟨rfl, hb⟩; exact ⟨_, rfl, left_V (p := fun u => u = .agg (W4 M3)) rfl (hb) rfl⟩
 rintro ⟨v1, lo1, hi1⟩ - - (rfl : v1 = _)
 refine hK _ _ ?_; clear hK K
 refine stepS _ rfl (by kernel_rfl) (fun K hK => ?_); go_simp
 refine ⟨?_, ?_⟩
 ·intro wk hk hg hu; go_simp; refine upon_enter ((k1.out _).mono ?_); rintro e w' ⟨rfl, hb⟩; exact ⟨_, rfl, left_V (p := fun u => u = .int .i64 c) rfl (hb) rfl⟩
 rintro ⟨v2, lo2, hi2⟩ - - (rfl : v2 = _)
 refine hK _ _ ?_; clear hK K
 iterate 2 (refine stepK rfl (by kernel_rfl) (fun K hK => ?_); go_simp; apply Exists.intro; apply And.intro; (focus (intro wk hk; go_simp; exact ⟨rfl, rfl⟩)); refine hK _ _ ?_; clear hK K)
 refine stepN ?_
 refine hQ _ _ ?_
 intro w1 hT hG hF
 have hbw1 := hT.undrew.below
 replace r0 := r0.below hbw1 r0.lt
 replace hl := hl.trans (hbw1.mono hl.size)
 clear hT hG hF hbw1 hQ QQ L 
 go_wp2_with fail
 go_ret
 exact ⟨by rw [hh.out] <;> rfl, hl⟩
end Go.Proofs.Ytpdenhmkpiafiaa
