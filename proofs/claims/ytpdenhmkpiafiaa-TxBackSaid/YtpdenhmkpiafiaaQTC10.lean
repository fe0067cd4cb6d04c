/-
  What the statement rests on, part 11: TxGood3 TxPar.
-/
import Derived.Test.YtpdenhmkpiafiaaQTC8
import Derived.Test.YtpdenhmkpiafiaaQTC9
namespace Go.Proofs.Ytpdenhmkpiafiaa
open Go Go.RowKit K6
structure LightT (t : Txv) : Prop where
  n : t.n.length ≤ 50
  a : t.a.length ≤ 50
  h : t.h.length ≤ 50
  p : t.c.p.length ≤ 50
  l : t.c.l.length ≤ 50
  q : ∀ x ∈ t.c.l, x.p.length ≤ 50
def numJ (sn : Int) (l : List Int) (i : Nat) : Prop := (0 ≤ l.getD i 0 ∧ l.getD i 0 ≤ 1099511627776) ∧ (sn < (i : Int) → l.getD (i - 1) 0 < l.getD i 0)
theorem nums_no {sn : Int} {l : List Int} {i : Nat} (hi : i < l.length) (h : ¬ numJ sn l i) : numsB sn l = false := decide_eq_false fun hk => h (hk i hi)
theorem nums_yes {sn : Int} {l : List Int} (h : ∀ i, i < l.length → numJ sn l i) : numsB sn l = true := decide_eq_true h
theorem get_D {l : List Int} {i : Nat} {x : Int} (h : l[i]? = some x) : l.getD i 0 = x := by rw [List.getD_eq_getElem?_getD, h]; rfl
set_option maxRecDepth 100000 in
set_option maxHeartbeats 64000000 in
theorem good_at (t : Txv) (w : World) (ht : TxOk w t) (hl : LightT t) :
    Calls Try.prog 136 #[.agg t.cs.toArray] w fun r w' => r = .returned (.bool (goodK t.key)) ∧ Below w.heap.size w w' := by
  have hsn := shp_n t.k
  have kO := fun wx => txof_any t.k wx
  have kf := Lib.hid fun wx => within_at t.f 1 4294967295 wx
  have kc := fun wx => counts_at (shpOf t.k) t wx hsn (by have := hl.n; omega) (by have := hl.a; omega) (by have := hl.h; omega)
  have kA := fun wx (hb : Below w.heap.size w wx) => goodA_cont t.av t.a wx (ht.a.below hb) ht.ab (by have := hl.a; omega)
  have kG := fun wx (hb : Below w.heap.size w wx) => goodClaim_at t.c wx (ht.c.below hb) (by have := hl.p; omega) (by have := hl.l; omega) (fun e he => by have := hl.q e he; omega)
  have kS := fun wx (hb : Below w.heap.size w wx) => sameClaim_at t.c cm0 wx (ht.c.below hb) (cm0_ok wx) (by have := hl.p; omega) (by have := hl.l; omega) (fun e he => by have := hl.q e he; omega)
  have hok : goodK t.key = (okK t.k && (decide (1 ≤ t.f ∧ t.f ≤ 4294967295) && (cntB (shpOf t.k) t.n.length t.a.length t.h.length && (numsB (shpOf t.k).n t.n && (t.a.all okA && (if (shpOf t.k).c = true then goodCK t.c.key else decide (t.c.key = cm0.key))))))) := rfl
  obtain ⟨S, hS⟩ : ∃ S, shpOf t.k = S := ⟨_, rfl⟩
  unfold OfP at kO
  rw [hS] at kO kc hok hsn
  obtain ⟨sn, st, sa, se, sh, sc⟩ := S
  simp only [Shp.cs] at kO kc hok hsn
  obtain ⟨b0, hb0⟩ : ∃ b, okK t.k = b := ⟨_, rfl⟩
  obtain ⟨b1, hb1⟩ : ∃ b, decide (1 ≤ t.f ∧ t.f ≤ 4294967295) = b := ⟨_, rfl⟩
  obtain ⟨b2, hb2⟩ : ∃ b, cntB ⟨sn, st, sa, se, sh, sc⟩ t.n.length t.a.length t.h.length = b := ⟨_, rfl⟩
  obtain ⟨b3, hb3⟩ : ∃ b, numsB sn t.n = b := ⟨_, rfl⟩
  obtain ⟨b4, hb4⟩ : ∃ b, t.a.all okA = b := ⟨_, rfl⟩
  obtain ⟨b5, hb5⟩ : ∃ b, goodCK t.c.key = b := ⟨_, rfl⟩
  obtain ⟨b6, hb6⟩ : ∃ b, decide (t.c.key = cm0.key) = b := ⟨_, rfl⟩
  rw [hb0] at kO
  rw [hb1] at kf
  rw [hb2] at kc
  rw [hb4] at kA
  rw [hb5] at kG
  rw [hb6] at kS
  rw [hb0, hb1, hb2, hb3, hb4, hb5, hb6] at hok
  obtain ⟨bx, hbx⟩ : ∃ b, (if sc = true then b5 else b6) = b := ⟨_, rfl⟩
  rw [hbx] at hok
  replace hbx := Lib.hid hbx
  rw [hok]
  have x0 := tA0 t
  have x1 := tA1 t
  have x2 := tA2 t
  have x3 := tA3 t
  have hsz : t.cs.toArray.size = 43 := by rw [List.size_toArray]; exact Txv.len ht.c.tok
  have hcsz : t.c.cs.toArray.size = 38 := by rw [List.size_toArray]; exact Cm.len ht.c.tok
  have hmid := Txv.c_ t
  have HN := ht.n
  unfold Txv.nv at HN
  unfold Txv.av at kA
  obtain ⟨m, hm⟩ : ∃ m, t.n.length = m := ⟨_, rfl⟩
  obtain ⟨nA, hnA⟩ : ∃ m, t.a.length = m := ⟨_, rfl⟩
  obtain ⟨nq, hnq⟩ : ∃ q, t.nq = q := ⟨_, rfl⟩
  obtain ⟨nc, hnc⟩ : ∃ q, t.nc = q := ⟨_, rfl⟩
  obtain ⟨aq, haq⟩ : ∃ q, t.aq = q := ⟨_, rfl⟩
  obtain ⟨ac, hac⟩ : ∃ q, t.ac = q := ⟨_, rfl⟩
  have hm50 : m ≤ 50 := by have := hl.n; omega
  rw [hm, hnq, hnc] at x2 HN
  rw [hnA, haq, hac] at x3 kA
  obtain ⟨ct, hct⟩ : ∃ c, t.cs.toArray = c := ⟨_, rfl⟩
  obtain ⟨cc5, hcc⟩ : ∃ c, t.c.cs.toArray = c := ⟨_, rfl⟩
  rw [hct] at x0 x1 x2 x3 hsz hmid kc ⊢
  rw [hcc] at hcsz hmid kG kS
  obtain ⟨tk, htk⟩ : ∃ k, t.k = k := ⟨_, rfl⟩
  obtain ⟨tf, htf⟩ : ∃ k, t.f = k := ⟨_, rfl⟩
  rw [htk] at x0 kO
  rw [htf] at x1 kf
  obtain ⟨ln, hln⟩ : ∃ l, t.n = l := ⟨_, rfl⟩
  rw [hln] at HN hm hb3
  replace HN := Lib.hid (show _ ∧ _ ∧ _ ∧ _ from ⟨HN, hm, hb3, hsn⟩)
  replace kO := Lib.hid kO
  replace kc := Lib.hid kc
  replace kA := Lib.hid kA
  replace kG := Lib.hid kG
  replace kS := Lib.hid kS
  have hmi : (m : Int) ≤ 50 := by omega
  clear hS hok hb0 hb1 hb2 hb3 hb4 hb5 hb6 hm hnA hnq hnc haq hac hct hcc htk htf hln ht hl hm50 hsn
  go_enter Try.func136, Try.ntmps136
  go_upto_region 1 with (fail)
  refine wp_abs (Mem w [(w.heap.size, 116, ct)]) ⟨by go_grown, by (repeat (first | (refine Row.new_at ?_; simp; done) | refine Row.alloc ?_ _)), trivial⟩ ?_
  intro w0 hM
  obtain ⟨hl, r1, -⟩ := hM
  let L : List Sp := [sV 2 [] [] (fun u => u = .tuple #[.agg #[.int .i64 sn, .bool st, .int .i64 sa, .bool se, .int .i64 sh, .bool sc], .bool b0]), sA 6 107 [7] #[.int .i64 0, .bool false, .int .i64 0, .bool false, .int .i64 0, .bool false], sT 7 6 107 [4] (fun g => aggOf g 4)]
  refine wp_region_six0 (shs L) (look6 L) (None_) (by kernel_rfl) (by kernel_rfl) (mk_St L [] [] (by kernel_rfl) (by kernel_rfl) ⟨ok_V ⟨_, rfl⟩, ok_A, ok_T aggOf_congr, trivial⟩ (by simp)) ?_
  intro QQ hQ
  refine stepK rfl (by kernel_rfl) (fun K hK => ?_); go_simp
  apply Exists.intro; apply And.intro; (focus (intro wk hk; go_simp; exact ⟨rfl, rfl⟩)); refine hK _ _ ?_; clear hK K
  refine stepK rfl (by kernel_rfl) (fun K hK => ?_); go_simp
  apply Exists.intro; apply And.intro; (focus (intro wk hk; have cc : wk.cell? ⟨w.heap.size, 0, none⟩ = some (.int .i64 tk) := ((K6.Row.tr r1 hk id).cell 0).trans x0; go_simp; exact ⟨rfl, rfl⟩)); refine hK _ _ ?_; clear hK K
  refine stepS _ rfl (by kernel_rfl) (fun K hK => ?_); go_simp
  refine ⟨?_, ?_⟩
  · intro wk hk hg hu; go_simp; refine upon_enter ((kO.out _).mono ?_); rintro e w' ⟨rfl, hb⟩; exact ⟨_, rfl, left_V (p := fun u => u = .tuple #[.agg #[.int .i64 sn, .bool st, .int .i64 sa, .bool se, .int .i64 sh, .bool sc], .bool b0]) rfl (hb) rfl⟩
  rintro ⟨v2, lo2, hi2⟩ - - (rfl : v2 = _)
  refine hK _ _ ?_; clear hK K
  refine stepK rfl (by kernel_rfl) (fun K hK => ?_); go_simp
  apply Exists.intro; apply And.intro; (focus (intro wk hk; go_simp; exact ⟨rfl, rfl⟩)); refine hK _ _ ?_; clear hK K
  refine stepK rfl (by kernel_rfl) (fun K hK => ?_); go_simp
  apply Exists.intro; apply And.intro; (focus (intro wk hk; go_simp; exact ⟨rfl, rfl⟩)); refine hK _ _ ?_; clear hK K
  refine stepK rfl (by kernel_rfl) (fun K hK => ?_); go_simp
  apply Exists.intro; apply And.intro; (focus (intro wk hk; go_simp; exact ⟨rfl, rfl⟩)); refine hK _ _ ?_; clear hK K
  refine stepS _ rfl (by kernel_rfl) (fun K hK => ?_); go_simp
  refine ⟨?_, ?_⟩
  · intro wk hk hg hu; go_simp; exact left_A rfl rfl
  rintro ⟨v6, lo6, hi6⟩ hlo6 hhi6 ⟨e6, f6⟩
  replace e6 : v6 = .pointer (some ⟨lo6, 0, none⟩) := e6; replace f6 : hi6 = lo6 + 1 := f6; replace hlo6 : _ ≤ lo6 := hlo6; subst e6; subst f6
  refine hK _ _ ?_; clear hK K
  refine stepS _ rfl (by kernel_rfl) (fun K hK => ?_); go_simp
  refine ⟨?_, ?_⟩
  · exact sStoreT rfl rfl rfl rfl rfl rfl rfl (by kernel_rfl) rfl (by kernel_rfl) (by decide) aggOf_congr
  rintro ⟨v7, lo7, hi7⟩ - - (rfl : v7 = undef)
  refine hK _ _ ?_; clear hK K
  refine stepK rfl (by kernel_rfl) (fun K hK => ?_); go_simp
  apply Exists.intro; apply And.intro; (focus (intro wk hk; go_simp; exact ⟨rfl, rfl⟩)); refine hK _ _ ?_; clear hK K
  refine stepN ?_
  refine hQ _ _ ?_
  intro w1 hT hG hF
  have hb1 := hT.below
  have r3 : Row w1 lo6 107 (#[.int .i64 sn, .bool st, .int .i64 sa, .bool se, .int .i64 sh, .bool sc]) := (hF 7 _ rfl rfl (by decide)).2
  have hlt6 := r3.lt
  have hl := hl.trans (hb1.mono hl.size)
  have r1 := r1.below hb1 r1.lt
  clear hT hG hF hQ QQ L hb1 kO
  go_upto_region 2 with (fail)
  cases b0
  · clear kf kc kA kG kS HN
    let L : List Sp := []
    refine wp_region_six0 (shs L) (look6 L) (None_) (by kernel_rfl) (by kernel_rfl) (mk_St L [] [] (by kernel_rfl) (by kernel_rfl) trivial (by simp)) ?_
    intro QQ hQ
    refine stepK rfl (by kernel_rfl) (fun K hK => ?_); go_simp
    apply Exists.intro; apply And.intro; (focus (intro wk hk; go_simp; exact ⟨rfl, rfl⟩)); refine hK _ _ ?_; clear hK K
    refine stepK rfl (by kernel_rfl) (fun K hK => ?_); go_simp
    apply Exists.intro; apply And.intro; (focus (intro wk hk; go_simp; exact ⟨rfl, rfl⟩)); refine hK _ _ ?_; clear hK K
    refine stepK rfl (by kernel_rfl) (fun K hK => ?_); go_simp
    apply Exists.intro; apply And.intro; (focus (intro wk hk; go_simp; exact ⟨rfl, rfl⟩)); refine hK _ _ ?_; clear hK K
    refine stepK rfl (by kernel_rfl) (fun K hK => ?_); go_simp
    first | (refine hK _ _ ?_; clear hK K) | (apply Exists.intro; apply And.intro; (focus (intro wk hk; go_simp; exact ⟨rfl, rfl⟩)); refine hK _ _ ?_; clear hK K)
    refine stepK rfl (by kernel_rfl) (fun K hK => ?_); go_simp
    first | (refine hK _ _ ?_; clear hK K) | (apply Exists.intro; apply And.intro; (focus (intro wk hk; go_simp; exact ⟨rfl, rfl⟩)); refine hK _ _ ?_; clear hK K)
    refine stepK rfl (by kernel_rfl) (fun K hK => ?_); go_simp
    first | (refine hK _ _ ?_; clear hK K) | (apply Exists.intro; apply And.intro; (focus (intro wk hk; go_simp; exact ⟨rfl, rfl⟩)); refine hK _ _ ?_; clear hK K)
    refine stepK rfl (by kernel_rfl) (fun K hK => ?_); go_simp
    first | (refine hK _ _ ?_; clear hK K) | (apply Exists.intro; apply And.intro; (focus (intro wk hk; go_simp; exact ⟨rfl, rfl⟩)); refine hK _ _ ?_; clear hK K)
    refine stepK rfl (by kernel_rfl) (fun K hK => ?_); go_simp
    apply Exists.intro; apply And.intro; (focus (intro wk hk; go_simp; exact ⟨rfl, rfl⟩)); refine hK _ _ ?_; clear hK K
    refine stepK rfl (by kernel_rfl) (fun K hK => ?_); go_simp
    apply Exists.intro; apply And.intro; (focus (intro wk hk; go_simp; exact ⟨rfl, rfl⟩)); refine hK _ _ ?_; clear hK K
    refine stepK rfl (by kernel_rfl) (fun K hK => ?_); go_simp
    first | (refine hK _ _ ?_; clear hK K) | (apply Exists.intro; apply And.intro; (focus (intro wk hk; go_simp; exact ⟨rfl, rfl⟩)); refine hK _ _ ?_; clear hK K)
    refine stepK rfl (by kernel_rfl) (fun K hK => ?_); go_simp
    first | (refine hK _ _ ?_; clear hK K) | (apply Exists.intro; apply And.intro; (focus (intro wk hk; go_simp; exact ⟨rfl, rfl⟩)); refine hK _ _ ?_; clear hK K)
    refine stepK rfl (by kernel_rfl) (fun K hK => ?_); go_simp
    first | (refine hK _ _ ?_; clear hK K) | (apply Exists.intro; apply And.intro; (focus (intro wk hk; go_simp; exact ⟨rfl, rfl⟩)); refine hK _ _ ?_; clear hK K)
    refine stepK rfl (by kernel_rfl) (fun K hK => ?_); go_simp
    first | (refine hK _ _ ?_; clear hK K) | (apply Exists.intro; apply And.intro; (focus (intro wk hk; go_simp; exact ⟨rfl, rfl⟩)); refine hK _ _ ?_; clear hK K)
    refine stepK rfl (by kernel_rfl) (fun K hK => ?_); go_simp
    apply Exists.intro; apply And.intro; (focus (intro wk hk; go_simp; exact ⟨rfl, rfl⟩)); refine hK _ _ ?_; clear hK K
    refine stepN ?_
    refine hQ _ _ ?_
    intro w2 hT hG hF
    have hb2 := hT.below
    have H9 := Lib.hid (hl.trans (hb2.mono hl.size))
    clear hT hG hF hQ QQ L hl r1 r3 hb2
    go_wp2_with fail
    go_ret
    exact ⟨rfl, H9.out⟩
  cases b1
  · clear kc kA kG kS HN
    let L : List Sp := [sV 5 [] [] (fun u => u = .bool false)]
    refine wp_region_six0 (shs L) (look6 L) (None_) (by kernel_rfl) (by kernel_rfl) (mk_St L [] [] (by kernel_rfl) (by kernel_rfl) ⟨ok_V ⟨_, rfl⟩, trivial⟩ (by simp)) ?_
    intro QQ hQ
    refine stepK rfl (by kernel_rfl) (fun K hK => ?_); go_simp
    apply Exists.intro; apply And.intro; (focus (intro wk hk; go_simp; exact ⟨rfl, rfl⟩)); refine hK _ _ ?_; clear hK K
    refine stepK rfl (by kernel_rfl) (fun K hK => ?_); go_simp
    apply Exists.intro; apply And.intro; (focus (intro wk hk; go_simp; exact ⟨rfl, rfl⟩)); refine hK _ _ ?_; clear hK K
    refine stepK rfl (by kernel_rfl) (fun K hK => ?_); go_simp
    apply Exists.intro; apply And.intro; (focus (intro wk hk; go_simp; exact ⟨rfl, rfl⟩)); refine hK _ _ ?_; clear hK K
    refine stepK rfl (by kernel_rfl) (fun K hK => ?_); go_simp
    first | (refine hK _ _ ?_; clear hK K) | (apply Exists.intro; apply And.intro; (focus (intro wk hk; go_simp; exact ⟨rfl, rfl⟩)); refine hK _ _ ?_; clear hK K)
    refine stepK rfl (by kernel_rfl) (fun K hK => ?_); go_simp
    first | (refine hK _ _ ?_; clear hK K) | (apply Exists.intro; apply And.intro; (focus (intro wk hk; have cc : wk.cell? ⟨w.heap.size, 1, none⟩ = some (.int .i64 tf) := ((K6.Row.tr r1 hk id).cell 1).trans x1; go_simp; exact ⟨rfl, rfl⟩)); refine hK _ _ ?_; clear hK K)
    refine stepS _ rfl (by kernel_rfl) (fun K hK => ?_); go_simp
    refine ⟨?_, ?_⟩
    · intro wk hk hg hu; go_simp; refine upon_enter ((kf.out _).mono ?_); rintro e w' ⟨rfl, hb⟩; exact ⟨_, rfl, left_V (p := fun u => u = .bool false) rfl (hb) rfl⟩
    rintro ⟨v5, lo5, hi5⟩ - - (rfl : v5 = _)
    refine hK _ _ ?_; clear hK K
    refine stepK rfl (by kernel_rfl) (fun K hK => ?_); go_simp
    first | (refine hK _ _ ?_; clear hK K) | (apply Exists.intro; apply And.intro; (focus (intro wk hk; go_simp; exact ⟨rfl, rfl⟩)); refine hK _ _ ?_; clear hK K)
    refine stepK rfl (by kernel_rfl) (fun K hK => ?_); go_simp
    apply Exists.intro; apply And.intro; (focus (intro wk hk; go_simp; exact ⟨rfl, rfl⟩)); refine hK _ _ ?_; clear hK K
    refine stepK rfl (by kernel_rfl) (fun K hK => ?_); go_simp
    apply Exists.intro; apply And.intro; (focus (intro wk hk; go_simp; exact ⟨rfl, rfl⟩)); refine hK _ _ ?_; clear hK K
    refine stepK rfl (by kernel_rfl) (fun K hK => ?_); go_simp
    first | (refine hK _ _ ?_; clear hK K) | (apply Exists.intro; apply And.intro; (focus (intro wk hk; go_simp; exact ⟨rfl, rfl⟩)); refine hK _ _ ?_; clear hK K)
    refine stepK rfl (by kernel_rfl) (fun K hK => ?_); go_simp
    first | (refine hK _ _ ?_; clear hK K) | (apply Exists.intro; apply And.intro; (focus (intro wk hk; go_simp; exact ⟨rfl, rfl⟩)); refine hK _ _ ?_; clear hK K)
    refine stepK rfl (by kernel_rfl) (fun K hK => ?_); go_simp
    first | (refine hK _ _ ?_; clear hK K) | (apply Exists.intro; apply And.intro; (focus (intro wk hk; go_simp; exact ⟨rfl, rfl⟩)); refine hK _ _ ?_; clear hK K)
    refine stepK rfl (by kernel_rfl) (fun K hK => ?_); go_simp
    first | (refine hK _ _ ?_; clear hK K) | (apply Exists.intro; apply And.intro; (focus (intro wk hk; go_simp; exact ⟨rfl, rfl⟩)); refine hK _ _ ?_; clear hK K)
    refine stepK rfl (by kernel_rfl) (fun K hK => ?_); go_simp
    apply Exists.intro; apply And.intro; (focus (intro wk hk; go_simp; exact ⟨rfl, rfl⟩)); refine hK _ _ ?_; clear hK K
    refine stepN ?_
    refine hQ _ _ ?_
    intro w2 hT hG hF
    have hb2 := hT.below
    have H9 := Lib.hid (hl.trans (hb2.mono hl.size))
    clear hT hG hF hQ QQ L hl r1 r3 hb2
    go_wp2_with fail
    go_ret
    exact ⟨rfl, H9.out⟩
  cases b2
  · clear kA kG kS HN
    let L : List Sp := [sV 5 [] [] (fun u => u = .bool true), sV 11 [] [] (fun u => u = .bool false)]
    refine wp_region_six0 (shs L) (look6 L) (None_) (by kernel_rfl) (by kernel_rfl) (mk_St L [] [] (by kernel_rfl) (by kernel_rfl) ⟨ok_V ⟨_, rfl⟩, ok_V ⟨_, rfl⟩, trivial⟩ (by simp)) ?_
    intro QQ hQ
    refine stepK rfl (by kernel_rfl) (fun K hK => ?_); go_simp
    apply Exists.intro; apply And.intro; (focus (intro wk hk; go_simp; exact ⟨rfl, rfl⟩)); refine hK _ _ ?_; clear hK K
    refine stepK rfl (by kernel_rfl) (fun K hK => ?_); go_simp
    apply Exists.intro; apply And.intro; (focus (intro wk hk; go_simp; exact ⟨rfl, rfl⟩)); refine hK _ _ ?_; clear hK K
    refine stepK rfl (by kernel_rfl) (fun K hK => ?_); go_simp
    apply Exists.intro; apply And.intro; (focus (intro wk hk; go_simp; exact ⟨rfl, rfl⟩)); refine hK _ _ ?_; clear hK K
    refine stepK rfl (by kernel_rfl) (fun K hK => ?_); go_simp
    first | (refine hK _ _ ?_; clear hK K) | (apply Exists.intro; apply And.intro; (focus (intro wk hk; go_simp; exact ⟨rfl, rfl⟩)); refine hK _ _ ?_; clear hK K)
    refine stepK rfl (by kernel_rfl) (fun K hK => ?_); go_simp
    first | (refine hK _ _ ?_; clear hK K) | (apply Exists.intro; apply And.intro; (focus (intro wk hk; have cc : wk.cell? ⟨w.heap.size, 1, none⟩ = some (.int .i64 tf) := ((K6.Row.tr r1 hk id).cell 1).trans x1; go_simp; exact ⟨rfl, rfl⟩)); refine hK _ _ ?_; clear hK K)
    refine stepS _ rfl (by kernel_rfl) (fun K hK => ?_); go_simp
    refine ⟨?_, ?_⟩
    · intro wk hk hg hu; go_simp; refine upon_enter ((kf.out _).mono ?_); rintro e w' ⟨rfl, hb⟩; exact ⟨_, rfl, left_V (p := fun u => u = .bool true) rfl (hb) rfl⟩
    rintro ⟨v5, lo5, hi5⟩ - - (rfl : v5 = _)
    refine hK _ _ ?_; clear hK K
    refine stepK rfl (by kernel_rfl) (fun K hK => ?_); go_simp
    first | (refine hK _ _ ?_; clear hK K) | (apply Exists.intro; apply And.intro; (focus (intro wk hk; go_simp; exact ⟨rfl, rfl⟩)); refine hK _ _ ?_; clear hK K)
    refine stepK rfl (by kernel_rfl) (fun K hK => ?_); go_simp
    apply Exists.intro; apply And.intro; (focus (intro wk hk; go_simp; exact ⟨rfl, rfl⟩)); refine hK _ _ ?_; clear hK K
    refine stepK rfl (by kernel_rfl) (fun K hK => ?_); go_simp
    apply Exists.intro; apply And.intro; (focus (intro wk hk; go_simp; exact ⟨rfl, rfl⟩)); refine hK _ _ ?_; clear hK K
    refine stepK rfl (by kernel_rfl) (fun K hK => ?_); go_simp
    first | (refine hK _ _ ?_; clear hK K) | (apply Exists.intro; apply And.intro; (focus exact kLoad rfl rfl aggT107 r3 rfl id); refine hK _ _ ?_; clear hK K)
    refine stepK rfl (by kernel_rfl) (fun K hK => ?_); go_simp
    first | (refine hK _ _ ?_; clear hK K) | (apply Exists.intro; apply And.intro; (focus exact kLoad rfl rfl aggT116 r1 hsz id); refine hK _ _ ?_; clear hK K)
    refine stepS _ rfl (by kernel_rfl) (fun K hK => ?_); go_simp
    refine ⟨?_, ?_⟩
    · intro wk hk hg hu; go_simp; refine upon_enter ((kc.out _).mono ?_); rintro e w' ⟨rfl, hb⟩; exact ⟨_, rfl, left_V (p := fun u => u = .bool false) rfl (hb) rfl⟩
    rintro ⟨v11, lo11, hi11⟩ - - (rfl : v11 = _)
    refine hK _ _ ?_; clear hK K
    refine stepK rfl (by kernel_rfl) (fun K hK => ?_); go_simp
    first | (refine hK _ _ ?_; clear hK K) | (apply Exists.intro; apply And.intro; (focus (intro wk hk; go_simp; exact ⟨rfl, rfl⟩)); refine hK _ _ ?_; clear hK K)
    refine stepK rfl (by kernel_rfl) (fun K hK => ?_); go_simp
    apply Exists.intro; apply And.intro; (focus (intro wk hk; go_simp; exact ⟨rfl, rfl⟩)); refine hK _ _ ?_; clear hK K
    refine stepN ?_
    refine hQ _ _ ?_
    intro w2 hT hG hF
    have hb2 := hT.below
    have H9 := Lib.hid (hl.trans (hb2.mono hl.size))
    clear hT hG hF hQ QQ L hl r1 r3 hb2
    go_wp2_with fail
    go_ret
    exact ⟨rfl, H9.out⟩
  let L : List Sp := [sV 5 [] [] (fun u => u = .bool true), sV 11 [] [] (fun u => u = .bool true)]
  refine wp_region_six0 (shs L) (look6 L) (None_) (by kernel_rfl) (by kernel_rfl) (mk_St L [] [] (by kernel_rfl) (by kernel_rfl) ⟨ok_V ⟨_, rfl⟩, ok_V ⟨_, rfl⟩, trivial⟩ (by simp)) ?_
  intro QQ hQ
  refine stepK rfl (by kernel_rfl) (fun K hK => ?_); go_simp
  apply Exists.intro; apply And.intro; (focus (intro wk hk; go_simp; exact ⟨rfl, rfl⟩)); refine hK _ _ ?_; clear hK K
  refine stepK rfl (by kernel_rfl) (fun K hK => ?_); go_simp
  apply Exists.intro; apply And.intro; (focus (intro wk hk; go_simp; exact ⟨rfl, rfl⟩)); refine hK _ _ ?_; clear hK K
  refine stepK rfl (by kernel_rfl) (fun K hK => ?_); go_simp
  apply Exists.intro; apply And.intro; (focus (intro wk hk; go_simp; exact ⟨rfl, rfl⟩)); refine hK _ _ ?_; clear hK K
  refine stepK rfl (by kernel_rfl) (fun K hK => ?_); go_simp
  first | (refine hK _ _ ?_; clear hK K) | (apply Exists.intro; apply And.intro; (focus (intro wk hk; go_simp; exact ⟨rfl, rfl⟩)); refine hK _ _ ?_; clear hK K)
  refine stepK rfl (by kernel_rfl) (fun K hK => ?_); go_simp
  first | (refine hK _ _ ?_; clear hK K) | (apply Exists.intro; apply And.intro; (focus (intro wk hk; have cc : wk.cell? ⟨w.heap.size, 1, none⟩ = some (.int .i64 tf) := ((K6.Row.tr r1 hk id).cell 1).trans x1; go_simp; exact ⟨rfl, rfl⟩)); refine hK _ _ ?_; clear hK K)
  refine stepS _ rfl (by kernel_rfl) (fun K hK => ?_); go_simp
  refine ⟨?_, ?_⟩
  · intro wk hk hg hu; go_simp; refine upon_enter ((kf.out _).mono ?_); rintro e w' ⟨rfl, hb⟩; exact ⟨_, rfl, left_V (p := fun u => u = .bool true) rfl (hb) rfl⟩
  rintro ⟨v5, lo5, hi5⟩ - - (rfl : v5 = _)
  refine hK _ _ ?_; clear hK K
  refine stepK rfl (by kernel_rfl) (fun K hK => ?_); go_simp
  first | (refine hK _ _ ?_; clear hK K) | (apply Exists.intro; apply And.intro; (focus (intro wk hk; go_simp; exact ⟨rfl, rfl⟩)); refine hK _ _ ?_; clear hK K)
  refine stepK rfl (by kernel_rfl) (fun K hK => ?_); go_simp
  apply Exists.intro; apply And.intro; (focus (intro wk hk; go_simp; exact ⟨rfl, rfl⟩)); refine hK _ _ ?_; clear hK K
  refine stepK rfl (by kernel_rfl) (fun K hK => ?_); go_simp
  apply Exists.intro; apply And.intro; (focus (intro wk hk; go_simp; exact ⟨rfl, rfl⟩)); refine hK _ _ ?_; clear hK K
  refine stepK rfl (by kernel_rfl) (fun K hK => ?_); go_simp
  first | (refine hK _ _ ?_; clear hK K) | (apply Exists.intro; apply And.intro; (focus exact kLoad rfl rfl aggT107 r3 rfl id); refine hK _ _ ?_; clear hK K)
  refine stepK rfl (by kernel_rfl) (fun K hK => ?_); go_simp
  first | (refine hK _ _ ?_; clear hK K) | (apply Exists.intro; apply And.intro; (focus exact kLoad rfl rfl aggT116 r1 hsz id); refine hK _ _ ?_; clear hK K)
  refine stepS _ rfl (by kernel_rfl) (fun K hK => ?_); go_simp
  refine ⟨?_, ?_⟩
  · intro wk hk hg hu; go_simp; refine upon_enter ((kc.out _).mono ?_); rintro e w' ⟨rfl, hb⟩; exact ⟨_, rfl, left_V (p := fun u => u = .bool true) rfl (hb) rfl⟩
  rintro ⟨v11, lo11, hi11⟩ - - (rfl : v11 = _)
  refine hK _ _ ?_; clear hK K
  refine stepK rfl (by kernel_rfl) (fun K hK => ?_); go_simp
  first | (refine hK _ _ ?_; clear hK K) | (apply Exists.intro; apply And.intro; (focus (intro wk hk; go_simp; exact ⟨rfl, rfl⟩)); refine hK _ _ ?_; clear hK K)
  refine stepK rfl (by kernel_rfl) (fun K hK => ?_); go_simp
  apply Exists.intro; apply And.intro; (focus (intro wk hk; go_simp; exact ⟨rfl, rfl⟩)); refine hK _ _ ?_; clear hK K
  refine stepN ?_
  refine hQ _ _ ?_
  intro w2 hT hG hF
  have hb2 := hT.below
  have HL := Lib.hid (show Below w.heap.size w w2 ∧ Row w2 w.heap.size 116 ct ∧ Row w2 lo6 107 (#[.int .i64 sn, .bool st, .int .i64 sa, .bool se, .int .i64 sh, .bool sc]) from ⟨hl.trans (hb2.mono hl.size), r1.below hb2 r1.lt, r3.below hb2 r3.lt⟩)
  have d2 := (HL.out.2.1.cell 2).trans x2
  clear hT hG hF hQ QQ L hl r1 r3 hb2 kf kc hlt6
  go_wp2_with fail
  go_loopg [5, 29] m (fun gg s5 s29 wr => ∃ i : Nat, i + gg = m ∧ s29 = .int .i64 (i : Int) ∧ Hid (∀ j, j < i → numJ sn ln j) ∧ Hid (Below w.heap.size w wr ∧ Row wr w.heap.size 116 ct ∧ Row wr lo6 107 (#[.int .i64 sn, .bool st, .int .i64 sa, .bool se, .int .i64 sh, .bool sc])))
  case atStart => exact ⟨0, by omega, rfl, Lib.hid (fun j h => absurd h (Nat.not_lt_zero j)), HL⟩
  case round =>
    clear HL d2
    obtain ⟨i, him, rfl, hall, hinv⟩ := hrel
    by_cases hi : i < m
    · obtain ⟨x, hx⟩ : ∃ x, ln[i]? = some x := ⟨_, List.getElem?_eq_getElem (by have := HN.out.2.1; omega)⟩
      have hiln : i < ln.length := (List.getElem?_eq_some_iff.1 hx).1
      obtain ⟨gx, ox, cx', hu, hgx, hcx⟩ := (HN.out.1.below hinv.out.1).get hx
      simp only [Value.slice.injEq] at hu
      obtain ⟨rfl, -, -⟩ := hu
      have cx0 : wr.cell? ⟨gx, ox + i, none⟩ = some (.int .i64 x) := by have h := hcx 0 _ rfl; simpa using h
      have kx := Lib.hid fun wx => within_at x 0 1099511627776 wx
      have hl := hinv.out.1
      have r1 := hinv.out.2.1
      have r3 := hinv.out.2.2
      have hDx := Lib.hid (show ln.getD i 0 = x ∧ i < ln.length from ⟨get_D hx, hiln⟩)
      have hlt : (i : Int) < (m : Int) := by omega
      clear hcx hiln hinv
      go_upto_region 7 with (fail)
      by_cases hw : 0 ≤ x ∧ x ≤ 1099511627776
      case neg =>
        rw [decide_eq_false hw] at kx
        have hbf : b3 = false := by rw [← HN.out.2.2.1]; exact nums_no hDx.out.2 (fun h => hw (by have := h.1; rwa [hDx.out.1] at this))
        subst hbf
        clear hw hx HN hall hDx kA kG kS
        let L : List Sp := [sV 5 [] [] (fun u => u = .bool false)]
        refine wp_region_six (shs L) (look6 L) (None_) (by kernel_rfl) (by kernel_rfl) (mk_St L [] [] (by kernel_rfl) (by kernel_rfl) ⟨ok_V ⟨_, rfl⟩, trivial⟩ (by simp)) ?_
        intro QQ hQ
        refine stepK rfl (by kernel_rfl) (fun K hK => ?_); go_simp
        apply Exists.intro; apply And.intro; (focus (intro wk hk; go_simp; exact ⟨rfl, rfl⟩)); refine hK _ _ ?_; clear hK K
        refine stepK rfl (by kernel_rfl) (fun K hK => ?_); go_simp
        apply Exists.intro; apply And.intro; (focus (intro wk hk; have cc : wk.cell? ⟨w.heap.size, 2, none⟩ = some (.slice (some ⟨gx, ox, none⟩) m nc) := ((K6.Row.tr r1 hk.undrew id).cell 2).trans x2; go_simp; exact ⟨rfl, rfl⟩)); refine hK _ _ ?_; clear hK K
        refine stepK rfl (by kernel_rfl) (fun K hK => ?_); go_simp
        apply Exists.intro; apply And.intro; (focus (intro wk hk; go_simp; exact ⟨rfl, rfl⟩)); refine hK _ _ ?_; clear hK K
        refine stepK rfl (by kernel_rfl) (fun K hK => ?_); go_simp
        apply Exists.intro; apply And.intro; (focus (intro wk hk; go_simp; exact ⟨rfl, rfl⟩)); refine hK _ _ ?_; clear hK K
        refine stepK rfl (by kernel_rfl) (fun K hK => ?_); go_simp
        apply Exists.intro; apply And.intro; (focus (intro wk hk; have cc : wk.cell? ⟨gx, ox + i, none⟩ = some (.int .i64 x) := (World.cell?_of_block (hk.undrew.below.block _ hgx)).trans cx0; go_simp; exact ⟨rfl, rfl⟩)); refine hK _ _ ?_; clear hK K
        refine stepS _ rfl (by kernel_rfl) (fun K hK => ?_); go_simp
        refine ⟨?_, ?_⟩
        · intro wk hk hg hu; go_simp; refine upon_enter ((kx.out _).mono ?_); rintro e w' ⟨rfl, hb⟩; exact ⟨_, rfl, left_V (p := fun u => u = .bool false) rfl (hb) rfl⟩
        rintro ⟨v5, lo5, hi5⟩ - - (rfl : v5 = _)
        refine hK _ _ ?_; clear hK K
        refine stepK rfl (by kernel_rfl) (fun K hK => ?_); go_simp
        apply Exists.intro; apply And.intro; (focus (intro wk hk; go_simp; exact ⟨rfl, rfl⟩)); refine hK _ _ ?_; clear hK K
        refine stepK rfl (by kernel_rfl) (fun K hK => ?_); go_simp
        apply Exists.intro; apply And.intro; (focus (intro wk hk; go_simp; exact ⟨rfl, rfl⟩)); refine hK _ _ ?_; clear hK K
        refine stepK rfl (by kernel_rfl) (fun K hK => ?_); go_simp
        first | (refine hK _ _ ?_; clear hK K) | (apply Exists.intro; apply And.intro; (focus (intro wk hk; go_simp; exact ⟨rfl, rfl⟩)); refine hK _ _ ?_; clear hK K)
        refine stepK rfl (by kernel_rfl) (fun K hK => ?_); go_simp
        first | (refine hK _ _ ?_; clear hK K) | (apply Exists.intro; apply And.intro; (focus (intro wk hk; go_simp; exact ⟨rfl, rfl⟩)); refine hK _ _ ?_; clear hK K)
        refine stepK rfl (by kernel_rfl) (fun K hK => ?_); go_simp
        first | (refine hK _ _ ?_; clear hK K) | (apply Exists.intro; apply And.intro; (focus (intro wk hk; go_simp; exact ⟨rfl, rfl⟩)); refine hK _ _ ?_; clear hK K)
        refine stepK rfl (by kernel_rfl) (fun K hK => ?_); go_simp
        first | (refine hK _ _ ?_; clear hK K) | (apply Exists.intro; apply And.intro; (focus (intro wk hk; go_simp; exact ⟨rfl, rfl⟩)); refine hK _ _ ?_; clear hK K)
        refine stepK rfl (by kernel_rfl) (fun K hK => ?_); go_simp
        first | (refine hK _ _ ?_; clear hK K) | (apply Exists.intro; apply And.intro; (focus (intro wk hk; go_simp; exact ⟨rfl, rfl⟩)); refine hK _ _ ?_; clear hK K)
        refine stepK rfl (by kernel_rfl) (fun K hK => ?_); go_simp
        first | (refine hK _ _ ?_; clear hK K) | (apply Exists.intro; apply And.intro; (focus (intro wk hk; go_simp; exact ⟨rfl, rfl⟩)); refine hK _ _ ?_; clear hK K)
        refine stepK rfl (by kernel_rfl) (fun K hK => ?_); go_simp
        first | (refine hK _ _ ?_; clear hK K) | (apply Exists.intro; apply And.intro; (focus (intro wk hk; go_simp; exact ⟨rfl, rfl⟩)); refine hK _ _ ?_; clear hK K)
        refine stepK rfl (by kernel_rfl) (fun K hK => ?_); go_simp
        first | (refine hK _ _ ?_; clear hK K) | (apply Exists.intro; apply And.intro; (focus (intro wk hk; go_simp; exact ⟨rfl, rfl⟩)); refine hK _ _ ?_; clear hK K)
        refine stepK rfl (by kernel_rfl) (fun K hK => ?_); go_simp
        first | (refine hK _ _ ?_; clear hK K) | (apply Exists.intro; apply And.intro; (focus (intro wk hk; go_simp; exact ⟨rfl, rfl⟩)); refine hK _ _ ?_; clear hK K)
        refine stepK rfl (by kernel_rfl) (fun K hK => ?_); go_simp
        first | (refine hK _ _ ?_; clear hK K) | (apply Exists.intro; apply And.intro; (focus (intro wk hk; go_simp; exact ⟨rfl, rfl⟩)); refine hK _ _ ?_; clear hK K)
        refine stepK rfl (by kernel_rfl) (fun K hK => ?_); go_simp
        first | (refine hK _ _ ?_; clear hK K) | (apply Exists.intro; apply And.intro; (focus (intro wk hk; go_simp; exact ⟨rfl, rfl⟩)); refine hK _ _ ?_; clear hK K)
        refine stepK rfl (by kernel_rfl) (fun K hK => ?_); go_simp
        first | (refine hK _ _ ?_; clear hK K) | (apply Exists.intro; apply And.intro; (focus (intro wk hk; go_simp; exact ⟨rfl, rfl⟩)); refine hK _ _ ?_; clear hK K)
        refine stepK rfl (by kernel_rfl) (fun K hK => ?_); go_simp
        first | (refine hK _ _ ?_; clear hK K) | (apply Exists.intro; apply And.intro; (focus (intro wk hk; go_simp; exact ⟨rfl, rfl⟩)); refine hK _ _ ?_; clear hK K)
        refine stepK rfl (by kernel_rfl) (fun K hK => ?_); go_simp
        first | (refine hK _ _ ?_; clear hK K) | (apply Exists.intro; apply And.intro; (focus (intro wk hk; go_simp; exact ⟨rfl, rfl⟩)); refine hK _ _ ?_; clear hK K)
        refine stepK rfl (by kernel_rfl) (fun K hK => ?_); go_simp
        first | (refine hK _ _ ?_; clear hK K) | (apply Exists.intro; apply And.intro; (focus (intro wk hk; go_simp; exact ⟨rfl, rfl⟩)); refine hK _ _ ?_; clear hK K)
        refine stepK rfl (by kernel_rfl) (fun K hK => ?_); go_simp
        first | (refine hK _ _ ?_; clear hK K) | (apply Exists.intro; apply And.intro; (focus (intro wk hk; go_simp; exact ⟨rfl, rfl⟩)); refine hK _ _ ?_; clear hK K)
        refine stepK rfl (by kernel_rfl) (fun K hK => ?_); go_simp
        first | (refine hK _ _ ?_; clear hK K) | (apply Exists.intro; apply And.intro; (focus (intro wk hk; go_simp; exact ⟨rfl, rfl⟩)); refine hK _ _ ?_; clear hK K)
        refine stepK rfl (by kernel_rfl) (fun K hK => ?_); go_simp
        first | (refine hK _ _ ?_; clear hK K) | (apply Exists.intro; apply And.intro; (focus (intro wk hk; go_simp; exact ⟨rfl, rfl⟩)); refine hK _ _ ?_; clear hK K)
        refine stepK rfl (by kernel_rfl) (fun K hK => ?_); go_simp
        apply Exists.intro; apply And.intro; (focus (intro wk hk; go_simp; exact ⟨rfl, rfl⟩)); refine hK _ _ ?_; clear hK K
        refine stepN ?_
        refine hQ _ _ ?_
        intro w4 hT hG hF
        have hb4 := hT.undrew.below
        have H4 := Lib.hid (show Below w.heap.size w w4 ∧ Row w4 w.heap.size 116 ct ∧ Row w4 lo6 107 (#[.int .i64 sn, .bool st, .int .i64 sa, .bool se, .int .i64 sh, .bool sc]) from ⟨hl.trans (hb4.mono hl.size), r1.below hb4 r1.lt, r3.below hb4 r3.lt⟩)
        clear hT hG hF hQ QQ L hl r1 r3 hb4 kx cx0
        go_wp2_with fail
        go_ret
        exact ⟨rfl, H4.out.1⟩
      rw [decide_eq_true hw] at kx
      by_cases hg : sn < (i : Int)
      case neg =>
        have hnext := Lib.hid (show ∀ j, j < i + 1 → numJ sn ln j from fun j hj => by
          rcases Nat.lt_or_ge j i with h | h
          · exact hall.out j h
          · obtain rfl : j = i := by omega
            exact ⟨by rw [hDx.out.1]; exact hw, fun h2 => absurd h2 hg⟩)
        clear hw hx hall hDx
        let L : List Sp := [sV 5 [] [] (fun u => u = .bool true)]
        refine wp_region_six (shs L) (look6 L) (None_) (by kernel_rfl) (by kernel_rfl) (mk_St L [] [] (by kernel_rfl) (by kernel_rfl) ⟨ok_V ⟨_, rfl⟩, trivial⟩ (by simp)) ?_
        intro QQ hQ
        refine stepK rfl (by kernel_rfl) (fun K hK => ?_); go_simp
        apply Exists.intro; apply And.intro; (focus (intro wk hk; go_simp; exact ⟨rfl, rfl⟩)); refine hK _ _ ?_; clear hK K
        refine stepK rfl (by kernel_rfl) (fun K hK => ?_); go_simp
        apply Exists.intro; apply And.intro; (focus (intro wk hk; have cc : wk.cell? ⟨w.heap.size, 2, none⟩ = some (.slice (some ⟨gx, ox, none⟩) m nc) := ((K6.Row.tr r1 hk.undrew id).cell 2).trans x2; go_simp; exact ⟨rfl, rfl⟩)); refine hK _ _ ?_; clear hK K
        refine stepK rfl (by kernel_rfl) (fun K hK => ?_); go_simp
        apply Exists.intro; apply And.intro; (focus (intro wk hk; go_simp; exact ⟨rfl, rfl⟩)); refine hK _ _ ?_; clear hK K
        refine stepK rfl (by kernel_rfl) (fun K hK => ?_); go_simp
        apply Exists.intro; apply And.intro; (focus (intro wk hk; go_simp; exact ⟨rfl, rfl⟩)); refine hK _ _ ?_; clear hK K
        refine stepK rfl (by kernel_rfl) (fun K hK => ?_); go_simp
        apply Exists.intro; apply And.intro; (focus (intro wk hk; have cc : wk.cell? ⟨gx, ox + i, none⟩ = some (.int .i64 x) := (World.cell?_of_block (hk.undrew.below.block _ hgx)).trans cx0; go_simp; exact ⟨rfl, rfl⟩)); refine hK _ _ ?_; clear hK K
        refine stepS _ rfl (by kernel_rfl) (fun K hK => ?_); go_simp
        refine ⟨?_, ?_⟩
        · intro wk hk hg hu; go_simp; refine upon_enter ((kx.out _).mono ?_); rintro e w' ⟨rfl, hb⟩; exact ⟨_, rfl, left_V (p := fun u => u = .bool true) rfl (hb) rfl⟩
        rintro ⟨v5, lo5, hi5⟩ - - (rfl : v5 = _)
        refine hK _ _ ?_; clear hK K
        refine stepK rfl (by kernel_rfl) (fun K hK => ?_); go_simp
        apply Exists.intro; apply And.intro; (focus (intro wk hk; go_simp; exact ⟨rfl, rfl⟩)); refine hK _ _ ?_; clear hK K
        refine stepK rfl (by kernel_rfl) (fun K hK => ?_); go_simp
        apply Exists.intro; apply And.intro; (focus (intro wk hk; go_simp; exact ⟨rfl, rfl⟩)); refine hK _ _ ?_; clear hK K
        refine stepK rfl (by kernel_rfl) (fun K hK => ?_); go_simp
        first | (refine hK _ _ ?_; clear hK K) | (apply Exists.intro; apply And.intro; (focus (intro wk hk; go_simp; exact ⟨rfl, rfl⟩)); refine hK _ _ ?_; clear hK K)
        refine stepK rfl (by kernel_rfl) (fun K hK => ?_); go_simp
        first | (refine hK _ _ ?_; clear hK K) | (apply Exists.intro; apply And.intro; (focus (intro wk hk; go_simp; exact ⟨rfl, rfl⟩)); refine hK _ _ ?_; clear hK K)
        refine stepK rfl (by kernel_rfl) (fun K hK => ?_); go_simp
        first | (refine hK _ _ ?_; clear hK K) | (apply Exists.intro; apply And.intro; (focus (intro wk hk; have cc : wk.cell? ⟨lo6, 0, none⟩ = some (.int .i64 sn) := (K6.Row.tr r3 hk.undrew id).cell 0; go_simp; exact ⟨rfl, rfl⟩)); refine hK _ _ ?_; clear hK K)
        refine stepK rfl (by kernel_rfl) (fun K hK => ?_); go_simp
        first | (refine hK _ _ ?_; clear hK K) | (apply Exists.intro; apply And.intro; (focus (intro wk hk; go_simp; exact ⟨rfl, rfl⟩)); refine hK _ _ ?_; clear hK K)
        refine stepK rfl (by kernel_rfl) (fun K hK => ?_); go_simp
        first | (refine hK _ _ ?_; clear hK K) | (apply Exists.intro; apply And.intro; (focus (intro wk hk; go_simp; exact ⟨rfl, rfl⟩)); refine hK _ _ ?_; clear hK K)
        refine stepK rfl (by kernel_rfl) (fun K hK => ?_); go_simp
        first | (refine hK _ _ ?_; clear hK K) | (apply Exists.intro; apply And.intro; (focus (intro wk hk; go_simp; exact ⟨rfl, rfl⟩)); refine hK _ _ ?_; clear hK K)
        refine stepK rfl (by kernel_rfl) (fun K hK => ?_); go_simp
        first | (refine hK _ _ ?_; clear hK K) | (apply Exists.intro; apply And.intro; (focus (intro wk hk; go_simp; exact ⟨rfl, rfl⟩)); refine hK _ _ ?_; clear hK K)
        refine stepK rfl (by kernel_rfl) (fun K hK => ?_); go_simp
        first | (refine hK _ _ ?_; clear hK K) | (apply Exists.intro; apply And.intro; (focus (intro wk hk; go_simp; exact ⟨rfl, rfl⟩)); refine hK _ _ ?_; clear hK K)
        refine stepK rfl (by kernel_rfl) (fun K hK => ?_); go_simp
        first | (refine hK _ _ ?_; clear hK K) | (apply Exists.intro; apply And.intro; (focus (intro wk hk; go_simp; exact ⟨rfl, rfl⟩)); refine hK _ _ ?_; clear hK K)
        refine stepK rfl (by kernel_rfl) (fun K hK => ?_); go_simp
        first | (refine hK _ _ ?_; clear hK K) | (apply Exists.intro; apply And.intro; (focus (intro wk hk; go_simp; exact ⟨rfl, rfl⟩)); refine hK _ _ ?_; clear hK K)
        refine stepK rfl (by kernel_rfl) (fun K hK => ?_); go_simp
        first | (refine hK _ _ ?_; clear hK K) | (apply Exists.intro; apply And.intro; (focus (intro wk hk; go_simp; exact ⟨rfl, rfl⟩)); refine hK _ _ ?_; clear hK K)
        refine stepK rfl (by kernel_rfl) (fun K hK => ?_); go_simp
        first | (refine hK _ _ ?_; clear hK K) | (apply Exists.intro; apply And.intro; (focus (intro wk hk; go_simp; exact ⟨rfl, rfl⟩)); refine hK _ _ ?_; clear hK K)
        refine stepK rfl (by kernel_rfl) (fun K hK => ?_); go_simp
        first | (refine hK _ _ ?_; clear hK K) | (apply Exists.intro; apply And.intro; (focus (intro wk hk; go_simp; exact ⟨rfl, rfl⟩)); refine hK _ _ ?_; clear hK K)
        refine stepK rfl (by kernel_rfl) (fun K hK => ?_); go_simp
        first | (refine hK _ _ ?_; clear hK K) | (apply Exists.intro; apply And.intro; (focus (intro wk hk; go_simp; exact ⟨rfl, rfl⟩)); refine hK _ _ ?_; clear hK K)
        refine stepK rfl (by kernel_rfl) (fun K hK => ?_); go_simp
        first | (refine hK _ _ ?_; clear hK K) | (apply Exists.intro; apply And.intro; (focus (intro wk hk; go_simp; exact ⟨rfl, rfl⟩)); refine hK _ _ ?_; clear hK K)
        refine stepK rfl (by kernel_rfl) (fun K hK => ?_); go_simp
        first | (refine hK _ _ ?_; clear hK K) | (apply Exists.intro; apply And.intro; (focus (intro wk hk; go_simp; exact ⟨rfl, rfl⟩)); refine hK _ _ ?_; clear hK K)
        refine stepK rfl (by kernel_rfl) (fun K hK => ?_); go_simp
        first | (refine hK _ _ ?_; clear hK K) | (apply Exists.intro; apply And.intro; (focus (intro wk hk; go_simp; exact ⟨rfl, rfl⟩)); refine hK _ _ ?_; clear hK K)
        refine stepK rfl (by kernel_rfl) (fun K hK => ?_); go_simp
        first | (refine hK _ _ ?_; clear hK K) | (apply Exists.intro; apply And.intro; (focus (intro wk hk; go_simp; exact ⟨rfl, rfl⟩)); refine hK _ _ ?_; clear hK K)
        refine stepK rfl (by kernel_rfl) (fun K hK => ?_); go_simp
        apply Exists.intro; apply And.intro; (focus (intro wk hk; go_simp; exact ⟨rfl, rfl⟩)); refine hK _ _ ?_; clear hK K
        refine stepN ?_
        refine hQ _ _ ?_
        intro w4 hT hG hF
        have hb4 := hT.undrew.below
        have H4 := Lib.hid (show Below w.heap.size w w4 ∧ Row w4 w.heap.size 116 ct ∧ Row w4 lo6 107 (#[.int .i64 sn, .bool st, .int .i64 sa, .bool se, .int .i64 sh, .bool sc]) from ⟨hl.trans (hb4.mono hl.size), r1.below hb4 r1.lt, r3.below hb4 r3.lt⟩)
        clear hT hG hF hQ QQ L hl r1 r3 hb4 kx cx0
        go_wp2_with fail
        go_roundg (gk - 1)
        case measure => omega
        case rel => exact ⟨i + 1, by omega, by go_num, hnext, H4⟩
      obtain ⟨k, hk⟩ : ∃ k, i = k + 1 := ⟨i - 1, by have := HN.out.2.2.2; omega⟩
      obtain ⟨y, hy⟩ : ∃ y, ln[k]? = some y := ⟨_, List.getElem?_eq_getElem (by have := HN.out.2.1; omega)⟩
      obtain ⟨gy, oy, cy', hu, hgy, hcy⟩ := (HN.out.1.below hl).get hy
      simp only [Value.slice.injEq, Option.some.injEq, Addr.mk.injEq] at hu
      obtain ⟨⟨rfl, rfl, -⟩, -, -⟩ := hu
      have cy0 : wr.cell? ⟨gx, ox + k, none⟩ = some (.int .i64 y) := by have h := hcy 0 _ rfl; simpa using h
      have wJ : IntKind.i64.wrap ((i : Int) - 1) = (k : Int) := by rw [IntKind.wrap_i64]; omega
      have hkm : (k : Int) < (m : Int) := by omega
      have hDy := Lib.hid (show ln.getD (i - 1) 0 = y by rw [hk]; exact get_D hy)
      clear hcy hy hgy
      by_cases hxy : x ≤ y
      · have hbf : b3 = false := by rw [← HN.out.2.2.1]; exact nums_no hDx.out.2 (fun h => by have := h.2 hg; rw [hDx.out.1, hDy.out] at this; omega)
        subst hbf
        clear hw hx hall HN hDx hDy kA kG kS hk
        let L : List Sp := [sV 5 [] [] (fun u => u = .bool true)]
        refine wp_region_six (shs L) (look6 L) (None_) (by kernel_rfl) (by kernel_rfl) (mk_St L [] [] (by kernel_rfl) (by kernel_rfl) ⟨ok_V ⟨_, rfl⟩, trivial⟩ (by simp)) ?_
        intro QQ hQ
        refine stepK rfl (by kernel_rfl) (fun K hK => ?_); go_simp
        apply Exists.intro; apply And.intro; (focus (intro wk hk; go_simp; exact ⟨rfl, rfl⟩)); refine hK _ _ ?_; clear hK K
        refine stepK rfl (by kernel_rfl) (fun K hK => ?_); go_simp
        apply Exists.intro; apply And.intro; (focus (intro wk hk; have cc : wk.cell? ⟨w.heap.size, 2, none⟩ = some (.slice (some ⟨gx, ox, none⟩) m nc) := ((K6.Row.tr r1 hk.undrew id).cell 2).trans x2; go_simp; exact ⟨rfl, rfl⟩)); refine hK _ _ ?_; clear hK K
        refine stepK rfl (by kernel_rfl) (fun K hK => ?_); go_simp
        apply Exists.intro; apply And.intro; (focus (intro wk hk; go_simp; exact ⟨rfl, rfl⟩)); refine hK _ _ ?_; clear hK K
        refine stepK rfl (by kernel_rfl) (fun K hK => ?_); go_simp
        apply Exists.intro; apply And.intro; (focus (intro wk hk; go_simp; exact ⟨rfl, rfl⟩)); refine hK _ _ ?_; clear hK K
        refine stepK rfl (by kernel_rfl) (fun K hK => ?_); go_simp
        apply Exists.intro; apply And.intro; (focus (intro wk hk; have cc : wk.cell? ⟨gx, ox + i, none⟩ = some (.int .i64 x) := (World.cell?_of_block (hk.undrew.below.block _ hgx)).trans cx0; go_simp; exact ⟨rfl, rfl⟩)); refine hK _ _ ?_; clear hK K
        refine stepS _ rfl (by kernel_rfl) (fun K hK => ?_); go_simp
        refine ⟨?_, ?_⟩
        · intro wk hk hg hu; go_simp; refine upon_enter ((kx.out _).mono ?_); rintro e w' ⟨rfl, hb⟩; exact ⟨_, rfl, left_V (p := fun u => u = .bool true) rfl (hb) rfl⟩
        rintro ⟨v5, lo5, hi5⟩ - - (rfl : v5 = _)
        refine hK _ _ ?_; clear hK K
        refine stepK rfl (by kernel_rfl) (fun K hK => ?_); go_simp
        apply Exists.intro; apply And.intro; (focus (intro wk hk; go_simp; exact ⟨rfl, rfl⟩)); refine hK _ _ ?_; clear hK K
        refine stepK rfl (by kernel_rfl) (fun K hK => ?_); go_simp
        apply Exists.intro; apply And.intro; (focus (intro wk hk; go_simp; exact ⟨rfl, rfl⟩)); refine hK _ _ ?_; clear hK K
        refine stepK rfl (by kernel_rfl) (fun K hK => ?_); go_simp
        first | (refine hK _ _ ?_; clear hK K) | (apply Exists.intro; apply And.intro; (focus (intro wk hk; go_simp; exact ⟨rfl, rfl⟩)); refine hK _ _ ?_; clear hK K)
        refine stepK rfl (by kernel_rfl) (fun K hK => ?_); go_simp
        first | (refine hK _ _ ?_; clear hK K) | (apply Exists.intro; apply And.intro; (focus (intro wk hk; go_simp; exact ⟨rfl, rfl⟩)); refine hK _ _ ?_; clear hK K)
        refine stepK rfl (by kernel_rfl) (fun K hK => ?_); go_simp
        first | (refine hK _ _ ?_; clear hK K) | (apply Exists.intro; apply And.intro; (focus (intro wk hk; have cc : wk.cell? ⟨lo6, 0, none⟩ = some (.int .i64 sn) := (K6.Row.tr r3 hk.undrew id).cell 0; go_simp; exact ⟨rfl, rfl⟩)); refine hK _ _ ?_; clear hK K)
        refine stepK rfl (by kernel_rfl) (fun K hK => ?_); go_simp
        first | (refine hK _ _ ?_; clear hK K) | (apply Exists.intro; apply And.intro; (focus (intro wk hk; go_simp; exact ⟨rfl, rfl⟩)); refine hK _ _ ?_; clear hK K)
        refine stepK rfl (by kernel_rfl) (fun K hK => ?_); go_simp
        first | (refine hK _ _ ?_; clear hK K) | (apply Exists.intro; apply And.intro; (focus (intro wk hk; go_simp; exact ⟨rfl, rfl⟩)); refine hK _ _ ?_; clear hK K)
        refine stepK rfl (by kernel_rfl) (fun K hK => ?_); go_simp
        first | (refine hK _ _ ?_; clear hK K) | (apply Exists.intro; apply And.intro; (focus (intro wk hk; go_simp; exact ⟨rfl, rfl⟩)); refine hK _ _ ?_; clear hK K)
        refine stepK rfl (by kernel_rfl) (fun K hK => ?_); go_simp
        first | (refine hK _ _ ?_; clear hK K) | (apply Exists.intro; apply And.intro; (focus (intro wk hk; have cc : wk.cell? ⟨w.heap.size, 2, none⟩ = some (.slice (some ⟨gx, ox, none⟩) m nc) := ((K6.Row.tr r1 hk.undrew id).cell 2).trans x2; go_simp; exact ⟨rfl, rfl⟩)); refine hK _ _ ?_; clear hK K)
        refine stepK rfl (by kernel_rfl) (fun K hK => ?_); go_simp
        first | (refine hK _ _ ?_; clear hK K) | (apply Exists.intro; apply And.intro; (focus (intro wk hk; go_simp; exact ⟨rfl, rfl⟩)); refine hK _ _ ?_; clear hK K)
        refine stepK rfl (by kernel_rfl) (fun K hK => ?_); go_simp
        first | (refine hK _ _ ?_; clear hK K) | (apply Exists.intro; apply And.intro; (focus (intro wk hk; go_simp; exact ⟨rfl, rfl⟩)); refine hK _ _ ?_; clear hK K)
        refine stepK rfl (by kernel_rfl) (fun K hK => ?_); go_simp
        first | (refine hK _ _ ?_; clear hK K) | (apply Exists.intro; apply And.intro; (focus (intro wk hk; have cc : wk.cell? ⟨gx, ox + i, none⟩ = some (.int .i64 x) := (World.cell?_of_block (hk.undrew.below.block _ hgx)).trans cx0; go_simp; exact ⟨rfl, rfl⟩)); refine hK _ _ ?_; clear hK K)
        refine stepK rfl (by kernel_rfl) (fun K hK => ?_); go_simp
        first | (refine hK _ _ ?_; clear hK K) | (apply Exists.intro; apply And.intro; (focus (intro wk hk; go_simp; exact ⟨rfl, rfl⟩)); refine hK _ _ ?_; clear hK K)
        refine stepK rfl (by kernel_rfl) (fun K hK => ?_); go_simp
        first | (refine hK _ _ ?_; clear hK K) | (apply Exists.intro; apply And.intro; (focus (intro wk hk; have cc : wk.cell? ⟨w.heap.size, 2, none⟩ = some (.slice (some ⟨gx, ox, none⟩) m nc) := ((K6.Row.tr r1 hk.undrew id).cell 2).trans x2; go_simp; exact ⟨rfl, rfl⟩)); refine hK _ _ ?_; clear hK K)
        refine stepK rfl (by kernel_rfl) (fun K hK => ?_); go_simp
        first | (refine hK _ _ ?_; clear hK K) | (apply Exists.intro; apply And.intro; (focus (intro wk hk; go_simp; exact ⟨rfl, rfl⟩)); refine hK _ _ ?_; clear hK K)
        refine stepK rfl (by kernel_rfl) (fun K hK => ?_); go_simp
        first | (refine hK _ _ ?_; clear hK K) | (apply Exists.intro; apply And.intro; (focus (intro wk hk; go_simp; exact ⟨rfl, rfl⟩)); refine hK _ _ ?_; clear hK K)
        refine stepK rfl (by kernel_rfl) (fun K hK => ?_); go_simp
        first | (refine hK _ _ ?_; clear hK K) | (apply Exists.intro; apply And.intro; (focus (intro wk hk; go_simp; exact ⟨rfl, rfl⟩)); refine hK _ _ ?_; clear hK K)
        refine stepK rfl (by kernel_rfl) (fun K hK => ?_); go_simp
        first | (refine hK _ _ ?_; clear hK K) | (apply Exists.intro; apply And.intro; (focus (intro wk hk; have cc : wk.cell? ⟨gx, ox + k, none⟩ = some (.int .i64 y) := (World.cell?_of_block (hk.undrew.below.block _ hgx)).trans cy0; go_simp; exact ⟨rfl, rfl⟩)); refine hK _ _ ?_; clear hK K)
        refine stepK rfl (by kernel_rfl) (fun K hK => ?_); go_simp
        first | (refine hK _ _ ?_; clear hK K) | (apply Exists.intro; apply And.intro; (focus (intro wk hk; go_simp; exact ⟨rfl, rfl⟩)); refine hK _ _ ?_; clear hK K)
        refine stepK rfl (by kernel_rfl) (fun K hK => ?_); go_simp
        first | (refine hK _ _ ?_; clear hK K) | (apply Exists.intro; apply And.intro; (focus (intro wk hk; go_simp; exact ⟨rfl, rfl⟩)); refine hK _ _ ?_; clear hK K)
        refine stepK rfl (by kernel_rfl) (fun K hK => ?_); go_simp
        apply Exists.intro; apply And.intro; (focus (intro wk hk; go_simp; exact ⟨rfl, rfl⟩)); refine hK _ _ ?_; clear hK K
        refine stepN ?_
        refine hQ _ _ ?_
        intro w4 hT hG hF
        have hb4 := hT.undrew.below
        have H4 := Lib.hid (show Below w.heap.size w w4 ∧ Row w4 w.heap.size 116 ct ∧ Row w4 lo6 107 (#[.int .i64 sn, .bool st, .int .i64 sa, .bool se, .int .i64 sh, .bool sc]) from ⟨hl.trans (hb4.mono hl.size), r1.below hb4 r1.lt, r3.below hb4 r3.lt⟩)
        clear hT hG hF hQ QQ L hl r1 r3 hb4 kx cx0
        go_wp2_with fail
        go_ret
        exact ⟨rfl, H4.out.1⟩
      · have hnext := Lib.hid (show ∀ j, j < i + 1 → numJ sn ln j from fun j hj => by
          rcases Nat.lt_or_ge j i with h | h
          · exact hall.out j h
          · obtain rfl : j = i := by omega
            exact ⟨by rw [hDx.out.1]; exact hw, fun h2 => by rw [hDx.out.1, hDy.out]; omega⟩)
        clear hw hx hall hDx hDy hk
        let L : List Sp := [sV 5 [] [] (fun u => u = .bool true)]
        refine wp_region_six (shs L) (look6 L) (None_) (by kernel_rfl) (by kernel_rfl) (mk_St L [] [] (by kernel_rfl) (by kernel_rfl) ⟨ok_V ⟨_, rfl⟩, trivial⟩ (by simp)) ?_
        intro QQ hQ
        refine stepK rfl (by kernel_rfl) (fun K hK => ?_); go_simp
        apply Exists.intro; apply And.intro; (focus (intro wk hk; go_simp; exact ⟨rfl, rfl⟩)); refine hK _ _ ?_; clear hK K
        refine stepK rfl (by kernel_rfl) (fun K hK => ?_); go_simp
        apply Exists.intro; apply And.intro; (focus (intro wk hk; have cc : wk.cell? ⟨w.heap.size, 2, none⟩ = some (.slice (some ⟨gx, ox, none⟩) m nc) := ((K6.Row.tr r1 hk.undrew id).cell 2).trans x2; go_simp; exact ⟨rfl, rfl⟩)); refine hK _ _ ?_; clear hK K
        refine stepK rfl (by kernel_rfl) (fun K hK => ?_); go_simp
        apply Exists.intro; apply And.intro; (focus (intro wk hk; go_simp; exact ⟨rfl, rfl⟩)); refine hK _ _ ?_; clear hK K
        refine stepK rfl (by kernel_rfl) (fun K hK => ?_); go_simp
        apply Exists.intro; apply And.intro; (focus (intro wk hk; go_simp; exact ⟨rfl, rfl⟩)); refine hK _ _ ?_; clear hK K
        refine stepK rfl (by kernel_rfl) (fun K hK => ?_); go_simp
        apply Exists.intro; apply And.intro; (focus (intro wk hk; have cc : wk.cell? ⟨gx, ox + i, none⟩ = some (.int .i64 x) := (World.cell?_of_block (hk.undrew.below.block _ hgx)).trans cx0; go_simp; exact ⟨rfl, rfl⟩)); refine hK _ _ ?_; clear hK K
        refine stepS _ rfl (by kernel_rfl) (fun K hK => ?_); go_simp
        refine ⟨?_, ?_⟩
        · intro wk hk hg hu; go_simp; refine upon_enter ((kx.out _).mono ?_); rintro e w' ⟨rfl, hb⟩; exact ⟨_, rfl, left_V (p := fun u => u = .bool true) rfl (hb) rfl⟩
        rintro ⟨v5, lo5, hi5⟩ - - (rfl : v5 = _)
        refine hK _ _ ?_; clear hK K
        refine stepK rfl (by kernel_rfl) (fun K hK => ?_); go_simp
        apply Exists.intro; apply And.intro; (focus (intro wk hk; go_simp; exact ⟨rfl, rfl⟩)); refine hK _ _ ?_; clear hK K
        refine stepK rfl (by kernel_rfl) (fun K hK => ?_); go_simp
        apply Exists.intro; apply And.intro; (focus (intro wk hk; go_simp; exact ⟨rfl, rfl⟩)); refine hK _ _ ?_; clear hK K
        refine stepK rfl (by kernel_rfl) (fun K hK => ?_); go_simp
        first | (refine hK _ _ ?_; clear hK K) | (apply Exists.intro; apply And.intro; (focus (intro wk hk; go_simp; exact ⟨rfl, rfl⟩)); refine hK _ _ ?_; clear hK K)
        refine stepK rfl (by kernel_rfl) (fun K hK => ?_); go_simp
        first | (refine hK _ _ ?_; clear hK K) | (apply Exists.intro; apply And.intro; (focus (intro wk hk; go_simp; exact ⟨rfl, rfl⟩)); refine hK _ _ ?_; clear hK K)
        refine stepK rfl (by kernel_rfl) (fun K hK => ?_); go_simp
        first | (refine hK _ _ ?_; clear hK K) | (apply Exists.intro; apply And.intro; (focus (intro wk hk; have cc : wk.cell? ⟨lo6, 0, none⟩ = some (.int .i64 sn) := (K6.Row.tr r3 hk.undrew id).cell 0; go_simp; exact ⟨rfl, rfl⟩)); refine hK _ _ ?_; clear hK K)
        refine stepK rfl (by kernel_rfl) (fun K hK => ?_); go_simp
        first | (refine hK _ _ ?_; clear hK K) | (apply Exists.intro; apply And.intro; (focus (intro wk hk; go_simp; exact ⟨rfl, rfl⟩)); refine hK _ _ ?_; clear hK K)
        refine stepK rfl (by kernel_rfl) (fun K hK => ?_); go_simp
        first | (refine hK _ _ ?_; clear hK K) | (apply Exists.intro; apply And.intro; (focus (intro wk hk; go_simp; exact ⟨rfl, rfl⟩)); refine hK _ _ ?_; clear hK K)
        refine stepK rfl (by kernel_rfl) (fun K hK => ?_); go_simp
        first | (refine hK _ _ ?_; clear hK K) | (apply Exists.intro; apply And.intro; (focus (intro wk hk; go_simp; exact ⟨rfl, rfl⟩)); refine hK _ _ ?_; clear hK K)
        refine stepK rfl (by kernel_rfl) (fun K hK => ?_); go_simp
        first | (refine hK _ _ ?_; clear hK K) | (apply Exists.intro; apply And.intro; (focus (intro wk hk; have cc : wk.cell? ⟨w.heap.size, 2, none⟩ = some (.slice (some ⟨gx, ox, none⟩) m nc) := ((K6.Row.tr r1 hk.undrew id).cell 2).trans x2; go_simp; exact ⟨rfl, rfl⟩)); refine hK _ _ ?_; clear hK K)
        refine stepK rfl (by kernel_rfl) (fun K hK => ?_); go_simp
        first | (refine hK _ _ ?_; clear hK K) | (apply Exists.intro; apply And.intro; (focus (intro wk hk; go_simp; exact ⟨rfl, rfl⟩)); refine hK _ _ ?_; clear hK K)
        refine stepK rfl (by kernel_rfl) (fun K hK => ?_); go_simp
        first | (refine hK _ _ ?_; clear hK K) | (apply Exists.intro; apply And.intro; (focus (intro wk hk; go_simp; exact ⟨rfl, rfl⟩)); refine hK _ _ ?_; clear hK K)
        refine stepK rfl (by kernel_rfl) (fun K hK => ?_); go_simp
        first | (refine hK _ _ ?_; clear hK K) | (apply Exists.intro; apply And.intro; (focus (intro wk hk; have cc : wk.cell? ⟨gx, ox + i, none⟩ = some (.int .i64 x) := (World.cell?_of_block (hk.undrew.below.block _ hgx)).trans cx0; go_simp; exact ⟨rfl, rfl⟩)); refine hK _ _ ?_; clear hK K)
        refine stepK rfl (by kernel_rfl) (fun K hK => ?_); go_simp
        first | (refine hK _ _ ?_; clear hK K) | (apply Exists.intro; apply And.intro; (focus (intro wk hk; go_simp; exact ⟨rfl, rfl⟩)); refine hK _ _ ?_; clear hK K)
        refine stepK rfl (by kernel_rfl) (fun K hK => ?_); go_simp
        first | (refine hK _ _ ?_; clear hK K) | (apply Exists.intro; apply And.intro; (focus (intro wk hk; have cc : wk.cell? ⟨w.heap.size, 2, none⟩ = some (.slice (some ⟨gx, ox, none⟩) m nc) := ((K6.Row.tr r1 hk.undrew id).cell 2).trans x2; go_simp; exact ⟨rfl, rfl⟩)); refine hK _ _ ?_; clear hK K)
        refine stepK rfl (by kernel_rfl) (fun K hK => ?_); go_simp
        first | (refine hK _ _ ?_; clear hK K) | (apply Exists.intro; apply And.intro; (focus (intro wk hk; go_simp; exact ⟨rfl, rfl⟩)); refine hK _ _ ?_; clear hK K)
        refine stepK rfl (by kernel_rfl) (fun K hK => ?_); go_simp
        first | (refine hK _ _ ?_; clear hK K) | (apply Exists.intro; apply And.intro; (focus (intro wk hk; go_simp; exact ⟨rfl, rfl⟩)); refine hK _ _ ?_; clear hK K)
        refine stepK rfl (by kernel_rfl) (fun K hK => ?_); go_simp
        first | (refine hK _ _ ?_; clear hK K) | (apply Exists.intro; apply And.intro; (focus (intro wk hk; go_simp; exact ⟨rfl, rfl⟩)); refine hK _ _ ?_; clear hK K)
        refine stepK rfl (by kernel_rfl) (fun K hK => ?_); go_simp
        first | (refine hK _ _ ?_; clear hK K) | (apply Exists.intro; apply And.intro; (focus (intro wk hk; have cc : wk.cell? ⟨gx, ox + k, none⟩ = some (.int .i64 y) := (World.cell?_of_block (hk.undrew.below.block _ hgx)).trans cy0; go_simp; exact ⟨rfl, rfl⟩)); refine hK _ _ ?_; clear hK K)
        refine stepK rfl (by kernel_rfl) (fun K hK => ?_); go_simp
        first | (refine hK _ _ ?_; clear hK K) | (apply Exists.intro; apply And.intro; (focus (intro wk hk; go_simp; exact ⟨rfl, rfl⟩)); refine hK _ _ ?_; clear hK K)
        refine stepK rfl (by kernel_rfl) (fun K hK => ?_); go_simp
        first | (refine hK _ _ ?_; clear hK K) | (apply Exists.intro; apply And.intro; (focus (intro wk hk; go_simp; exact ⟨rfl, rfl⟩)); refine hK _ _ ?_; clear hK K)
        refine stepK rfl (by kernel_rfl) (fun K hK => ?_); go_simp
        apply Exists.intro; apply And.intro; (focus (intro wk hk; go_simp; exact ⟨rfl, rfl⟩)); refine hK _ _ ?_; clear hK K
        refine stepN ?_
        refine hQ _ _ ?_
        intro w4 hT hG hF
        have hb4 := hT.undrew.below
        have H4 := Lib.hid (show Below w.heap.size w w4 ∧ Row w4 w.heap.size 116 ct ∧ Row w4 lo6 107 (#[.int .i64 sn, .bool st, .int .i64 sa, .bool se, .int .i64 sh, .bool sc]) from ⟨hl.trans (hb4.mono hl.size), r1.below hb4 r1.lt, r3.below hb4 r3.lt⟩)
        clear hT hG hF hQ QQ L hl r1 r3 hb4 kx cx0
        go_wp2_with fail
        go_roundg (gk - 1)
        case measure => omega
        case rel => exact ⟨i + 1, by omega, by go_num, hnext, H4⟩
    · obtain rfl : i = m := by omega
      have hlt : ¬ (i : Int) < (i : Int) := by omega
      have hbt : b3 = true := by rw [← HN.out.2.2.1]; exact nums_yes (fun j hj => hall.out j (by have := HN.out.2.1; omega))
      subst hbt
      have d3 := (hinv.out.2.1.cell 3).trans x3
      clear hall HN
      go_wp2_with fail
      refine (kA.out _ hinv.out.1).mono ?_
      rintro e w3 ⟨rfl, hb⟩
      have H3 := Lib.hid (show Below w.heap.size w w3 ∧ Row w3 w.heap.size 116 ct ∧ Row w3 lo6 107 (#[.int .i64 sn, .bool st, .int .i64 sa, .bool se, .int .i64 sh, .bool sc]) from ⟨hinv.out.1.trans (hb.mono hinv.out.1.size), hinv.out.2.1.below hb hinv.out.2.1.lt, hinv.out.2.2.below hb hinv.out.2.2.lt⟩)
      clear kA hb hinv d3
      cases b4
      · clear kG kS
        go_wp2_with fail
        go_ret
        exact ⟨rfl, H3.out.1⟩
      have e5 := H3.out.2.2.cell 5
      cases sc
      · have hbx' : b6 = bx := by have h := hbx.out; simpa using h
        subst hbx'
        clear hbx
        go_upto_region 14 with (fail)
        have hl := H3.out.1
        have r1 := H3.out.2.1
        clear H3 e5 kG
        let L : List Sp := [sV 3 [] [] (fun u => u = .bool b6)]
        refine wp_region_six0 (shs L) (look6 L) (None_) (by kernel_rfl) (by kernel_rfl) (mk_St L [] [] (by kernel_rfl) (by kernel_rfl) ⟨ok_V ⟨_, rfl⟩, trivial⟩ (by simp)) ?_
        intro QQ hQ
        refine stepK rfl (by kernel_rfl) (fun K hK => ?_); go_simp
        apply Exists.intro; apply And.intro; (focus (intro wk hk; go_simp; exact ⟨rfl, rfl⟩)); refine hK _ _ ?_; clear hK K
        refine stepK rfl (by kernel_rfl) (fun K hK => ?_); go_simp
        apply Exists.intro; apply And.intro; (focus exact kLoadMid rfl rfl aggT114 r1 hmid hcsz id); refine hK _ _ ?_; clear hK K
        refine stepK rfl (by kernel_rfl) (fun K hK => ?_); go_simp
        apply Exists.intro; apply And.intro; (focus (intro wk hk; go_simp; exact ⟨rfl, rfl⟩)); refine hK _ _ ?_; clear hK K
        refine stepS _ rfl (by kernel_rfl) (fun K hK => ?_); go_simp
        refine ⟨?_, ?_⟩
        · intro wk hk hg hu; go_simp; refine upon_enter ((kS.out _ (hl.trans (hk.below.mono hl.size))).mono ?_); rintro e w' ⟨rfl, hb⟩; exact ⟨_, rfl, left_V (p := fun u => u = .bool b6) rfl (hb) rfl⟩
        rintro ⟨v3, lo3, hi3⟩ - - (rfl : v3 = _)
        refine hK _ _ ?_; clear hK K
        refine stepK rfl (by kernel_rfl) (fun K hK => ?_); go_simp
        apply Exists.intro; apply And.intro; (focus (intro wk hk; go_simp; exact ⟨rfl, rfl⟩)); refine hK _ _ ?_; clear hK K
        refine stepN ?_
        refine hQ _ _ ?_
        intro w9 hT hG hF
        have H9 := Lib.hid (hl.trans (hT.below.mono hl.size))
        clear hT hG hF hQ QQ L hl r1
        go_wp2_with fail
        go_ret
        exact ⟨by first | rfl | (simp; done), H9.out⟩
      · have hbx' : b5 = bx := by have h := hbx.out; simpa using h
        subst hbx'
        clear hbx
        go_upto_region 13 with (fail)
        have hl := H3.out.1
        have r1 := H3.out.2.1
        clear H3 e5 kS
        let L : List Sp := [sV 2 [] [] (fun u => u = .bool b5)]
        refine wp_region_six0 (shs L) (look6 L) (None_) (by kernel_rfl) (by kernel_rfl) (mk_St L [] [] (by kernel_rfl) (by kernel_rfl) ⟨ok_V ⟨_, rfl⟩, trivial⟩ (by simp)) ?_
        intro QQ hQ
        refine stepK rfl (by kernel_rfl) (fun K hK => ?_); go_simp
        apply Exists.intro; apply And.intro; (focus (intro wk hk; go_simp; exact ⟨rfl, rfl⟩)); refine hK _ _ ?_; clear hK K
        refine stepK rfl (by kernel_rfl) (fun K hK => ?_); go_simp
        apply Exists.intro; apply And.intro; (focus exact kLoadMid rfl rfl aggT114 r1 hmid hcsz id); refine hK _ _ ?_; clear hK K
        refine stepS _ rfl (by kernel_rfl) (fun K hK => ?_); go_simp
        refine ⟨?_, ?_⟩
        · intro wk hk hg hu; go_simp; refine upon_enter ((kG.out _ (hl.trans (hk.below.mono hl.size))).mono ?_); rintro e w' ⟨rfl, hb⟩; exact ⟨_, rfl, left_V (p := fun u => u = .bool b5) rfl (hb) rfl⟩
        rintro ⟨v2, lo2, hi2⟩ - - (rfl : v2 = _)
        refine hK _ _ ?_; clear hK K
        refine stepK rfl (by kernel_rfl) (fun K hK => ?_); go_simp
        apply Exists.intro; apply And.intro; (focus (intro wk hk; go_simp; exact ⟨rfl, rfl⟩)); refine hK _ _ ?_; clear hK K
        refine stepN ?_
        refine hQ _ _ ?_
        intro w9 hT hG hF
        have H9 := Lib.hid (hl.trans (hT.below.mono hl.size))
        clear hT hG hF hQ QQ L hl r1
        go_wp2_with fail
        go_ret
        exact ⟨by first | rfl | (simp; done), H9.out⟩
end Go.Proofs.Ytpdenhmkpiafiaa
namespace Go.Proofs.Ytpdenhmkpiafiaa
open Go Go.RowKit K6
set_option maxRecDepth 100000 in
theorem appendI_nil {w : World} {base n : Nat} {v : Value} {zs : List Value} (h : w.ownsRow base 3 1 v n zs) : (Builtin.append_ #[22, 22] 22 #[v, .slice none 0 0]).run Try.prog w = .ok v w := by
  obtain ⟨i, hi⟩ : ∃ i, Try.prog.info? 3 = some i := ⟨_, rfl⟩
  rcases h.2 with ⟨rfl, h0⟩ | ⟨g, cap, cur, rfl, hb, hg, h2, h3, h4, h5⟩
  · simp [Builtin.append_, run_underlying Try.underlying22, sizeOf, typeInfo, hi, Builtin.lenOf, Builtin.firstCells]
  · simp [Builtin.append_, run_underlying Try.underlying22, sizeOf, typeInfo, hi, Builtin.lenOf, Builtin.firstCells, h2, storeCells]
theorem icl_len (l : List Int) : (l.flatMap icl).length = l.length * 1 := by
  rw [Nat.mul_one]
  induction l with
  | nil => rfl
  | cons a l ih => rw [List.flatMap_cons, List.length_append, ih, List.length_cons]; show 1 + _ = _; omega
theorem icl_one (l : List Int) : ∀ u ∈ l.flatMap icl, u.oneCell' = true := fun u hu => by
  obtain ⟨x, -, hx⟩ := List.mem_flatMap.1 hu
  rw [List.mem_singleton.1 hx]
  rfl
set_option maxRecDepth 100000 in
set_option maxHeartbeats 4000000 in
theorem appendI_run {w : World} {base n : Nat} {v u : Value} {zs : List Value} {k : List Int} (h : w.ownsRow base 3 1 v n zs) (hu : Oi w 0 u k) (hL : n + k.length ≤ 1000000) (hb : base ≤ w.heap.size) :
    ∃ v' w', (Builtin.append_ #[22, 22] 22 #[v, u]).run Try.prog w = .ok v' w' ∧ w'.ownsRow base 3 1 v' (n + k.length) (zs ++ k.flatMap icl) ∧ w.grownBy w' v.ownBlock ∧ (v'.ownBlock = v.ownBlock ∨ v'.ownBlock = some w.heap.size) := by
  have hi := hu.is
  rcases id hu.2 with ⟨rfl, h0⟩ | ⟨g, cap, cur, rfl, h1, hg, rest⟩
  · obtain rfl : k = [] := List.eq_nil_of_length_eq_zero h0
    exact ⟨v, w, appendI_nil h, by simpa using h, ⟨rfl, rfl, rfl, Nat.le_refl _, fun _ _ _ => rfl⟩, .inl rfl⟩
  · obtain ⟨v', w', hrun, ho, hgr, -, hw⟩ := run_append_own_at (P := Try.prog) w base 22 22 3 _ _ 1 8 rfl rfl rfl rfl rfl rfl (by decide) v n zs h ⟨g, 0, none⟩ k.length cap (k.flatMap icl) (icl_len k) (fun j u hj => World.ownsRow.cells hu (g := g) rfl j u hj) (icl_one k) (by simp only [maxLen]; omega) (by omega) hb
    exact ⟨v', w', hrun, ho, hgr, hw⟩
def tx0 : Txv := ⟨0, 0, none, 0, [], none, 0, [], none, 0, [], cm0⟩
structure GT (w wx : World) (b0 lo hi g : Nat) (es : Int) (ys : List Int) (t : Txv) : Prop where
  src : SA wx lo hi g es ys
  tr : Tr (fun b => b = g) w wx
  r0 : Row wx b0 116 tx0.cs.toArray
  r1 : Row wx w.heap.size 116 t.cs.toArray
  gh : g < w.heap.size
  hh : hi ≤ w.heap.size
  b0l : b0 < lo
  lg : lo ≤ g
  tk : t.c.tok.length = 32
theorem GT.call {w wx wy : World} {b0 lo hi g : Nat} {es e1 : Int} {ys x1 : List Int} {t : Txv} (h : GT w wx b0 lo hi g es ys t) (hs : SA wy lo hi g e1 x1) (ht : Tr (fun b => b = g) wx wy) : GT w wy b0 lo hi g e1 x1 t :=
  ⟨hs, h.tr.trans ht, K6.Row.tr h.r0 ht (by have := h.lg; have := h.b0l; omega), K6.Row.tr h.r1 ht (by have := h.gh; omega), h.gh, h.hh, h.b0l, h.lg, h.tk⟩
theorem GT.put {w wx wy : World} {b0 lo hi g : Nat} {es : Int} {ys : List Int} {t u : Txv} (h : GT w wx b0 lo hi g es ys t) (ht : Tr (fun b => b = w.heap.size) wx wy) (hr : Row wy w.heap.size 116 u.cs.toArray) (hu : u.c.tok.length = 32) : GT w wy b0 lo hi g es ys u :=
  ⟨h.src.keep ht fun b _ h2 hx => by have hx' : b = w.heap.size := hx; have := h.hh; omega, h.tr.trans_new ht fun b hb hlt => by have hb' : b = w.heap.size := hb; omega, K6.Row.tr h.r0 ht (by have := h.b0l; have := h.lg; have := h.gh; omega), hr, h.gh, h.hh, h.b0l, h.lg, hu⟩
structure GO (wx : World) (base : Nat) (t : Txv) : Prop where
  n : Oi wx base t.nv t.n
  a : Oe wx base t.av t.a
  h : Oh wx base t.hv t.h
  c : CmIn wx base t.c
theorem GO.keep {X : Nat → Prop} {w w' : World} {base : Nat} {t : Txv} (h : GO w base t) (hT : Tr X w w') (hX : ∀ b, base ≤ b → ¬ X b) : GO w' base t :=
  ⟨own_tr h.n hT fun b hb => hX b (own_lt h.n b hb).1, own_tr h.a hT fun b hb => hX b (own_lt h.a b hb).1, own_tr h.h hT fun b hb => hX b (own_lt h.h b hb).1, h.c.keep hT hX⟩
structure PureT (K : TxK) : Prop where
  k : I64 K.1
  f : I64 K.2.1
  n : ∀ x ∈ K.2.2.1, I64 x
  a : ∀ x ∈ K.2.2.2.1, x < M
  h : HsOk K.2.2.2.2.1
theorem GO.ok {w : World} {base : Nat} {t : Txv} (h : GO w base t) (hp : PureT t.key) : TxOk w t :=
  ⟨hp.k, hp.f, Oi.is h.n, hp.n, Oe.us h.a, hp.a, Oh.hs h.h hp.h, hp.h, h.c.ok⟩
theorem gNs_I64 (n : Nat) : ∀ s : St, ∀ x ∈ (gMany (gN 1099511627776) n s).1, I64 x := by
  induction n with
  | zero => intro s x h; cases h
  | succ n ih =>
    intro s x hx
    by_cases h0 : s.1 = 0
    · rw [gMany_go _ _ h0] at hx
      rcases List.mem_cons.1 hx with rfl | hx
      · exact gV_I64 _ _
      · exact ih _ x hx
    · rw [gMany_stop _ _ h0] at hx; cases hx
theorem gAs_ltM (n : Nat) : ∀ {s : St}, By s.2 → ∀ a ∈ (gMany gA n s).1, a < M := by
  induction n with
  | zero => intro s _ a h; cases h
  | succ n ih =>
    intro s h a ha
    by_cases h0 : s.1 = 0
    · rw [gMany_go _ _ h0] at ha
      rcases List.mem_cons.1 ha with rfl | ha
      · exact gA_lt h
      · exact ih (gA_by h) a ha
    · rw [gMany_stop _ _ h0] at ha; cases ha
theorem gTx_parts {xs : List Int} {k f : Nat} {e1 e2 e3 e4 e5 e6 e7 e8 : Int} {x1 x2 x3 x4 x5 x6 x7 x8 : List Int} {N1 N2 : List Int} {tl : Int} {LA : List Nat} {LH : List (List Int)} {CK : CmK}
    (h1 : gV 28 (0, xs) = (k, e1, x1)) (h2 : gV 4294967295 (e1, x1) = (f, e2, x2)) (h3 : gMany (gN 1099511627776) (shpOf (k : Int)).n.toNat (e2, x2) = (N1, e3, x3)) (h4 : gTail (shpOf (k : Int)).t (e3, x3) = (tl, e4, x4)) (h5 : gMany (gN 1099511627776) tl.toNat (e4, x4) = (N2, e5, x5))
    (h6 : gMany gA (if (shpOf (k : Int)).e = true then tl else (shpOf (k : Int)).a).toNat (e5, x5) = (LA, e6, x6)) (h7 : gMany gH (shpOf (k : Int)).h.toNat (e6, x6) = (LH, e7, x7)) (h8 : gCo (shpOf (k : Int)).c (e7, x7) = (CK, e8, x8)) :
    gTx (0, xs) = (((k : Int), (f : Int), N1 ++ N2, LA, LH, CK), e8, x8) := by
  have g1 : gN 28 (0, xs) = ((k : Int), e1, x1) := by unfold gN; rw [h1]
  have g2 : gN 4294967295 (e1, x1) = ((f : Int), e2, x2) := by unfold gN; rw [h2]
  unfold gTx gTxX txF rSeq gNums rSeq
  simp only [g1, g2, h3, h4, h5, h6, h7, h8]
def ParT (w : World) (K : TxK) (er : Int) (r : Ending) (w' : World) : Prop := ∃ t : Txv, t.key = K ∧ r = .returned (.tuple #[.agg t.cs.toArray, .int .i64 er]) ∧ TxOk w' t ∧ Below w.heap.size w w' ∧ LightT t
theorem tx0_ok (w : World) : TxOk w tx0 :=
  ⟨⟨by decide, by decide⟩, ⟨by decide, by decide⟩, Rs.nil _ _ _, (fun _ h => (by cases h)), Us.nil w, (fun _ h => (by cases h)), Rs.nil _ _ _, (fun _ h => (by cases h)), cm0_ok w⟩
theorem tx0_light : LightT tx0 := ⟨by decide, by decide, by decide, by decide, by decide, fun _ h => (by cases h)⟩
theorem gPr_len (s : St) : (gPr s).1.length ≤ 10 := by
  unfold gPr
  have h1 := gMany_len gH (gV 10 s).1 (gV 10 s).2
  have h2 := gV_most (most := 10) (s := s) (by decide)
  omega
theorem gLf_len (s : St) : (gLf s).1.2.2.2.length ≤ 10 := by
  unfold gLf rSeq
  exact gPr_len _
theorem gLs_lens (n : Nat) : ∀ s : St, ∀ X ∈ (gMany gLf n s).1, X.2.2.2.length ≤ 10 := by
  induction n with
  | zero => intro s X h; cases h
  | succ n ih =>
    intro s X hX
    by_cases h0 : s.1 = 0
    · rw [gMany_go _ _ h0] at hX
      rcases List.mem_cons.1 hX with rfl | hX
      · exact gLf_len s
      · exact ih _ X hX
    · rw [gMany_stop _ _ h0] at hX; cases hX
theorem gCl_lens (s : St) : (gCl s).1.2.2.2.2.2.1.length ≤ 10 ∧ (gCl s).1.2.2.2.2.2.2.length ≤ 8 ∧ ∀ X ∈ (gCl s).1.2.2.2.2.2.2, X.2.2.2.length ≤ 10 := by
  unfold gCl gClX clOf rSeq
  refine ⟨gPr_len _, ?_, ?_⟩
  · simp only [gLs]
    refine Nat.le_trans (gMany_len _ _ _) ?_
    have h := fun s => gV_most (most := 8) (s := s) (by decide)
    exact Int.ofNat_le.1 (h _)
  · simp only [gLs]
    exact gLs_lens _ _
end Go.Proofs.Ytpdenhmkpiafiaa
