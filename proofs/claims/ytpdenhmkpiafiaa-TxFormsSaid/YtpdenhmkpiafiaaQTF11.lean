/-
  What the statement rests on, part 12: TxRef5 OctKU TxLives TxFormsW.
-/
import Derived.Test.YtpdenhmkpiafiaaQTF1
import Derived.Test.YtpdenhmkpiafiaaQTF7
import Derived.Test.YtpdenhmkpiafiaaQTF8
import Derived.Test.YtpdenhmkpiafiaaQTF9
import Derived.Test.YtpdenhmkpiafiaaQTF10
namespace Go.Proofs.Ytpdenhmkpiafiaa
open Go Go.RowKit K6
theorem info114 {Y : Array Value} (h : Y.size = 38) : (Try.prog.info? 114).map (·.size) = some Y.size := by rw [h]; kernel_rfl
set_option maxRecDepth 100000 in
set_option maxHeartbeats 64000000 in
theorem rtxbytes_at (t : Txv) (w : World) (ht : TxOk w t) (hl : LightT t) :
    Calls Try.prog 139 #[.agg t.cs.toArray] w fun e w' => ∃ x, e = .returned x ∧ Ob w' w.heap.size x (bytK t.key) ∧ Below w.heap.size w w' := by
  have kg := fun wx (hb : Below w.heap.size w wx) => rgood_at t wx (ht.below hb) hl
  have hsz : t.cs.toArray.size = 43 := by rw [List.size_toArray]; exact Txv.len ht.c.tok
  by_cases hg : goodK t.key = true
  case neg =>
    have hg' : goodK t.key = false := by simpa using hg
    rw [hg'] at kg
    have e0 : bytK t.key = [] := if_neg hg
    rw [e0]
    obtain ⟨ct, hct⟩ : ∃ c, t.cs.toArray = c := ⟨_, rfl⟩
    rw [hct] at kg hsz ⊢
    replace kg := Lib.hid kg
    clear hg hg' e0 hct ht hl
    go_enter Try.func139, Try.ntmps139
    go_upto_region 1 with (fail)
    refine wp_abs (Mem w [(w.heap.size, 116, ct)]) ⟨by go_grown, by (repeat (first | (refine Row.new_at ?_; simp; done) | refine Row.alloc ?_ _)), trivial⟩ ?_
    intro w0 hM
    obtain ⟨hl, r1, -⟩ := hM
    let L : List Sp := [sV 1 [] [] (fun u => u = .bool false)]
    refine wp_region_six0 (shs L) (look6 L) (None_) (by kernel_rfl) (by kernel_rfl) (mk_St L [] [] (by kernel_rfl) (by kernel_rfl) ⟨ok_V ⟨_, rfl⟩, trivial⟩ (by simp)) ?_
    intro QQ hQ
    refine stepK rfl (by kernel_rfl) (fun K hK => ?_); go_simp
    apply Exists.intro; apply And.intro; (focus exact kLoad rfl rfl aggT116 r1 hsz id); refine hK _ _ ?_; clear hK K
    refine stepS _ rfl (by kernel_rfl) (fun K hK => ?_); go_simp
    refine ⟨?_, ?_⟩
    · intro wk hk hg hu; go_simp; refine upon_enter ((kg.out _ (hl.trans (hk.below.mono hl.size))).mono ?_); rintro e w' ⟨rfl, hb⟩; exact ⟨_, rfl, left_V (p := fun u => u = .bool false) rfl (hb) rfl⟩
    rintro ⟨v1, lo1, hi1⟩ - - (rfl : v1 = _)
    refine hK _ _ ?_; clear hK K
    refine stepK rfl (by kernel_rfl) (fun K hK => ?_); go_simp
    apply Exists.intro; apply And.intro; (focus (intro wk hk; go_simp; exact ⟨rfl, rfl⟩)); refine hK _ _ ?_; clear hK K
    refine stepN ?_
    refine hQ _ _ ?_
    intro w1 hT hG hF
    have H9 := Lib.hid (hl.trans (hT.below.mono hl.size))
    clear hT hG hF hQ QQ L hl r1 kg
    go_wp2_with fail
    go_ret
    exact ⟨_, rfl, Ob.nil _ _, H9.out⟩
  rw [hg] at kg
  have hsn := shp_n t.k
  have kO := fun wx => rof15_at t.k wx
  unfold OfP at kO
  obtain ⟨P0, hP0⟩ : ∃ P, enc t.k.toNat ++ enc t.f.toNat = P := ⟨_, rfl⟩
  obtain ⟨P1, hP1⟩ : ∃ P, P0 ++ numB (shpOf t.k) t.n t.n.length = P := ⟨_, rfl⟩
  obtain ⟨P2, hP2⟩ : ∃ P, P1 ++ t.a.flatMap amtL = P := ⟨_, rfl⟩
  obtain ⟨P3, hP3⟩ : ∃ P, P2 ++ t.h.flatMap (fun y : List Int => y) = P := ⟨_, rfl⟩
  obtain ⟨P4, hP4⟩ : ∃ P, P3 ++ clKB t.c.key = P := ⟨_, rfl⟩
  have hbyt : bytK t.key = (if (shpOf t.k).c = true then (if P4.length ≤ 4096 then P4 else []) else (if P3.length ≤ 4096 then P3 else [])) := by
    unfold bytK
    rw [if_pos hg]
    have e : putK t.key = P3 ++ (if (shpOf t.k).c = true then clKB t.c.key else []) := by
      unfold putK Txv.key
      simp only
      rw [← hP3, ← hP2, ← hP1, ← hP0]
      simp only [List.append_assoc]
    rw [e]
    cases (shpOf t.k).c
    · simp
    · simp [hP4]
  have l0 : P0.length ≤ 18 := by rw [← hP0, List.length_append]; have := enc_le9 ht.k; have := enc_le9 ht.f; omega
  have l1 : P1.length ≤ 1000 := by rw [← hP1, List.length_append]; have := numB_le ht.nb hsn.1 (by have := hl.n; omega) t.n.length; have := hl.n; omega
  have l2 : P2.length ≤ 3000 := by rw [← hP2, List.length_append]; have := flat_le (f := amtL) (c := 33) (l := t.a) (fun y _ => amtL_le y); have := hl.a; omega
  have l3 : P3.length ≤ 5000 := by rw [← hP3, List.length_append]; have := flat_le (f := fun y : List Int => y) (c := 32) (l := t.h) (fun y hy => Nat.le_of_eq (ht.hb y hy).1); have := hl.h; omega
  have kv0 := fun wx => refvar_any (.slice none 0 0) [] t.k wx (Bs.nil wx) (by decide) ht.k.2
  have kv1 := fun wx vx (h : Bs wx vx (enc t.k.toNat)) => refvar_any vx (enc t.k.toNat) t.f wx h (by have := enc_le9 ht.k; omega) ht.f.2
  rw [List.nil_append] at kv0
  rw [hP0] at kv1
  obtain ⟨Pk, hPk⟩ : ∃ P, enc t.k.toNat = P := ⟨_, rfl⟩
  rw [hPk] at kv0 kv1
  have l4 : P3.length ≤ 5000 := l3
  obtain ⟨Q1, hQ1⟩ : ∃ P, P3 ++ enc t.c.r.toNat = P := ⟨_, rfl⟩
  obtain ⟨Q2, hQ2⟩ : ∃ P, Q1 ++ enc t.c.x.toNat = P := ⟨_, rfl⟩
  obtain ⟨Q3, hQ3⟩ : ∃ P, Q2 ++ enc t.c.e.toNat = P := ⟨_, rfl⟩
  obtain ⟨Q4, hQ4⟩ : ∃ P, Q3 ++ enc t.c.z.toNat = P := ⟨_, rfl⟩
  obtain ⟨Q5, hQ5⟩ : ∃ P, Q4 ++ t.c.tok = P := ⟨_, rfl⟩
  obtain ⟨Q6, hQ6⟩ : ∃ P, Q5 ++ prfB t.c.p = P := ⟨_, rfl⟩
  obtain ⟨Q7, hQ7⟩ : ∃ P, Q6 ++ enc t.c.l.length = P := ⟨_, rfl⟩
  have hPe : Q7 ++ t.c.l.flatMap (fun x => lfKB x.key) = P4 := by
    rw [← hP4]
    unfold clKB Cm.key
    simp only
    rw [flat_key, List.length_map, ← hQ7, ← hQ6, ← hQ5, ← hQ4, ← hQ3, ← hQ2, ← hQ1]
    simp only [List.append_assoc]
  have hc := ht.c
  have m1 : Q1.length ≤ 5009 := by rw [← hQ1, List.length_append]; have := enc_le9 hc.r; omega
  have m2 : Q2.length ≤ 5018 := by rw [← hQ2, List.length_append]; have := enc_le9 hc.x; omega
  have m3 : Q3.length ≤ 5027 := by rw [← hQ3, List.length_append]; have := enc_le9 hc.e; omega
  have m4 : Q4.length ≤ 5036 := by rw [← hQ4, List.length_append]; have := enc_le9 hc.z; omega
  have m5 : Q5.length ≤ 5068 := by rw [← hQ5, List.length_append, hc.tok]; omega
  have m6 : Q6.length ≤ 45000 := by rw [← hQ6, List.length_append]; have := prf_le' (fun y hy => (hc.h y hy).1) (by have := hl.p; omega); omega
  have m7 : Q7.length ≤ 50000 := by rw [← hQ7, List.length_append]; have := enc_len9 (m := t.c.l.length) (by have := hl.l; omega); omega
  have c1 := fun wx vx (h : Bs wx vx P3) => refvar_any vx P3 t.c.r wx h (by omega) hc.r.2
  have c2 := fun wx vx (h : Bs wx vx Q1) => refvar_any vx Q1 t.c.x wx h (by omega) hc.x.2
  have c3 := fun wx vx (h : Bs wx vx Q2) => refvar_any vx Q2 t.c.e wx h (by omega) hc.e.2
  have c4 := fun wx vx (h : Bs wx vx Q3) => refvar_any vx Q3 t.c.z wx h (by omega) hc.z.2
  have c5 := fun wx vx (h : Bs wx vx Q4) => refhash_put vx Q4 t.c.tok wx h (by omega) hc.tok
  have c6 := fun wx vx (hb : Below w.heap.size w wx) (h : Bs wx vx Q5) => rproof_at vx t.c.pv Q5 t.c.p wx h (by omega) (hc.p.below hb) (fun y hy => (hc.h y hy).1) (by have := hl.p; omega)
  have c7 := fun wx vx (h : Bs wx vx Q6) => refvar_any vx Q6 (t.c.l.length : Int) wx h (by omega) (by have := hl.l; omega)
  rw [hQ1] at c1
  rw [hQ2] at c2
  rw [hQ3] at c3
  rw [hQ4] at c4
  rw [hQ5] at c5
  rw [hQ6] at c6
  rw [Int.toNat_natCast, hQ7] at c7
  unfold Cm.pv at c6
  have HCL := hc.l
  unfold Cm.lv at HCL
  have z0 := cA0 t.c
  have z1 := cA1 t.c
  have z2 := cA2 t.c
  have z4 := cA35 hc.tok
  have z5 := cA36 hc.tok
  have z6 := cA37 hc.tok
  have zt := Cm.tok_ hc.tok
  have zs : (bv t.c.tok).toArray.size = 32 := bv_arr hc.tok
  have zo := t.c.one
  obtain ⟨tokA, htA⟩ : ∃ x, (bv t.c.tok).toArray = x := ⟨_, rfl⟩
  rw [htA] at c5 zs zt
  obtain ⟨np, hnp⟩ : ∃ n, t.c.p.length = n := ⟨_, rfl⟩
  obtain ⟨pq, hpq⟩ : ∃ n, t.c.pq = n := ⟨_, rfl⟩
  obtain ⟨pc, hpc⟩ : ∃ n, t.c.pc = n := ⟨_, rfl⟩
  obtain ⟨lq, hlq⟩ : ∃ n, t.c.lq = n := ⟨_, rfl⟩
  obtain ⟨lc, hlc⟩ : ∃ n, t.c.lc = n := ⟨_, rfl⟩
  obtain ⟨ll, hll⟩ : ∃ n, t.c.l = n := ⟨_, rfl⟩
  obtain ⟨nl, hnl⟩ : ∃ n, t.c.l.length = n := ⟨_, rfl⟩
  have hql := hl.q
  have hnl50 := hl.l
  rw [hnp, hpq, hpc] at z4 c6
  rw [hnl, hlq, hlc] at z5 HCL
  rw [hnl] at c7 hnl50
  rw [hll] at HCL hPe hql hnl
  obtain ⟨cr, hcr⟩ : ∃ x, t.c.r = x := ⟨_, rfl⟩
  obtain ⟨cx, hcx0⟩ : ∃ x, t.c.x = x := ⟨_, rfl⟩
  obtain ⟨ce, hce⟩ : ∃ x, t.c.e = x := ⟨_, rfl⟩
  obtain ⟨cz, hcz⟩ : ∃ x, t.c.z = x := ⟨_, rfl⟩
  rw [hcr] at z0 c1
  rw [hcx0] at z1 c2
  rw [hce] at z2 c3
  rw [hcz] at z6 c4
  have hnli : (nl : Int) ≤ 50 := by omega
  have HQ := Lib.hid (show _ ∧ _ ∧ _ ∧ _ from ⟨HCL, hql, hnl, m7⟩)
  have HPE := Lib.hid hPe
  clear l4 hPe hQ1 hQ2 hQ3 hQ4 hQ5 hQ6 hQ7 m1 m2 m3 m4 m5 m6 m7 HCL hql hnl50 htA hnp hpq hpc hlq hlc hll hnl hcr hcx0 hce hcz hc
  have x0 := tA0 t
  have x1 := tA1 t
  have x2 := tA2 t
  have x3 := tA3 t
  have x4 := tA4 t
  have hcsz : t.c.cs.toArray.size = 38 := by rw [List.size_toArray]; exact Cm.len ht.c.tok
  have hmid := Txv.c_ t
  have HN := ht.n
  have HA := ht.a
  have HH := ht.h
  unfold Txv.nv at HN
  unfold Txv.av at HA
  unfold Txv.hv at HH
  have hnb := ht.nb
  have hab := ht.ab
  have hhb : ∀ x ∈ t.h, x.length = 32 := fun x hx => (ht.hb x hx).1
  obtain ⟨m, hm⟩ : ∃ m, t.n.length = m := ⟨_, rfl⟩
  obtain ⟨nA, hnA⟩ : ∃ m, t.a.length = m := ⟨_, rfl⟩
  obtain ⟨nH, hnH⟩ : ∃ m, t.h.length = m := ⟨_, rfl⟩
  obtain ⟨nq, hnq⟩ : ∃ q, t.nq = q := ⟨_, rfl⟩
  obtain ⟨nc, hnc⟩ : ∃ q, t.nc = q := ⟨_, rfl⟩
  obtain ⟨aq, haq⟩ : ∃ q, t.aq = q := ⟨_, rfl⟩
  obtain ⟨ac, hac⟩ : ∃ q, t.ac = q := ⟨_, rfl⟩
  obtain ⟨hq, hhq⟩ : ∃ q, t.hq = q := ⟨_, rfl⟩
  obtain ⟨hc, hhc⟩ : ∃ q, t.hc = q := ⟨_, rfl⟩
  have hm50 : m ≤ 50 := by have := hl.n; omega
  have hA50 : nA ≤ 50 := by have := hl.a; omega
  have hH50 : nH ≤ 50 := by have := hl.h; omega
  rw [hm, hnq, hnc] at x2 HN
  rw [hnA, haq, hac] at x3 HA
  rw [hnH, hhq, hhc] at x4 HH
  rw [hm] at hP1
  obtain ⟨S, hS⟩ : ∃ S, shpOf t.k = S := ⟨_, rfl⟩
  rw [hS] at kO hbyt hsn hP1
  unfold Shp.cs at kO
  obtain ⟨sn, hSn⟩ : ∃ x, S.n = x := ⟨_, rfl⟩
  obtain ⟨st, hSt⟩ : ∃ x, S.t = x := ⟨_, rfl⟩
  obtain ⟨sa, hSa⟩ : ∃ x, S.a = x := ⟨_, rfl⟩
  obtain ⟨se, hSe⟩ : ∃ x, S.e = x := ⟨_, rfl⟩
  obtain ⟨sh, hSh⟩ : ∃ x, S.h = x := ⟨_, rfl⟩
  obtain ⟨sc, hSc⟩ : ∃ x, S.c = x := ⟨_, rfl⟩
  obtain ⟨ok, hok⟩ : ∃ x, okK t.k = x := ⟨_, rfl⟩
  rw [hSn, hSt, hSa, hSe, hSh, hSc, hok] at kO
  rw [hSc] at hbyt
  rw [hSn] at hsn
  obtain ⟨ct, hct⟩ : ∃ c, t.cs.toArray = c := ⟨_, rfl⟩
  obtain ⟨cc5, hcc⟩ : ∃ c, t.c.cs.toArray = c := ⟨_, rfl⟩
  rw [hct] at x0 x1 x2 x3 x4 hsz hmid kg ⊢
  rw [hcc] at hcsz hmid z0 z1 z2 z4 z5 z6 zt zo
  obtain ⟨tk, htk⟩ : ∃ k, t.k = k := ⟨_, rfl⟩
  obtain ⟨tf, htf⟩ : ∃ k, t.f = k := ⟨_, rfl⟩
  rw [htk] at x0 kO kv0
  rw [htf] at x1 kv1
  obtain ⟨ln, hln⟩ : ∃ l, t.n = l := ⟨_, rfl⟩
  obtain ⟨la, hla⟩ : ∃ l, t.a = l := ⟨_, rfl⟩
  obtain ⟨lh, hlh⟩ : ∃ l, t.h = l := ⟨_, rfl⟩
  rw [hln] at HN hm hP1 hnb
  rw [hla] at HA hnA hP2 hab
  rw [hlh] at HH hnH hP3 hhb
  obtain ⟨BY, hBY⟩ : ∃ l, bytK t.key = l := ⟨_, rfl⟩
  rw [hBY] at hbyt ⊢
  have HBY := Lib.hid hbyt
  have HC1 := Lib.hid (show _ ∧ _ ∧ _ ∧ _ from ⟨HN, hm, hnb, hsn⟩)
  have HC2 := Lib.hid (show _ ∧ _ from ⟨HA, hab⟩)
  have HC3 := Lib.hid (show _ ∧ _ from ⟨HH, hhb⟩)
  have HM2 := Lib.hid hnA
  have HM3 := Lib.hid hnH
  have hPl1 := Lib.hid l0
  have hPl2 := Lib.hid (show P1.length ≤ 2000000 by omega)
  have hPl3 := Lib.hid (show P2.length ≤ 2000000 by omega)
  have hPl4 := Lib.hid l3
  have HP1 := Lib.hid hP1
  have HP2 := Lib.hid hP2
  have HP3 := Lib.hid hP3
  have HS := Lib.hid (show _ ∧ _ from ⟨hSn, hSt⟩)
  replace kg := Lib.hid kg
  replace kO := Lib.hid kO
  replace kv0 := Lib.hid kv0
  replace kv1 := Lib.hid kv1
  replace c1 := Lib.hid c1
  replace c2 := Lib.hid c2
  replace c3 := Lib.hid c3
  replace c4 := Lib.hid c4
  replace c5 := Lib.hid c5
  replace c6 := Lib.hid c6
  replace c7 := Lib.hid c7
  have hinfC := info114 hcsz
  have hmi : (m : Int) ≤ 50 := by omega
  have hAi : (nA : Int) ≤ 50 := by omega
  have hHi : (nH : Int) ≤ 50 := by omega
  clear hg hbyt l0 l1 l2 l3 hP0 hP1 hP2 hP3 hPk hm hnA hnH hnq hnc haq hac hhq hhc hS hSn hSt hSa hSe hSh hSc hok hct hcc htk htf hln hla hlh hBY HN HA HH hnb hab hhb hm50 hA50 hH50 hsn ht hl hP4
  go_enter Try.func139, Try.ntmps139
  go_upto_region 1 with (fail)
  refine wp_abs (Mem w [(w.heap.size, 116, ct)]) ⟨by go_grown, by (repeat (first | (refine Row.new_at ?_; simp; done) | refine Row.alloc ?_ _)), trivial⟩ ?_
  intro w0 hM
  obtain ⟨hl, r1, -⟩ := hM
  let L : List Sp := [sV 1 [] [] (fun u => u = .bool true)]
  refine wp_region_six0 (shs L) (look6 L) (None_) (by kernel_rfl) (by kernel_rfl) (mk_St L [] [] (by kernel_rfl) (by kernel_rfl) ⟨ok_V ⟨_, rfl⟩, trivial⟩ (by simp)) ?_
  intro QQ hQ
  refine stepK rfl (by kernel_rfl) (fun K hK => ?_); go_simp
  apply Exists.intro; apply And.intro; (focus exact kLoad rfl rfl aggT116 r1 hsz id); refine hK _ _ ?_; clear hK K
  refine stepS _ rfl (by kernel_rfl) (fun K hK => ?_); go_simp
  refine ⟨?_, ?_⟩
  · intro wk hk hg hu; go_simp; refine upon_enter ((kg.out _ (hl.trans (hk.below.mono hl.size))).mono ?_); rintro e w' ⟨rfl, hb⟩; exact ⟨_, rfl, left_V (p := fun u => u = .bool true) rfl (hb) rfl⟩
  rintro ⟨v1, lo1, hi1⟩ - - (rfl : v1 = _)
  refine hK _ _ ?_; clear hK K
  refine stepK rfl (by kernel_rfl) (fun K hK => ?_); go_simp
  apply Exists.intro; apply And.intro; (focus (intro wk hk; go_simp; exact ⟨rfl, rfl⟩)); refine hK _ _ ?_; clear hK K
  refine stepN ?_
  refine hQ _ _ ?_
  intro w1 hT hG hF
  have hb1 := hT.below
  replace r1 := r1.below hb1 r1.lt
  replace hl := hl.trans (hb1.mono hl.size)
  clear hT hG hF hQ QQ L hb1 kg hsz
  go_upto_region 3 with (fail)
  let L : List Sp := [sV 2 [] [] (fun u => u = .tuple #[.agg #[.int .i64 sn, .bool st, .int .i64 sa, .bool se, .int .i64 sh, .bool sc], .bool ok]), sA 6 118 [7] #[.int .i64 0, .bool false, .int .i64 0, .bool false, .int .i64 0, .bool false], sT 7 6 118 [4] (fun g => aggOf g 4)]
  refine wp_region_six0 (shs L) (look6 L) (None_) (by kernel_rfl) (by kernel_rfl) (mk_St L [] [] (by kernel_rfl) (by kernel_rfl) ⟨ok_V ⟨_, rfl⟩, ok_A, ok_T aggOf_congr, trivial⟩ (by simp)) ?_
  intro QQ hQ
  refine stepK rfl (by kernel_rfl) (fun K hK => ?_); go_simp
  apply Exists.intro; apply And.intro; (focus (intro wk hk; go_simp; exact ⟨rfl, rfl⟩)); refine hK _ _ ?_; clear hK K
  refine stepK rfl (by kernel_rfl) (fun K hK => ?_); go_simp
  apply Exists.intro; apply And.intro; (focus (intro wk hk; have cc : wk.cell? ⟨w.heap.size, 0, none⟩ = some (.int .i64 tk) := ((K6.Row.tr r1 hk id).cell 0).trans x0; go_simp; exact ⟨rfl, rfl⟩)); refine hK _ _ ?_; clear hK K
  refine stepS _ rfl (by kernel_rfl) (fun K hK => ?_); go_simp
  refine ⟨?_, ?_⟩
  · intro wk hk hg hu; go_simp; refine upon_enter ((kO.out _).mono ?_); rintro e w' ⟨rfl, hb⟩; exact ⟨_, rfl, left_V (p := fun u => u = .tuple #[.agg #[.int .i64 sn, .bool st, .int .i64 sa, .bool se, .int .i64 sh, .bool sc], .bool ok]) rfl (hb) rfl⟩
  rintro ⟨v2, lo2, hi2⟩ - - (rfl : v2 = _)
  refine hK _ _ ?_; clear hK K
  refine stepK rfl (by kernel_rfl) (fun K hK => ?_); go_simp
  apply Exists.intro; apply And.intro; (focus (intro wk hk; go_simp; exact ⟨rfl, rfl⟩)); refine hK _ _ ?_; clear hK K
  refine stepK rfl (by kernel_rfl) (fun K hK => ?_); go_simp
  apply Exists.intro; apply And.intro; (focus (intro wk hk; go_simp; exact ⟨rfl, rfl⟩)); refine hK _ _ ?_; clear hK K
  refine stepK rfl (by kernel_rfl) (fun K hK => ?_); go_simp
  apply Exists.intro; apply And.intro; (focus (intro wk hk; go_simp; exact ⟨rfl, rfl⟩)); refine hK _ _ ?_; clear hK K
  refine stepS _ rfl (by kernel_rfl) (fun K hK => ?_); go_simp
  refine ⟨?_, ?_⟩
  · intro wk hk hg hu; go_simp; exact left_A rfl rfl
  rintro ⟨v6, lo6, hi6⟩ hlo6 hhi6 ⟨e6, f6⟩
  replace e6 : v6 = .pointer (some ⟨lo6, 0, none⟩) := e6; replace f6 : hi6 = lo6 + 1 := f6; replace hlo6 : _ ≤ lo6 := hlo6; subst e6; subst f6
  refine hK _ _ ?_; clear hK K
  refine stepS _ rfl (by kernel_rfl) (fun K hK => ?_); go_simp
  refine ⟨?_, ?_⟩
  · exact sStoreT rfl rfl rfl rfl rfl rfl rfl (by kernel_rfl) rfl (by kernel_rfl) (by decide) aggOf_congr
  rintro ⟨v7, lo7, hi7⟩ - - (rfl : v7 = undef)
  refine hK _ _ ?_; clear hK K
  refine stepK rfl (by kernel_rfl) (fun K hK => ?_); go_simp
  apply Exists.intro; apply And.intro; (focus (intro wk hk; go_simp; exact ⟨rfl, rfl⟩)); refine hK _ _ ?_; clear hK K
  refine stepN ?_
  refine hQ _ _ ?_
  intro w3 hT hG hF
  have hb3 := hT.below
  have r3 : Row w3 lo6 118 (#[.int .i64 sn, .bool st, .int .i64 sa, .bool se, .int .i64 sh, .bool sc]) := (hF 7 _ rfl rfl (by decide)).2
  replace r1 := r1.below hb3 r1.lt
  replace hl := hl.trans (hb3.mono hl.size)
  have hB3 : w.heap.size ≤ w3.heap.size := hl.size
  clear hT hG hF hQ QQ L hb3 kO hhi6 hlo6
  go_upto_region 4 with (fail)
  let L : List Sp := [sF 2 [] [] [] (fun _ => True) (fun x wq => Ob wq w.heap.size x.v Pk), sF 5 [2] [2] [] (fun _ => True) (fun x wq => Ob wq w.heap.size x.v P0)]
  refine wp_region_six (shs L) (look6 L) (None_) (by kernel_rfl) (by kernel_rfl) (mk_St L [] [] (by kernel_rfl) (by kernel_rfl) ⟨ok_F (any_some _) (fun _ _ _ h hb => Ob.below h hb), ok_F (any_some _) (fun _ _ _ h hb => Ob.below h hb), trivial⟩ (by simp)) ?_
  intro QQ hQ
  refine stepK rfl (by kernel_rfl) (fun K hK => ?_); go_simp
  apply Exists.intro; apply And.intro; (focus (intro wk hk; go_simp; exact ⟨rfl, rfl⟩)); refine hK _ _ ?_; clear hK K
  refine stepK rfl (by kernel_rfl) (fun K hK => ?_); go_simp
  apply Exists.intro; apply And.intro; (focus (intro wk hk; have cc : wk.cell? ⟨w.heap.size, 0, none⟩ = some (.int .i64 tk) := ((K6.Row.tr r1 hk.undrew id).cell 0).trans x0; go_simp; exact ⟨rfl, rfl⟩)); refine hK _ _ ?_; clear hK K
  refine stepS _ rfl (by kernel_rfl) (fun K hK => ?_); go_simp
  refine ⟨?_, ?_⟩
  · intro wk hk hg hu; go_simp; refine upon_enter ((kv0.out _).mono ?_); rintro e w' ⟨v, rfl, hv, hb9⟩; exact ⟨_, rfl, left_F rfl rfl hb9 trivial (hv.base (by have := hk.undrew.size; omega))⟩
  rintro ⟨v2_, lo2_, hi2_⟩ - - -
  refine hK _ _ ?_; clear hK K
  refine stepK rfl (by kernel_rfl) (fun K hK => ?_); go_simp
  apply Exists.intro; apply And.intro; (focus (intro wk hk; go_simp; exact ⟨rfl, rfl⟩)); refine hK _ _ ?_; clear hK K
  refine stepK rfl (by kernel_rfl) (fun K hK => ?_); go_simp
  apply Exists.intro; apply And.intro; (focus (intro wk hk; have cc : wk.cell? ⟨w.heap.size, 1, none⟩ = some (.int .i64 tf) := ((K6.Row.tr r1 hk.undrew id).cell 1).trans x1; go_simp; exact ⟨rfl, rfl⟩)); refine hK _ _ ?_; clear hK K
  refine stepS _ rfl (by kernel_rfl) (fun K hK => ?_); go_simp
  refine ⟨?_, ?_⟩
  · intro wk hk hg hu; have u2 := hu 2 (show 2 ∈ [2] by decide); go_simp; refine upon_enter ((kv1.out _ v2_ (show Ob wk w.heap.size v2_ Pk from u2).bs).mono ?_); rintro e w' ⟨v, rfl, hv, hb9⟩; exact ⟨_, rfl, left_F rfl rfl hb9 trivial (hv.base (by have := hk.undrew.size; omega))⟩
  rintro ⟨v5, lo5, hi5⟩ - - -
  refine hK _ _ ?_; clear hK K
  refine stepK rfl (by kernel_rfl) (fun K hK => ?_); go_simp
  apply Exists.intro; apply And.intro; (focus (intro wk hk; go_simp; exact ⟨rfl, rfl⟩)); refine hK _ _ ?_; clear hK K
  refine stepN ?_
  refine hQ _ _ ?_
  intro w2 hT hG hF
  have hb2 := hT.undrew.below
  have o5 : Ob w2 w.heap.size v5 P0 := hF 5 _ rfl rfl (by decide)
  have H1 := Lib.hid (show Ob w2 w.heap.size v5 P0 ∧ Below w2.heap.size w2 w2 from ⟨o5, Below.refl _ _⟩)
  have r1 := r1.below hb2 r1.lt
  have r3 := r3.below hb2 r3.lt
  have hl2 := hl.trans (hb2.mono hl.size)
  have HC1 := Lib.hid (show Is w2 _ _ ∧ _ from ⟨HC1.out.1.below hl2, HC1.out.2⟩)
  have HC2 := Lib.hid (show Us w2 _ _ ∧ _ from ⟨HC2.out.1.below hl2, HC2.out.2⟩)
  have HC3 := Lib.hid (show Hs w2 _ _ ∧ _ from ⟨HC3.out.1.below hl2, HC3.out.2⟩)
  have hBw : w.heap.size ≤ w2.heap.size := hl2.size
  have HR := Lib.hid (show Row w2 w.heap.size 116 ct ∧ Row w2 lo6 118 (#[.int .i64 sn, .bool st, .int .i64 sa, .bool se, .int .i64 sh, .bool sc]) ∧ Below w.heap.size w w2 from ⟨r1, r3, hl2⟩)
  have d2 := (r1.cell 2).trans x2
  clear hT hG hF hQ QQ L hb2 hl hl2 o5 r1 r3 kv0 kv1 hB3
  go_wp2_with fail
  go_loopg [5, 6, 7, 35] m (fun gg s5 s6 s7 s35 wr => ∃ i : Nat, i + gg = m ∧ s35 = .int .i64 (i : Int) ∧ Hid (Ob wr w.heap.size s5 (P0 ++ numB S ln i)) ∧ Hid (Below w2.heap.size w2 wr))
  case atStart => exact ⟨0, by omega, rfl, Lib.hid (by show Ob w2 w.heap.size _ (P0 ++ []); rw [List.append_nil]; exact H1.out.1), Lib.hid H1.out.2⟩
  case round =>
    clear H1 d2
    obtain ⟨i, him, rfl, hob, hinv⟩ := hrel
    by_cases hi : i < m
    · obtain ⟨x, hx⟩ : ∃ x, ln[i]? = some x := ⟨_, List.getElem?_eq_getElem (by have := HC1.out.2.1; omega)⟩
      obtain ⟨gx, ox, cx', hu, hgx, hcx⟩ := (HC1.out.1.below hinv.out).get hx
      simp only [Value.slice.injEq] at hu
      obtain ⟨rfl, -, -⟩ := hu
      have cx0 : wr.cell? ⟨gx, ox + i, none⟩ = some (.int .i64 x) := by have h := hcx 0 _ rfl; simpa using h
      have hxI := HC1.out.2.2.1 x (List.mem_of_getElem? hx)
      have hxD := get_D hx
      have hst := numB_step S ln i P0
      obtain ⟨Y0, hY0⟩ : ∃ Z, P0 ++ numB S ln i = Z := ⟨_, rfl⟩
      obtain ⟨Z1, hZ1⟩ : ∃ Z, P0 ++ numB S ln (i + 1) = Z := ⟨_, rfl⟩
      have hy0 : Y0.length ≤ 2000 := by
        rw [← hY0, List.length_append]
        have h1 := numB_le (s := S) HC1.out.2.2.1 (by rw [HS.out.1]; exact HC1.out.2.2.2.1) (by have := HC1.out.2.1; omega) i
        have h2 := hPl1.out
        omega
      rw [hY0] at hob hst
      rw [hZ1] at hst
      have r1 := HR.out.1.below hinv.out HR.out.1.lt
      have r3 := HR.out.2.1.below hinv.out HR.out.2.1.lt
      have e1 := r3.cell 1
      have d2 := (r1.cell 2).trans x2
      have e0 := r3.cell 0
      have hlt : (i : Int) < (m : Int) := by omega
      have hBr : w.heap.size ≤ wr.heap.size := by have := hinv.out.size; omega
      replace hZ1 := Lib.hid hZ1
      clear hcx r1 r3 hgx hY0 hx
      by_cases hc : st = true ∧ (i : Int) = sn
      · obtain ⟨hc1, hc2⟩ := hc
        obtain ⟨T, hT⟩ : ∃ T, (m : Int) - sn = T := ⟨_, rfl⟩
        have wT : IntKind.i64.wrap ((m : Int) - sn) = T := by have := HC1.out.2.2.2; rw [IntKind.wrap_i64]; omega
        have hTb : T < 1000 := by have := HC1.out.2.2.2; omega
        rw [nst_yes (T := T) (HS.out.2.trans hc1) (hc2.trans HS.out.1.symm) hxD (by rw [HC1.out.2.1, HS.out.1]; exact hT), ← List.append_assoc] at hst
        obtain ⟨Y1, hY1⟩ : ∃ Z, Y0 ++ enc T.toNat = Z := ⟨_, rfl⟩
        have hy1 : Y1.length ≤ 2009 := by rw [← hY1, List.length_append]; have := enc_len9 (m := T.toNat) (by omega); omega
        have k1 := fun wx vx (h : Bs wx vx Y0) => refvar_any vx Y0 T wx h (by omega) (by omega)
        have k2 := fun wx vx (h : Bs wx vx Y1) => refvar_any vx Y1 x wx h (by omega) hxI.2
        rw [hY1] at hst k1
        rw [hst] at k2
        have q1 : ((i : Int) == sn) = true := by rw [beq_iff_eq]; exact hc2
        replace k1 := Lib.hid k1
        replace k2 := Lib.hid k2
        subst hc1
        clear hc2 hT hTb hst hY1 hy1 hy0 hxI hxD
        go_wp2_with fail
        refine (k1.out _ _ hob.out.bs).mono ?_
        rintro e w4 ⟨x1, rfl, ho, hb⟩
        have H4 := Lib.hid (show Bs w4 x1 Y1 ∧ Below w2.heap.size w2 w4 from ⟨ho.bs, hinv.out.trans (hb.mono hinv.out.size)⟩)
        clear k1 ho hb e0 e1 d2 cx0 q1 wT hob hinv
        go_wp2_with fail
        refine (k2.out _ _ H4.out.1).mono ?_
        rintro e w5 ⟨x2_, rfl, ho, hb⟩
        have H5 := Lib.hid (show Ob w5 w.heap.size x2_ (P0 ++ numB S ln (i + 1)) ∧ Below w2.heap.size w2 w5 from ⟨by rw [hZ1.out]; exact ho.base (Nat.le_trans hBw H4.out.2.size), H4.out.2.trans (hb.mono H4.out.2.size)⟩)
        clear k2 ho hb H4 hZ1
        go_wp2_with fail
        go_roundg (gk - 1)
        case measure => omega
        case rel => exact ⟨i + 1, by omega, by go_num, Lib.hid H5.out.1, Lib.hid H5.out.2⟩
      · rw [nst_no (fun h => hc ⟨HS.out.2.symm.trans h.1, h.2.trans HS.out.1⟩) hxD] at hst
        have k2 := fun wx vx (h : Bs wx vx Y0) => refvar_any vx Y0 x wx h (by omega) hxI.2
        rw [hst] at k2
        replace k2 := Lib.hid k2
        cases st
        · clear hc hst hy0 hxI hxD
          go_wp2_with fail
          refine (k2.out _ _ hob.out.bs).mono ?_
          rintro e w5 ⟨x2_, rfl, ho, hb⟩
          have H5 := Lib.hid (show Ob w5 w.heap.size x2_ (P0 ++ numB S ln (i + 1)) ∧ Below w2.heap.size w2 w5 from ⟨by rw [hZ1.out]; exact ho.base hBr, hinv.out.trans (hb.mono hinv.out.size)⟩)
          clear k2 ho hb e0 e1 d2 cx0 hob hinv hZ1
          go_wp2_with fail
          go_roundg (gk - 1)
          case measure => omega
          case rel => exact ⟨i + 1, by omega, by go_num, Lib.hid H5.out.1, Lib.hid H5.out.2⟩
        · have q1 : ((i : Int) == sn) = false := by rw [beq_eq_false_iff_ne]; exact fun h => hc ⟨rfl, h⟩
          clear hc hst hy0 hxI hxD
          go_wp2_with fail
          refine (k2.out _ _ hob.out.bs).mono ?_
          rintro e w5 ⟨x2_, rfl, ho, hb⟩
          have H5 := Lib.hid (show Ob w5 w.heap.size x2_ (P0 ++ numB S ln (i + 1)) ∧ Below w2.heap.size w2 w5 from ⟨by rw [hZ1.out]; exact ho.base hBr, hinv.out.trans (hb.mono hinv.out.size)⟩)
          clear k2 ho hb e0 e1 d2 cx0 hob hinv hZ1
          go_wp2_with fail
          go_roundg (gk - 1)
          case measure => omega
          case rel => exact ⟨i + 1, by omega, by go_num, Lib.hid H5.out.1, Lib.hid H5.out.2⟩
    · obtain rfl : i = m := by omega
      have hlt : ¬ (i : Int) < (i : Int) := by omega
      have r1 := HR.out.1.below hinv.out HR.out.1.lt
      have d3 := (r1.cell 3).trans x3
      have H2 := Lib.hid (show Ob wr w.heap.size u5 P1 ∧ Below w2.heap.size w2 wr from ⟨by rw [← HP1.out]; exact hob.out, hinv.out⟩)
      clear hob hinv r1 HC1 HP1 x2
      go_wp2_with fail
      go_loopg [5, 63] nA (fun gg s5 s63 wr => ∃ i : Nat, i + gg = nA ∧ s63 = .int .i64 (i : Int) ∧ Hid (Ob wr w.heap.size s5 (P1 ++ (la.take i).flatMap amtL)) ∧ Hid (Below w2.heap.size w2 wr))
      case atStart => exact ⟨0, by omega, rfl, Lib.hid (by rw [List.take_zero, List.flatMap_nil, List.append_nil]; exact H2.out.1), Lib.hid H2.out.2⟩
      case round =>
        clear H2
        obtain ⟨i2, him2, rfl, hob2, hinv2⟩ := hrel
        by_cases hi : i2 < nA
        · obtain ⟨x, hx⟩ : ∃ x, la[i2]? = some x := ⟨_, List.getElem?_eq_getElem (by have := HM2.out; omega)⟩
          obtain ⟨gx, ox, cx', hu, hgx, hcx⟩ := (HC2.out.1.below hinv2.out).elem hx
          simp only [Value.slice.injEq] at hu
          obtain ⟨rfl, -, -⟩ := hu
          have hxl := HC2.out.2 x (List.mem_of_getElem? hx)
          have hst := flat_step amtL hx P1
          obtain ⟨Y0, hY0⟩ : ∃ Z, P1 ++ (la.take i2).flatMap amtL = Z := ⟨_, rfl⟩
          obtain ⟨Z1, hZ1⟩ : ∃ Z, P1 ++ (la.take (i2 + 1)).flatMap amtL = Z := ⟨_, rfl⟩
          have hy0 : Y0.length ≤ 5000000 := by
            rw [← hY0, List.length_append]
            have h1 := flat_le (f := amtL) (c := 33) (l := la.take i2) (fun y _ => amtL_le y)
            rw [List.length_take] at h1
            have h2 := hPl2.out
            omega
          rw [hY0] at hob2 hst
          rw [hZ1] at hst
          have k4 := fun wx vx (h : Bs wx vx Y0) => refamt_any vx Y0 x wx h (by omega) hxl
          have hst2 := hst
          rw [hst2] at k4
          obtain ⟨Y, hY⟩ : ∃ Y, W4 x = Y := ⟨_, rfl⟩
          have hYsz := W4_size x
          have hYone := W4_one_ x
          replace hcx : ∀ j v, (W4 x).toList[j]? = some v → wr.cell? ⟨gx, ox + i2 * 4 + j, none⟩ = some v := hcx
          rw [hY] at k4 hYsz hYone hcx
          have hinf := info31 hYsz
          replace k4 := Lib.hid k4
          replace hZ1 := Lib.hid hZ1
          clear hx hY0 hst hst2 hy0 hxl hY
          have hlt : (i2 : Int) < (nA : Int) := by omega
          have hBr : w.heap.size ≤ wr.heap.size := by have := hinv2.out.size; omega
          go_upto_region 14 with (fail)
          let L : List Sp := [sA 2 31 [3] #[.int .u64 0, .int .u64 0, .int .u64 0, .int .u64 0], sT 3 2 31 [1] (fun g => aggOf g 1)]
          refine wp_region_six0 (shs L) (look6 L) (None_) (by kernel_rfl) (by kernel_rfl) (mk_St L [] [] (by kernel_rfl) (by kernel_rfl) ⟨ok_A, ok_T aggOf_congr, trivial⟩ (by simp)) ?_
          intro QQ hQ
          refine stepK rfl (by kernel_rfl) (fun K hK => ?_); go_simp
          apply Exists.intro; apply And.intro; (focus (intro wk hk; go_simp; exact ⟨rfl, rfl⟩)); refine hK _ _ ?_; clear hK K
          refine stepK rfl (by kernel_rfl) (fun K hK => ?_); go_simp
          apply Exists.intro; apply And.intro; (focus exact kLoadA rfl rfl aggT31 hcx hYsz hgx id); refine hK _ _ ?_; clear hK K
          refine stepS _ rfl (by kernel_rfl) (fun K hK => ?_); go_simp
          refine ⟨?_, ?_⟩
          · intro wk hk hg hu; go_simp; exact left_A rfl rfl
          rintro ⟨v2, lo2, hi2⟩ hlo2 hhi2 ⟨e2, f2⟩
          replace e2 : v2 = .pointer (some ⟨lo2, 0, none⟩) := e2; replace f2 : hi2 = lo2 + 1 := f2; replace hlo2 : _ ≤ lo2 := hlo2; subst e2; subst f2
          refine hK _ _ ?_; clear hK K
          refine stepS _ rfl (by kernel_rfl) (fun K hK => ?_); go_simp
          refine ⟨?_, ?_⟩
          · exact sStoreT rfl rfl rfl rfl rfl rfl rfl hinf hYsz.symm hYone (by decide) aggOf_congr
          rintro ⟨v3, lo3, hi3⟩ - - (rfl : v3 = undef)
          refine hK _ _ ?_; clear hK K
          refine stepN ?_
          refine hQ _ _ ?_
          intro w4 hT hG hF
          have hbw4 := hT.below
          have rY : Row w4 lo2 31 Y := (hF 3 _ rfl rfl (by decide)).2
          clear hT hG hF hQ QQ L hcx hgx
          have ob4 := hob2.out.below hbw4
          have hl4 := Lib.hid (hinv2.out.trans (hbw4.mono hinv2.out.size))
          have hs4 := hbw4.size
          have hB4 : w.heap.size ≤ w4.heap.size := by omega
          clear hob2 hinv2 hbw4 hYone hinf hs4
          go_upto_region 15 with (fail)
          let L : List Sp := [sF 2 [] [] [] (fun _ => True) (fun x wq => Ob wq w.heap.size x.v Z1)]
          refine wp_region_six0 (shs L) (look6 L) (None_) (by kernel_rfl) (by kernel_rfl) (mk_St L [] [] (by kernel_rfl) (by kernel_rfl) ⟨ok_F (any_some _) (fun _ _ _ h hb => Ob.below h hb), trivial⟩ (by simp)) ?_
          intro QQ hQ
          refine stepK rfl (by kernel_rfl) (fun K hK => ?_); go_simp
          apply Exists.intro; apply And.intro; (focus (intro wk hk; go_simp; exact ⟨rfl, rfl⟩)); refine hK _ _ ?_; clear hK K
          refine stepK rfl (by kernel_rfl) (fun K hK => ?_); go_simp
          apply Exists.intro; apply And.intro; (focus exact kLoad rfl rfl aggT31 rY hYsz id); refine hK _ _ ?_; clear hK K
          refine stepS _ rfl (by kernel_rfl) (fun K hK => ?_); go_simp
          refine ⟨?_, ?_⟩
          · intro wk hk hg hu; go_simp; refine upon_enter ((k4.out _ u5 (ob4.below hk.below).bs).mono ?_); rintro e w' ⟨v, rfl, hv, hb9⟩; exact ⟨_, rfl, left_F rfl rfl hb9 trivial (hv.base (by have := hk.size; omega))⟩
          rintro ⟨v2, lo2, hi2⟩ - - -
          refine hK _ _ ?_; clear hK K
          refine stepK rfl (by kernel_rfl) (fun K hK => ?_); go_simp
          apply Exists.intro; apply And.intro; (focus (intro wk hk; go_simp; exact ⟨rfl, rfl⟩)); refine hK _ _ ?_; clear hK K
          refine stepN ?_
          refine hQ _ _ ?_
          intro w5 hT hG hF
          have o5 : Ob w5 w.heap.size v2 Z1 := hF 2 _ rfl rfl (by decide)
          have hb5 := hT.below
          have H5 := Lib.hid (show Ob w5 w.heap.size v2 (P1 ++ (la.take (i2 + 1)).flatMap amtL) ∧ Below w2.heap.size w2 w5 from ⟨by rw [hZ1.out]; exact o5, hl4.out.trans (hb5.mono hl4.out.size)⟩)
          clear hT hG hF hQ QQ L k4 ob4 rY o5 hb5 hl4 hYsz hZ1
          go_wp2_with fail
          go_roundg (gk - 1)
          case measure => omega
          case rel => exact ⟨i2 + 1, by omega, by go_num, Lib.hid H5.out.1, Lib.hid H5.out.2⟩
        · obtain rfl : i2 = nA := by omega
          have hlt : ¬ (i2 : Int) < (i2 : Int) := by omega
          rw [List.take_of_length_le (by have := HM2.out; omega)] at hob2
          have r1 := HR.out.1.below hinv2.out HR.out.1.lt
          have d4 := (r1.cell 4).trans x4
          have H3 := Lib.hid (show Ob wr w.heap.size u5 P2 ∧ Below w2.heap.size w2 wr from ⟨by rw [← HP2.out]; exact hob2.out, hinv2.out⟩)
          clear hob2 hinv2 r1 HC2 HP2 HM2 x3
          go_wp2_with fail
          go_loopg [5, 74] nH (fun gg s5 s74 wr => ∃ i : Nat, i + gg = nH ∧ s74 = .int .i64 (i : Int) ∧ Hid (Ob wr w.heap.size s5 (P2 ++ (lh.take i).flatMap (fun y : List Int => y))) ∧ Hid (Below w2.heap.size w2 wr))
          case atStart => exact ⟨0, by omega, rfl, Lib.hid (by rw [List.take_zero, List.flatMap_nil, List.append_nil]; exact H3.out.1), Lib.hid H3.out.2⟩
          case round =>
            clear H3
            obtain ⟨i3, him3, rfl, hob3, hinv3⟩ := hrel
            by_cases hi : i3 < nH
            · obtain ⟨x, hx⟩ : ∃ x, lh[i3]? = some x := ⟨_, List.getElem?_eq_getElem (by have := HM3.out; omega)⟩
              obtain ⟨gx, ox, cx', hu, hgx, hcx⟩ := (HC3.out.1.below hinv3.out).get hx
              simp only [Value.slice.injEq] at hu
              obtain ⟨rfl, -, -⟩ := hu
              have hxl := HC3.out.2 x (List.mem_of_getElem? hx)
              have hst := flat_step (fun y : List Int => y) hx P2
              obtain ⟨Y0, hY0⟩ : ∃ Z, P2 ++ (lh.take i3).flatMap (fun y : List Int => y) = Z := ⟨_, rfl⟩
              obtain ⟨Z1, hZ1⟩ : ∃ Z, P2 ++ (lh.take (i3 + 1)).flatMap (fun y : List Int => y) = Z := ⟨_, rfl⟩
              have hy0 : Y0.length ≤ 5000000 := by
                rw [← hY0, List.length_append]
                have h1 := flat_le (f := (fun y : List Int => y)) (c := 32) (l := lh.take i3) (fun y hy => Nat.le_of_eq (HC3.out.2 y (List.mem_of_mem_take hy)))
                rw [List.length_take] at h1
                have h2 := hPl3.out
                omega
              rw [hY0] at hob3 hst
              rw [hZ1] at hst
              have k4 := fun wx vx (h : Bs wx vx Y0) => refhash_put vx Y0 x wx h (by omega) hxl
              have hst2 := hst
              rw [hst2] at k4
              obtain ⟨Y, hY⟩ : ∃ Y, (bv x).toArray = Y := ⟨_, rfl⟩
              have hYsz := bv_arr hxl
              have hYone := bv_arr_one x
              replace hcx : ∀ j v, ((bv x).toArray).toList[j]? = some v → wr.cell? ⟨gx, ox + i3 * 32 + j, none⟩ = some v := hcx
              rw [hY] at k4 hYsz hYone hcx
              have hinf := info35 hYsz
              replace k4 := Lib.hid k4
              replace hZ1 := Lib.hid hZ1
              clear hx hY0 hst hst2 hy0 hxl hY
              have hlt : (i3 : Int) < (nH : Int) := by omega
              have hBr : w.heap.size ≤ wr.heap.size := by have := hinv3.out.size; omega
              go_upto_region 19 with (fail)
              let L : List Sp := [sA 2 35 [3] zr32, sT 3 2 35 [1] (fun g => aggOf g 1)]
              refine wp_region_six0 (shs L) (look6 L) (None_) (by kernel_rfl) (by kernel_rfl) (mk_St L [] [] (by kernel_rfl) (by kernel_rfl) ⟨ok_A, ok_T aggOf_congr, trivial⟩ (by simp)) ?_
              intro QQ hQ
              refine stepK rfl (by kernel_rfl) (fun K hK => ?_); go_simp
              apply Exists.intro; apply And.intro; (focus (intro wk hk; go_simp; exact ⟨rfl, rfl⟩)); refine hK _ _ ?_; clear hK K
              refine stepK rfl (by kernel_rfl) (fun K hK => ?_); go_simp
              apply Exists.intro; apply And.intro; (focus exact kLoadA rfl rfl aggR35 hcx hYsz hgx id); refine hK _ _ ?_; clear hK K
              refine stepS _ rfl (by kernel_rfl) (fun K hK => ?_); go_simp
              refine ⟨?_, ?_⟩
              · intro wk hk hg hu; go_simp; exact left_A rfl rfl
              rintro ⟨v2, lo2, hi2⟩ hlo2 hhi2 ⟨e2, f2⟩
              replace e2 : v2 = .pointer (some ⟨lo2, 0, none⟩) := e2; replace f2 : hi2 = lo2 + 1 := f2; replace hlo2 : _ ≤ lo2 := hlo2; subst e2; subst f2
              refine hK _ _ ?_; clear hK K
              refine stepS _ rfl (by kernel_rfl) (fun K hK => ?_); go_simp
              refine ⟨?_, ?_⟩
              · exact sStoreT rfl rfl rfl rfl rfl rfl rfl hinf hYsz.symm hYone (by decide) aggOf_congr
              rintro ⟨v3, lo3, hi3⟩ - - (rfl : v3 = undef)
              refine hK _ _ ?_; clear hK K
              refine stepN ?_
              refine hQ _ _ ?_
              intro w4 hT hG hF
              have hbw4 := hT.below
              have rY : Row w4 lo2 35 Y := (hF 3 _ rfl rfl (by decide)).2
              clear hT hG hF hQ QQ L hcx hgx
              have ob4 := hob3.out.below hbw4
              have hl4 := Lib.hid (hinv3.out.trans (hbw4.mono hinv3.out.size))
              have hs4 := hbw4.size
              have hB4 : w.heap.size ≤ w4.heap.size := by omega
              clear hob3 hinv3 hbw4 hYone hinf hs4
              go_upto_region 20 with (fail)
              let L : List Sp := [sF 2 [] [] [] (fun _ => True) (fun x wq => Ob wq w.heap.size x.v Z1)]
              refine wp_region_six0 (shs L) (look6 L) (None_) (by kernel_rfl) (by kernel_rfl) (mk_St L [] [] (by kernel_rfl) (by kernel_rfl) ⟨ok_F (any_some _) (fun _ _ _ h hb => Ob.below h hb), trivial⟩ (by simp)) ?_
              intro QQ hQ
              refine stepK rfl (by kernel_rfl) (fun K hK => ?_); go_simp
              apply Exists.intro; apply And.intro; (focus (intro wk hk; go_simp; exact ⟨rfl, rfl⟩)); refine hK _ _ ?_; clear hK K
              refine stepK rfl (by kernel_rfl) (fun K hK => ?_); go_simp
              apply Exists.intro; apply And.intro; (focus exact kLoad rfl rfl aggR35 rY hYsz id); refine hK _ _ ?_; clear hK K
              refine stepS _ rfl (by kernel_rfl) (fun K hK => ?_); go_simp
              refine ⟨?_, ?_⟩
              · intro wk hk hg hu; go_simp; refine upon_enter ((k4.out _ u5 (ob4.below hk.below).bs).mono ?_); rintro e w' ⟨v, rfl, hv, hb9⟩; exact ⟨_, rfl, left_F rfl rfl hb9 trivial (hv.base (by have := hk.size; omega))⟩
              rintro ⟨v2, lo2, hi2⟩ - - -
              refine hK _ _ ?_; clear hK K
              refine stepK rfl (by kernel_rfl) (fun K hK => ?_); go_simp
              apply Exists.intro; apply And.intro; (focus (intro wk hk; go_simp; exact ⟨rfl, rfl⟩)); refine hK _ _ ?_; clear hK K
              refine stepN ?_
              refine hQ _ _ ?_
              intro w5 hT hG hF
              have o5 : Ob w5 w.heap.size v2 Z1 := hF 2 _ rfl rfl (by decide)
              have hb5 := hT.below
              have H5 := Lib.hid (show Ob w5 w.heap.size v2 (P2 ++ (lh.take (i3 + 1)).flatMap (fun y : List Int => y)) ∧ Below w2.heap.size w2 w5 from ⟨by rw [hZ1.out]; exact o5, hl4.out.trans (hb5.mono hl4.out.size)⟩)
              clear hT hG hF hQ QQ L k4 ob4 rY o5 hb5 hl4 hYsz hZ1
              go_wp2_with fail
              go_roundg (gk - 1)
              case measure => omega
              case rel => exact ⟨i3 + 1, by omega, by go_num, Lib.hid H5.out.1, Lib.hid H5.out.2⟩
            · obtain rfl : i3 = nH := by omega
              have hlt : ¬ (i3 : Int) < (i3 : Int) := by omega
              rw [List.take_of_length_le (by have := HM3.out; omega)] at hob3
              have r3 := HR.out.2.1.below hinv3.out HR.out.2.1.lt
              have e5 := r3.cell 5
              have H4 := Lib.hid (show Ob wr w.heap.size u5 P3 ∧ Below w.heap.size w wr from ⟨by rw [← HP3.out]; exact hob3.out, HR.out.2.2.trans (hinv3.out.mono HR.out.2.2.size)⟩)
              have hinvR := Lib.hid hinv3.out
              clear hob3 hinv3 r3 HC3 HP3 HM3
              cases sc
              · have hby := Lib.hid (show BY = if P3.length ≤ 4096 then P3 else [] by have h := HBY.out; simpa using h)
                clear HBY c1 c2 c3 c4 c5 c6 c7 HQ HPE zo hinfC
                obtain ⟨q5, c5, hv⟩ := own_sl_ H4.out.1
                obtain ⟨n5, hn5⟩ : ∃ n, P3.length = n := ⟨_, rfl⟩
                rw [hn5] at hv
                have HV := Lib.hid hv
                have hn5' := Lib.hid hn5
                have hP3l : n5 ≤ 5000 := by have := hPl4.out; omega
                subst hv
                clear hn5
                by_cases h4 : n5 ≤ 4096
                · have h4i : (n5 : Int) ≤ 4096 := by omega
                  have e9 := Lib.hid (show BY = P3 by rw [hby.out, if_pos (by have := hn5'.out; omega)])
                  clear h4 hby
                  go_wp2_with fail
                  go_ret
                  exact ⟨_, rfl, by rw [e9.out]; exact H4.out.1, H4.out.2⟩
                · have h4i : 4096 < (n5 : Int) := by omega
                  have e9 := Lib.hid (show BY = [] by rw [hby.out, if_neg (by have := hn5'.out; omega)])
                  clear h4 hby
                  go_wp2_with fail
                  go_ret
                  exact ⟨_, rfl, by rw [e9.out]; exact Ob.nil _ _, H4.out.2⟩
              · have hby := Lib.hid (show BY = if P4.length ≤ 4096 then P4 else [] by have h := HBY.out; simpa using h)
                clear HBY
                go_upto_region 23 with (fail)
                have r1 := HR.out.1.below hinvR.out HR.out.1.lt
                have hl := H4.out.2
                have ob := H4.out.1
                have hBr : w.heap.size ≤ wr.heap.size := hl.size
                clear H4 hinvR e5
                let L : List Sp := [sA 2 114 [3] #[.int .i64 0, .int .i64 0, .int .i64 0, .int .u8 0, .int .u8 0, .int .u8 0, .int .u8 0, .int .u8 0, .int .u8 0, .int .u8 0, .int .u8 0, .int .u8 0, .int .u8 0, .int .u8 0, .int .u8 0, .int .u8 0, .int .u8 0, .int .u8 0, .int .u8 0, .int .u8 0, .int .u8 0, .int .u8 0, .int .u8 0, .int .u8 0, .int .u8 0, .int .u8 0, .int .u8 0, .int .u8 0, .int .u8 0, .int .u8 0, .int .u8 0, .int .u8 0, .int .u8 0, .int .u8 0, .int .u8 0, .slice none 0 0, .slice none 0 0, .int .i64 0], sT 3 2 114 [1] (fun g => aggOf g 1)]
                refine wp_region_six0 (shs L) (look6 L) (None_) (by kernel_rfl) (by kernel_rfl) (mk_St L [] [] (by kernel_rfl) (by kernel_rfl) ⟨ok_A, ok_T aggOf_congr, trivial⟩ (by simp)) ?_
                intro QQ hQ
                refine stepK rfl (by kernel_rfl) (fun K hK => ?_); go_simp
                apply Exists.intro; apply And.intro; (focus (intro wk hk; go_simp; exact ⟨rfl, rfl⟩)); refine hK _ _ ?_; clear hK K
                refine stepK rfl (by kernel_rfl) (fun K hK => ?_); go_simp
                apply Exists.intro; apply And.intro; (focus exact kLoadMid rfl rfl aggT114 r1 hmid hcsz id); refine hK _ _ ?_; clear hK K
                refine stepS _ rfl (by kernel_rfl) (fun K hK => ?_); go_simp
                refine ⟨?_, ?_⟩
                · intro wk hk hg hu; go_simp; exact left_A rfl rfl
                rintro ⟨v2, lo2, hi2⟩ hlo2 hhi2 ⟨e2, f2⟩
                replace e2 : v2 = .pointer (some ⟨lo2, 0, none⟩) := e2; replace f2 : hi2 = lo2 + 1 := f2; replace hlo2 : _ ≤ lo2 := hlo2; subst e2; subst f2
                refine hK _ _ ?_; clear hK K
                refine stepS _ rfl (by kernel_rfl) (fun K hK => ?_); go_simp
                refine ⟨?_, ?_⟩
                · exact sStoreT rfl rfl rfl rfl rfl rfl rfl hinfC hcsz.symm zo (by decide) aggOf_congr
                rintro ⟨v3, lo3, hi3⟩ - - (rfl : v3 = undef)
                refine hK _ _ ?_; clear hK K
                refine stepN ?_
                refine hQ _ _ ?_
                intro w9 hT hG hF
                have hb9 := hT.below
                have rC : Row w9 lo2 114 cc5 := (hF 3 _ rfl rfl (by decide)).2
                have HR2 := Lib.hid (show Below w.heap.size w w9 ∧ Row w9 lo2 114 cc5 from ⟨hl.trans (hb9.mono hl.size), rC⟩)
                have O9 := Lib.hid (ob.below hb9).bs
                have d0 := (rC.cell 0).trans z0
                have d1 := (rC.cell 1).trans z1
                have d2 := (rC.cell 2).trans z2
                have d6 := (rC.cell 37).trans z6
                clear hT hG hF hQ QQ L hl r1 ob hb9 rC zo hinfC hlo2 hhi2 hBr hmid HR
                go_wp2_with fail
                go_loopg [5, 14, 95] 4 (fun gg s5 s14 s95 wr => ∃ i : Nat, i + gg = 4 ∧ s95 = .int .i64 (i : Int) ∧ Hid (Below w.heap.size w wr ∧ Row wr lo2 114 cc5) ∧ Hid ((i = 0 → Bs wr s5 P3) ∧ (i = 1 → Bs wr s5 Q1) ∧ (i = 2 → Bs wr s5 Q2) ∧ (i = 3 → Bs wr s5 Q3) ∧ (i = 4 → Ob wr w.heap.size s5 Q4)))
                case atStart => exact ⟨0, by omega, rfl, HR2, Lib.hid ⟨fun _ => O9.out, fun h => absurd h (by decide), fun h => absurd h (by decide), fun h => absurd h (by decide), fun h => absurd h (by decide)⟩⟩
                case round =>
                  clear HR2 O9 d0 d1 d2 d6
                  obtain ⟨i, him, rfl, hinv, hP⟩ := hrel
                  have hi4 : i = 0 ∨ i = 1 ∨ i = 2 ∨ i = 3 ∨ i = 4 := by omega
                  rcases hi4 with rfl | rfl | rfl | rfl | rfl
                  · have hlt : (((0 : Nat) : Int) < 4) := by decide
                    have b0 := Lib.hid (hP.out.1 rfl)
                    have ix := fun wx => ix205_0 cr cx ce cz wx
                    clear hP
                    go_wp2_with fail
                    refine (c1.out _ _ b0.out).mono ?_
                    rintro e w2_ ⟨x1_, rfl, ho, hb⟩
                    have H2 := Lib.hid (show Below w.heap.size w w2_ ∧ Row w2_ lo2 114 cc5 from ⟨hinv.out.1.trans (hb.mono hinv.out.1.size), hinv.out.2.below hb hinv.out.2.lt⟩)
                    have O2 := Lib.hid (ho.base (b' := w.heap.size) hinv.out.1.size)
                    clear ho hb b0
                    go_wp2_with fail
                    go_roundg (gk - 1)
                    case measure => omega
                    case rel => exact ⟨1, by omega, by go_num, H2, Lib.hid ⟨fun h => absurd h (by decide), fun _ => O2.out.bs, fun h => absurd h (by decide), fun h => absurd h (by decide), fun h => absurd h (by decide)⟩⟩
                  · have hlt : (((1 : Nat) : Int) < 4) := by decide
                    have b0 := Lib.hid (hP.out.2.1 rfl)
                    have ix := fun wx => ix205_1 cr cx ce cz wx
                    clear hP
                    go_wp2_with fail
                    refine (c2.out _ _ b0.out).mono ?_
                    rintro e w2_ ⟨x1_, rfl, ho, hb⟩
                    have H2 := Lib.hid (show Below w.heap.size w w2_ ∧ Row w2_ lo2 114 cc5 from ⟨hinv.out.1.trans (hb.mono hinv.out.1.size), hinv.out.2.below hb hinv.out.2.lt⟩)
                    have O2 := Lib.hid (ho.base (b' := w.heap.size) hinv.out.1.size)
                    clear ho hb b0
                    go_wp2_with fail
                    go_roundg (gk - 1)
                    case measure => omega
                    case rel => exact ⟨2, by omega, by go_num, H2, Lib.hid ⟨fun h => absurd h (by decide), fun h => absurd h (by decide), fun _ => O2.out.bs, fun h => absurd h (by decide), fun h => absurd h (by decide)⟩⟩
                  · have hlt : (((2 : Nat) : Int) < 4) := by decide
                    have b0 := Lib.hid (hP.out.2.2.1 rfl)
                    have ix := fun wx => ix205_2 cr cx ce cz wx
                    clear hP
                    go_wp2_with fail
                    refine (c3.out _ _ b0.out).mono ?_
                    rintro e w2_ ⟨x1_, rfl, ho, hb⟩
                    have H2 := Lib.hid (show Below w.heap.size w w2_ ∧ Row w2_ lo2 114 cc5 from ⟨hinv.out.1.trans (hb.mono hinv.out.1.size), hinv.out.2.below hb hinv.out.2.lt⟩)
                    have O2 := Lib.hid (ho.base (b' := w.heap.size) hinv.out.1.size)
                    clear ho hb b0
                    go_wp2_with fail
                    go_roundg (gk - 1)
                    case measure => omega
                    case rel => exact ⟨3, by omega, by go_num, H2, Lib.hid ⟨fun h => absurd h (by decide), fun h => absurd h (by decide), fun h => absurd h (by decide), fun _ => O2.out.bs, fun h => absurd h (by decide)⟩⟩
                  · have hlt : (((3 : Nat) : Int) < 4) := by decide
                    have b0 := Lib.hid (hP.out.2.2.2.1 rfl)
                    have ix := fun wx => ix205_3 cr cx ce cz wx
                    clear hP
                    go_wp2_with fail
                    refine (c4.out _ _ b0.out).mono ?_
                    rintro e w2_ ⟨x1_, rfl, ho, hb⟩
                    have H2 := Lib.hid (show Below w.heap.size w w2_ ∧ Row w2_ lo2 114 cc5 from ⟨hinv.out.1.trans (hb.mono hinv.out.1.size), hinv.out.2.below hb hinv.out.2.lt⟩)
                    have O2 := Lib.hid (ho.base (b' := w.heap.size) hinv.out.1.size)
                    clear ho hb b0
                    go_wp2_with fail
                    go_roundg (gk - 1)
                    case measure => omega
                    case rel => exact ⟨4, by omega, by go_num, H2, Lib.hid ⟨fun h => absurd h (by decide), fun h => absurd h (by decide), fun h => absurd h (by decide), fun h => absurd h (by decide), fun _ => O2.out⟩⟩
                  · have ob0 := Lib.hid (hP.out.2.2.2.2 rfl)
                    clear hP c1 c2 c3 c4
                    go_upto_region 29 with (fail)
                    have hl := hinv.out.1
                    have rC := hinv.out.2
                    have hBr : w.heap.size ≤ wr.heap.size := hl.size
                    clear hinv
                    let L : List Sp := [sF 3 [] [] [] (fun _ => True) (fun x wq => Ob wq w.heap.size x.v Q5), sF 6 [3] [3] [] (fun _ => True) (fun x wq => Ob wq w.heap.size x.v Q6), sF 10 [6, 3] [6] [] (fun _ => True) (fun x wq => Ob wq w.heap.size x.v Q7)]
                    refine wp_region_six (shs L) (look6 L) (None_) (by kernel_rfl) (by kernel_rfl) (mk_St L [] [] (by kernel_rfl) (by kernel_rfl) ⟨ok_F (any_some _) (fun _ _ _ h hb => Ob.below h hb), ok_F (any_some _) (fun _ _ _ h hb => Ob.below h hb), ok_F (any_some _) (fun _ _ _ h hb => Ob.below h hb), trivial⟩ (by simp)) ?_
                    intro QQ hQ
                    refine stepK rfl (by kernel_rfl) (fun K hK => ?_); go_simp
                    apply Exists.intro; apply And.intro; (focus (intro wk hk; go_simp; exact ⟨rfl, rfl⟩)); refine hK _ _ ?_; clear hK K
                    refine stepK rfl (by kernel_rfl) (fun K hK => ?_); go_simp
                    apply Exists.intro; apply And.intro; (focus (intro wk hk; go_simp; exact ⟨rfl, rfl⟩)); refine hK _ _ ?_; clear hK K
                    refine stepK rfl (by kernel_rfl) (fun K hK => ?_); go_simp
                    apply Exists.intro; apply And.intro; (focus exact kLoadMid rfl rfl aggR35 rC zt zs id); refine hK _ _ ?_; clear hK K
                    refine stepS _ rfl (by kernel_rfl) (fun K hK => ?_); go_simp
                    refine ⟨?_, ?_⟩
                    · intro wk hk hg hu; go_simp; refine upon_enter ((c5.out _ u5 (ob0.out.below hk.undrew.below).bs).mono ?_); rintro e w' ⟨v, rfl, hv, hb9⟩; exact ⟨_, rfl, left_F rfl rfl hb9 trivial (hv.base (by have := hk.undrew.size; omega))⟩
                    rintro ⟨v3_, lo3_, hi3_⟩ - - -
                    refine hK _ _ ?_; clear hK K
                    refine stepK rfl (by kernel_rfl) (fun K hK => ?_); go_simp
                    apply Exists.intro; apply And.intro; (focus (intro wk hk; go_simp; exact ⟨rfl, rfl⟩)); refine hK _ _ ?_; clear hK K
                    refine stepK rfl (by kernel_rfl) (fun K hK => ?_); go_simp
                    apply Exists.intro; apply And.intro; (focus (intro wk hk; have cc : wk.cell? ⟨lo2, 35, none⟩ = some (.slice pq np pc) := ((K6.Row.tr rC hk.undrew id).cell 35).trans z4; go_simp; exact ⟨rfl, rfl⟩)); refine hK _ _ ?_; clear hK K
                    refine stepS _ rfl (by kernel_rfl) (fun K hK => ?_); go_simp
                    refine ⟨?_, ?_⟩
                    · intro wk hk hg hu; have u3 := hu 3 (show 3 ∈ [3] by decide); go_simp; refine upon_enter ((c6.out _ v3_ (hl.trans (hk.undrew.below.mono hl.size)) (show Ob wk w.heap.size v3_ Q5 from u3).bs).mono ?_); rintro e w' ⟨v, rfl, hv, hb9⟩; exact ⟨_, rfl, left_F rfl rfl hb9 trivial (hv.base (by have := hk.undrew.size; omega))⟩
                    rintro ⟨v6_, lo6_, hi6_⟩ - - -
                    refine hK _ _ ?_; clear hK K
                    refine stepK rfl (by kernel_rfl) (fun K hK => ?_); go_simp
                    apply Exists.intro; apply And.intro; (focus (intro wk hk; go_simp; exact ⟨rfl, rfl⟩)); refine hK _ _ ?_; clear hK K
                    refine stepK rfl (by kernel_rfl) (fun K hK => ?_); go_simp
                    apply Exists.intro; apply And.intro; (focus (intro wk hk; have cc : wk.cell? ⟨lo2, 36, none⟩ = some (.slice lq nl lc) := ((K6.Row.tr rC hk.undrew id).cell 36).trans z5; go_simp; exact ⟨rfl, rfl⟩)); refine hK _ _ ?_; clear hK K
                    refine stepK rfl (by kernel_rfl) (fun K hK => ?_); go_simp
                    apply Exists.intro; apply And.intro; (focus (intro wk hk; go_simp; exact ⟨rfl, rfl⟩)); refine hK _ _ ?_; clear hK K
                    refine stepS _ rfl (by kernel_rfl) (fun K hK => ?_); go_simp
                    refine ⟨?_, ?_⟩
                    · intro wk hk hg hu; have u6 := hu 6 (show 6 ∈ [6] by decide); go_simp; refine upon_enter ((c7.out _ v6_ (show Ob wk w.heap.size v6_ Q6 from u6).bs).mono ?_); rintro e w' ⟨v, rfl, hv, hb9⟩; exact ⟨_, rfl, left_F rfl rfl hb9 trivial (hv.base (by have := hk.undrew.size; omega))⟩
                    rintro ⟨v10_, lo10_, hi10_⟩ - - -
                    refine hK _ _ ?_; clear hK K
                    refine stepK rfl (by kernel_rfl) (fun K hK => ?_); go_simp
                    apply Exists.intro; apply And.intro; (focus (intro wk hk; go_simp; exact ⟨rfl, rfl⟩)); refine hK _ _ ?_; clear hK K
                    refine stepN ?_
                    refine hQ _ _ ?_
                    intro w2_ hT hG hF
                    have hb2 := hT.undrew.below
                    have o10 : Ob w2_ w.heap.size v10_ Q7 := hF 10 _ rfl rfl (by decide)
                    have H3 := Lib.hid (show Below w.heap.size w w2_ ∧ Row w2_ lo2 114 cc5 ∧ Ob w2_ w.heap.size v10_ Q7 from ⟨hl.trans (hb2.mono hl.size), rC.below hb2 rC.lt, o10⟩)
                    clear hT hG hF hQ QQ L hl rC ob0 hb2 o10 hBr c5 c6 c7
                    have d5 := (H3.out.2.1.cell 36).trans z5
                    go_wp2_with fail
                    have H1 := Lib.hid (show Ob w2_ w.heap.size v10_ Q7 ∧ Below w.heap.size w w2_ from ⟨H3.out.2.2, H3.out.1⟩)
                    clear H3 d5 z0 z1 z2 z4 z5 z6 zt zs
                    go_loopg [5, 116] nl (fun gg s5 s116 wr => ∃ i : Nat, i + gg = nl ∧ s116 = .int .i64 (i : Int) ∧ Hid (Ob wr w.heap.size s5 (Q7 ++ (ll.take i).flatMap fun x => lfKB x.key)) ∧ Hid (Below w.heap.size w wr))
                    case atStart => exact ⟨0, by omega, rfl, Lib.hid (by rw [List.take_zero, List.flatMap_nil, List.append_nil]; exact H1.out.1), Lib.hid H1.out.2⟩
                    case round =>
                      clear H1
                      obtain ⟨i, him2, rfl, hob, hinv⟩ := hrel
                      by_cases hi : i < nl
                      · obtain ⟨x, hx⟩ : ∃ x, ll[i]? = some x := ⟨_, List.getElem?_eq_getElem (by have := HQ.out.2.2.1; omega)⟩
                        obtain ⟨gx, ox, cx', hu, hgx, hcx⟩ := (HQ.out.1.below hinv.out).1.get hx
                        simp only [Value.slice.injEq] at hu
                        obtain ⟨rfl, -, -⟩ := hu
                        have hxm := List.mem_of_getElem? hx
                        have hxo := (HQ.out.1.below hinv.out).2 x hxm
                        have hst := flat_step (fun x : Lf => lfKB x.key) hx Q7
                        obtain ⟨Y0, hY0⟩ : ∃ Z, Q7 ++ (ll.take i).flatMap (fun x => lfKB x.key) = Z := ⟨_, rfl⟩
                        have hy0 : Y0.length ≤ 3000000 := by
                          rw [← hY0, List.length_append]
                          have h1 := flat_le (f := fun x : Lf => lfKB x.key) (c := 32100) (l := ll.take i) (fun y hy => by
                            have hym := List.mem_of_mem_take hy
                            have hyo := (HQ.out.1.below hinv.out).2 y hym
                            exact lf_le hyo.i hyo.t (fun z hz => (hyo.h z hz).1) (by have := HQ.out.2.1 y hym; omega))
                          rw [List.length_take] at h1
                          have h2 := HQ.out.2.2.2
                          omega
                        rw [hY0] at hob hst
                        obtain ⟨Z1, hZ1⟩ : ∃ Z, Y0 ++ enc x.i.toNat = Z := ⟨_, rfl⟩
                        obtain ⟨Z2, hZ2⟩ : ∃ Z, Z1 ++ enc x.t.toNat = Z := ⟨_, rfl⟩
                        obtain ⟨Z3, hZ3⟩ : ∃ Z, Z2 ++ amtL x.a = Z := ⟨_, rfl⟩
                        obtain ⟨Z4, hZ4⟩ : ∃ Z, Z3 ++ prfB x.p = Z := ⟨_, rfl⟩
                        have hst4 : Z4 = Q7 ++ (ll.take (i + 1)).flatMap (fun x => lfKB x.key) := by
                          rw [← hst, ← hZ4, ← hZ3, ← hZ2, ← hZ1]
                          unfold lfKB Lf.key
                          simp only [List.append_assoc]
                        have zz1 : Z1.length ≤ 3000009 := by rw [← hZ1, List.length_append]; have := enc_le9 hxo.i; omega
                        have zz2 : Z2.length ≤ 3000018 := by rw [← hZ2, List.length_append]; have := enc_le9 hxo.t; omega
                        have zz3 : Z3.length ≤ 3000060 := by rw [← hZ3, List.length_append]; have := amtL_le x.a; omega
                        have q1 := fun wx vx (h : Bs wx vx Y0) => refvar_any vx Y0 x.i wx h (by omega) hxo.i.2
                        have q2 := fun wx vx (h : Bs wx vx Z1) => refvar_any vx Z1 x.t wx h (by omega) hxo.t.2
                        have q3 := fun wx vx (h : Bs wx vx Z2) => refamt_any vx Z2 x.a wx h (by omega) hxo.a
                        have q4 := fun wx vx (hb : Below wr.heap.size wr wx) (h : Bs wx vx Z3) => rproof_at vx x.pv Z3 x.p wx h (by omega) (hxo.p.below hb) (fun y hy => (hxo.h y hy).1) (by have := HQ.out.2.1 x hxm; omega)
                        rw [hZ1] at q1
                        rw [hZ2] at q2
                        rw [hZ3] at q3
                        rw [hZ4] at q4
                        unfold Lf.pv at q4
                        have y0 := lA0 x
                        have y1 := lA1 x
                        have y6 := lA6 x
                        have ya := lfc_a x
                        obtain ⟨Y, hY⟩ : ∃ Y, (lfc x).toArray = Y := ⟨_, rfl⟩
                        have hYsz : (lfc x).toArray.size = 7 := rfl
                        have hYone := lfc_one x
                        replace hcx : ∀ j v, (lfc x).toArray.toList[j]? = some v → wr.cell? ⟨gx, ox + i * 7 + j, none⟩ = some v := hcx
                        obtain ⟨WA, hWA⟩ : ∃ A, W4 x.a = A := ⟨_, rfl⟩
                        have hWsz := W4_size x.a
                        rw [hWA] at ya q3 hWsz
                        rw [hY] at y0 y1 y6 ya hYsz hYone hcx
                        have hinf := info198 hYsz
                        obtain ⟨xi, hxi⟩ : ∃ n, x.i = n := ⟨_, rfl⟩
                        obtain ⟨xt, hxt⟩ : ∃ n, x.t = n := ⟨_, rfl⟩
                        obtain ⟨xq, hxq⟩ : ∃ n, x.pq = n := ⟨_, rfl⟩
                        obtain ⟨xc, hxc⟩ : ∃ n, x.pc = n := ⟨_, rfl⟩
                        obtain ⟨xn, hxn⟩ : ∃ n, x.p.length = n := ⟨_, rfl⟩
                        rw [hxi] at y0 q1
                        rw [hxt] at y1 q2
                        rw [hxq, hxc, hxn] at y6 q4
                        replace q1 := Lib.hid q1
                        replace q2 := Lib.hid q2
                        replace q3 := Lib.hid q3
                        replace q4 := Lib.hid q4
                        replace hst4 := Lib.hid hst4
                        clear hx hY0 hst hy0 hxm hxo hZ1 hZ2 hZ3 hZ4 zz1 zz2 zz3 hY hWA hxi hxt hxq hxc hxn
                        have hlt : (i : Int) < (nl : Int) := by omega
                        have hBr : w.heap.size ≤ wr.heap.size := hinv.out.size
                        go_upto_region 32 with (fail)
                        let L : List Sp := [sA 2 198 [3] #[.int .i64 0, .int .i64 0, .int .u64 0, .int .u64 0, .int .u64 0, .int .u64 0, .slice none 0 0], sT 3 2 198 [1] (fun g => aggOf g 1)]
                        refine wp_region_six0 (shs L) (look6 L) (None_) (by kernel_rfl) (by kernel_rfl) (mk_St L [] [] (by kernel_rfl) (by kernel_rfl) ⟨ok_A, ok_T aggOf_congr, trivial⟩ (by simp)) ?_
                        intro QQ hQ
                        refine stepK rfl (by kernel_rfl) (fun K hK => ?_); go_simp
                        apply Exists.intro; apply And.intro; (focus (intro wk hk; go_simp; exact ⟨rfl, rfl⟩)); refine hK _ _ ?_; clear hK K
                        refine stepK rfl (by kernel_rfl) (fun K hK => ?_); go_simp
                        apply Exists.intro; apply And.intro; (focus exact kLoadA rfl rfl aggT198 hcx hYsz hgx id); refine hK _ _ ?_; clear hK K
                        refine stepS _ rfl (by kernel_rfl) (fun K hK => ?_); go_simp
                        refine ⟨?_, ?_⟩
                        · intro wk hk hg hu; go_simp; exact left_A rfl rfl
                        rintro ⟨v2, lo2q, hi2⟩ hlo2 hhi2 ⟨e2, f2⟩
                        replace e2 : v2 = .pointer (some ⟨lo2q, 0, none⟩) := e2; replace f2 : hi2 = lo2q + 1 := f2; replace hlo2 : _ ≤ lo2q := hlo2; subst e2; subst f2
                        refine hK _ _ ?_; clear hK K
                        refine stepS _ rfl (by kernel_rfl) (fun K hK => ?_); go_simp
                        refine ⟨?_, ?_⟩
                        · exact sStoreT rfl rfl rfl rfl rfl rfl rfl hinf hYsz.symm hYone (by decide) aggOf_congr
                        rintro ⟨v3, lo3, hi3⟩ - - (rfl : v3 = undef)
                        refine hK _ _ ?_; clear hK K
                        refine stepN ?_
                        refine hQ _ _ ?_
                        intro w4 hT hG hF
                        have hbw4 := hT.below
                        have rY : Row w4 lo2q 198 Y := (hF 3 _ rfl rfl (by decide)).2
                        clear hT hG hF hQ QQ L hcx hgx
                        have hs4 := hbw4.size
                        have ob4 := hob.out.below hbw4
                        have hB4 : w.heap.size ≤ w4.heap.size := by omega
                        have HB4 := Lib.hid hbw4
                        clear hob hYone hinf
                        go_upto_region 33 with (fail)
                        let L : List Sp := [sF 3 [] [] [] (fun _ => True) (fun x wq => Ob wq w.heap.size x.v Z1), sF 6 [3] [3] [] (fun _ => True) (fun x wq => Ob wq w.heap.size x.v Z2), sF 9 [6, 3] [6] [] (fun _ => True) (fun x wq => Ob wq w.heap.size x.v Z3), sF 12 [9, 6, 3] [9] [] (fun _ => True) (fun x wq => Ob wq w.heap.size x.v Z4)]
                        refine wp_region_six (shs L) (look6 L) (None_) (by kernel_rfl) (by kernel_rfl) (mk_St L [] [] (by kernel_rfl) (by kernel_rfl) ⟨ok_F (any_some _) (fun _ _ _ h hb => Ob.below h hb), ok_F (any_some _) (fun _ _ _ h hb => Ob.below h hb), ok_F (any_some _) (fun _ _ _ h hb => Ob.below h hb), ok_F (any_some _) (fun _ _ _ h hb => Ob.below h hb), trivial⟩ (by simp)) ?_
                        intro QQ hQ
                        refine stepK rfl (by kernel_rfl) (fun K hK => ?_); go_simp
                        apply Exists.intro; apply And.intro; (focus (intro wk hk; go_simp; exact ⟨rfl, rfl⟩)); refine hK _ _ ?_; clear hK K
                        refine stepK rfl (by kernel_rfl) (fun K hK => ?_); go_simp
                        apply Exists.intro; apply And.intro; (focus (intro wk hk; go_simp; exact ⟨rfl, rfl⟩)); refine hK _ _ ?_; clear hK K
                        refine stepK rfl (by kernel_rfl) (fun K hK => ?_); go_simp
                        apply Exists.intro; apply And.intro; (focus (intro wk hk; have cc : wk.cell? ⟨lo2q, 0, none⟩ = some (.int .i64 xi) := ((K6.Row.tr rY hk.undrew id).cell 0).trans y0; go_simp; exact ⟨rfl, rfl⟩)); refine hK _ _ ?_; clear hK K
                        refine stepS _ rfl (by kernel_rfl) (fun K hK => ?_); go_simp
                        refine ⟨?_, ?_⟩
                        · intro wk hk hg hu; go_simp; refine upon_enter ((q1.out _ u5 (ob4.below hk.undrew.below).bs).mono ?_); rintro e w' ⟨v, rfl, hv, hb9⟩; exact ⟨_, rfl, left_F rfl rfl hb9 trivial (hv.base (by have := hk.undrew.size; omega))⟩
                        rintro ⟨v3_, lo3_, hi3_⟩ - - -
                        refine hK _ _ ?_; clear hK K
                        refine stepK rfl (by kernel_rfl) (fun K hK => ?_); go_simp
                        apply Exists.intro; apply And.intro; (focus (intro wk hk; go_simp; exact ⟨rfl, rfl⟩)); refine hK _ _ ?_; clear hK K
                        refine stepK rfl (by kernel_rfl) (fun K hK => ?_); go_simp
                        apply Exists.intro; apply And.intro; (focus (intro wk hk; have cc : wk.cell? ⟨lo2q, 1, none⟩ = some (.int .i64 xt) := ((K6.Row.tr rY hk.undrew id).cell 1).trans y1; go_simp; exact ⟨rfl, rfl⟩)); refine hK _ _ ?_; clear hK K
                        refine stepS _ rfl (by kernel_rfl) (fun K hK => ?_); go_simp
                        refine ⟨?_, ?_⟩
                        · intro wk hk hg hu; have u3 := hu 3 (show 3 ∈ [3] by decide); go_simp; refine upon_enter ((q2.out _ v3_ (show Ob wk w.heap.size v3_ Z1 from u3).bs).mono ?_); rintro e w' ⟨v, rfl, hv, hb9⟩; exact ⟨_, rfl, left_F rfl rfl hb9 trivial (hv.base (by have := hk.undrew.size; omega))⟩
                        rintro ⟨v6_, lo6_, hi6_⟩ - - -
                        refine hK _ _ ?_; clear hK K
                        refine stepK rfl (by kernel_rfl) (fun K hK => ?_); go_simp
                        apply Exists.intro; apply And.intro; (focus (intro wk hk; go_simp; exact ⟨rfl, rfl⟩)); refine hK _ _ ?_; clear hK K
                        refine stepK rfl (by kernel_rfl) (fun K hK => ?_); go_simp
                        apply Exists.intro; apply And.intro; (focus exact kLoadMid rfl rfl aggT31 rY ya hWsz id); refine hK _ _ ?_; clear hK K
                        refine stepS _ rfl (by kernel_rfl) (fun K hK => ?_); go_simp
                        refine ⟨?_, ?_⟩
                        · intro wk hk hg hu; have u6 := hu 6 (show 6 ∈ [6] by decide); go_simp; refine upon_enter ((q3.out _ v6_ (show Ob wk w.heap.size v6_ Z2 from u6).bs).mono ?_); rintro e w' ⟨v, rfl, hv, hb9⟩; exact ⟨_, rfl, left_F rfl rfl hb9 trivial (hv.base (by have := hk.undrew.size; omega))⟩
                        rintro ⟨v9_, lo9_, hi9_⟩ - - -
                        refine hK _ _ ?_; clear hK K
                        refine stepK rfl (by kernel_rfl) (fun K hK => ?_); go_simp
                        apply Exists.intro; apply And.intro; (focus (intro wk hk; go_simp; exact ⟨rfl, rfl⟩)); refine hK _ _ ?_; clear hK K
                        refine stepK rfl (by kernel_rfl) (fun K hK => ?_); go_simp
                        apply Exists.intro; apply And.intro; (focus (intro wk hk; have cc : wk.cell? ⟨lo2q, 6, none⟩ = some (.slice xq xn xc) := ((K6.Row.tr rY hk.undrew id).cell 6).trans y6; go_simp; exact ⟨rfl, rfl⟩)); refine hK _ _ ?_; clear hK K
                        refine stepS _ rfl (by kernel_rfl) (fun K hK => ?_); go_simp
                        refine ⟨?_, ?_⟩
                        · intro wk hk hg hu; have u9 := hu 9 (show 9 ∈ [9] by decide); go_simp; refine upon_enter ((q4.out _ v9_ (HB4.out.trans (hk.undrew.below.mono hs4)) (show Ob wk w.heap.size v9_ Z3 from u9).bs).mono ?_); rintro e w' ⟨v, rfl, hv, hb9⟩; exact ⟨_, rfl, left_F rfl rfl hb9 trivial (hv.base (by have := hk.undrew.size; omega))⟩
                        rintro ⟨v12_, lo12_, hi12_⟩ - - -
                        refine hK _ _ ?_; clear hK K
                        refine stepK rfl (by kernel_rfl) (fun K hK => ?_); go_simp
                        apply Exists.intro; apply And.intro; (focus (intro wk hk; go_simp; exact ⟨rfl, rfl⟩)); refine hK _ _ ?_; clear hK K
                        refine stepN ?_
                        refine hQ _ _ ?_
                        intro w6 hT hG hF
                        have hb6 := hT.undrew.below
                        have o7 : Ob w6 w.heap.size v12_ Z4 := hF 12 _ rfl rfl (by decide)
                        have H6 := Lib.hid (show Ob w6 w.heap.size v12_ (Q7 ++ (ll.take (i + 1)).flatMap fun x => lfKB x.key) ∧ Below w.heap.size w w6 from ⟨by rw [← hst4.out]; exact o7, hinv.out.trans ((HB4.out.trans (hb6.mono hs4)).mono hBr)⟩)
                        clear hT hG hF hQ QQ L rY ob4 o7 hb6 HB4 q1 q2 q3 q4 hst4 hinv
                        go_wp2_with fail
                        go_roundg (gk - 1)
                        case measure => omega
                        case rel => exact ⟨i + 1, by omega, by go_num, Lib.hid H6.out.1, Lib.hid H6.out.2⟩
                      · obtain rfl : i = nl := by omega
                        have hlt : ¬ (i : Int) < (i : Int) := by omega
                        rw [List.take_of_length_le (by have := HQ.out.2.2.1; omega), HPE.out] at hob
                        have H9 := Lib.hid (show Ob wr w.heap.size u5 P4 ∧ Below w.heap.size w wr from ⟨hob.out, hinv.out⟩)
                        clear hob hinv HQ HPE
                        obtain ⟨q5, c5_, hv⟩ := own_sl_ H9.out.1
                        obtain ⟨n5, hn5⟩ : ∃ n, P4.length = n := ⟨_, rfl⟩
                        rw [hn5] at hv
                        have hn5' := Lib.hid hn5
                        subst hv
                        clear hn5
                        by_cases h4 : n5 ≤ 4096
                        · have h4i : (n5 : Int) ≤ 4096 := by omega
                          have e9 := Lib.hid (show BY = P4 by rw [hby.out, if_pos (by have := hn5'.out; omega)])
                          clear h4 hby
                          go_wp2_with fail
                          go_ret
                          exact ⟨_, rfl, by rw [e9.out]; exact H9.out.1, H9.out.2⟩
                        · have h4i : 4096 < (n5 : Int) := by omega
                          have e9 := Lib.hid (show BY = [] by rw [hby.out, if_neg (by have := hn5'.out; omega)])
                          clear h4 hby
                          go_wp2_with fail
                          go_ret
                          exact ⟨_, rfl, by rw [e9.out]; exact Ob.nil _ _, H9.out.2⟩
end Go.Proofs.Ytpdenhmkpiafiaa
namespace Go.Proofs.Ytpdenhmkpiafiaa
open Go Go.RowKit K6
namespace K6
end K6
theorem conv_emptyA (a : Addr) (c : Nat) (w : World) : (convert 33 9 (.slice (some a) 0 c)).run Try.prog w = .ok (.string (strOfNums [])) w := by
  kernel_rfl
theorem Bs.convA {w : World} {u : Value} {xs : List Int} (h : Bs w u xs) : (convert 33 9 u).run Try.prog w = .ok (.string (strOfNums xs)) w := by
  by_cases h0 : xs = []
  · obtain ⟨q, c, rfl, hn, h1⟩ := h
    subst h0
    cases q with
    | none => kernel_rfl
    | some a => exact conv_emptyA a c w
  · exact h.conv h0
def ObF (I : World → Prop) (L : List Int) (x : GV) (w : World) : Prop := Ob w x.lo x.v L ∧ (∀ b, x.v.ownBlock = some b → b < x.hi) ∧ I w
theorem ObF.loc {I : World → Prop} {Lo : Nat → Prop} {L : List Int} (hI : ∀ w w', I w → Tr (fun b => ¬ Lo b) w w' → I w') (x : GV) (w w' : World) (h : ObF I L x w) (hT : Tr (fun b => ¬ (Lo b ∨ (x.lo ≤ b ∧ b < x.hi))) w w') : ObF I L x w' :=
  ⟨h.1.keep hT fun b hb hx => hx (.inr ⟨(h.1.lt b hb).1, h.2.1 b hb⟩), h.2.1, hI w w' h.2.2 (hT.mono fun _ _ hb hx => hb (.inl hx))⟩
theorem SA.loc {lo hi g : Nat} {e : Int} {xs : List Int} (w w' : World) (h : SA w lo hi g e xs) (hT : Tr (fun b => ¬ (lo ≤ b ∧ b < hi)) w w') : SA w' lo hi g e xs := h.keep hT fun _ h1 h2 hx => hx ⟨h1, h2⟩
end Go.Proofs.Ytpdenhmkpiafiaa
namespace Go.Proofs.Ytpdenhmkpiafiaa
open Go Go.RowKit K6
def t15 : Txv := ⟨15, 7, none, 0, [], none, 0, [], none, 0, [], cm0⟩
theorem t15_ok (w : World) : TxOk w t15 :=
  ⟨⟨by decide, by decide⟩, ⟨by decide, by decide⟩, Rs.nil _ _ _, (fun _ h => (by cases h)), Us.nil w, (fun _ h => (by cases h)), Rs.nil _ _ _, (fun _ h => (by cases h)), cm0_ok w⟩
theorem t15_light : LightT t15 := ⟨by decide, by decide, by decide, by decide, by decide, fun _ h => (by cases h)⟩
set_option maxRecDepth 100000 in
theorem t15_good : goodK t15.key = true := by
  unfold goodK
  have h1 : shpOf t15.key.1 = ⟨0, false, 0, false, 0, false⟩ := by kernel_rfl
  rw [h1]
  simp only [if_neg (show ¬ (false = true) by decide)]
  have h2 : decide (t15.key.2.2.2.2.2 = cm0.key) = true := decide_eq_true rfl
  rw [h2]
  decide +kernel
theorem t15_bytes : bytK t15.key = [15, 7] := by
  have h1 : shpOf t15.key.1 = ⟨0, false, 0, false, 0, false⟩ := by kernel_rfl
  have h2 : putK t15.key = [15, 7] := by
    unfold putK
    rw [h1]
    show enc 15 ++ (enc 7 ++ _) = _
    rw [enc_low (by decide), enc_low (by decide)]
    rfl
  unfold bytK
  rw [if_pos t15_good, h2]
  rfl
set_option maxRecDepth 100000 in
set_option maxHeartbeats 64000000 in
theorem lives15U (w : World) : Calls Try.prog 133 #[] w fun e w' => e = .returned (.bool true) ∧ Below w.heap.size w w' := by
  have kb := fun wx => txbytes_at t15 wx (t15_ok wx) t15_light
  rw [t15_bytes] at kb
  have hcs : t15.cs.toArray = #[.int .i64 15, .int .i64 7, .slice none 0 0, .slice none 0 0, .slice none 0 0, .int .i64 0, .int .i64 0, .int .i64 0, .int .u8 0, .int .u8 0, .int .u8 0, .int .u8 0, .int .u8 0, .int .u8 0, .int .u8 0, .int .u8 0, .int .u8 0, .int .u8 0, .int .u8 0, .int .u8 0, .int .u8 0, .int .u8 0, .int .u8 0, .int .u8 0, .int .u8 0, .int .u8 0, .int .u8 0, .int .u8 0, .int .u8 0, .int .u8 0, .int .u8 0, .int .u8 0, .int .u8 0, .int .u8 0, .int .u8 0, .int .u8 0, .int .u8 0, .int .u8 0, .int .u8 0, .int .u8 0, .slice none 0 0, .slice none 0 0, .int .i64 0] := by kernel_rfl
  rw [hcs] at kb
  replace kb := Lib.hid kb
  have hSB : Hid (strOfNums [15, 7] = ByteArray.mk #[15, 7]) := Lib.hid (by kernel_rfl)
  clear hcs
  go_enter Try.func133, Try.ntmps133
  go_upto_region 1 with (fail)
  let L : List Sp := [sF 1 [] [] [] (fun _ => True) (fun x w => Bs w x.v [15, 7]), sV 2 [1] [1] (fun u => u = .string (ByteArray.mk #[15, 7]))]
  refine wp_region_six0 (shs L) (look6 L) (None_) (by kernel_rfl) (by kernel_rfl) (mk_St L [] [] (by kernel_rfl) (by kernel_rfl) ⟨ok_F (any_some _) (fun _ _ _ h hb => Bs.below h hb), ok_V ⟨_, rfl⟩, trivial⟩ (by simp)) ?_
  intro QQ hQ
  refine stepK rfl (by kernel_rfl) (fun K hK => ?_); go_simp
  apply Exists.intro; apply And.intro; (focus (intro wk hk; go_simp; exact ⟨rfl, rfl⟩)); refine hK _ _ ?_; clear hK K
  refine stepS _ rfl (by kernel_rfl) (fun K hK => ?_); go_simp
  refine ⟨?_, ?_⟩
  · intro wk hk hg hu; go_simp; refine upon_enter ((kb.out _).mono ?_); rintro e w' ⟨v, rfl, hv, hb9⟩; exact ⟨_, rfl, left_F rfl rfl hb9 trivial hv.bs⟩
  rintro ⟨v1, lo1, hi1⟩ - - -
  refine hK _ _ ?_; clear hK K
  refine stepS _ rfl (by kernel_rfl) (fun K hK => ?_); go_simp
  refine ⟨?_, ?_⟩
  · intro wk hk hg hu; have u1 := hu 1 (show 1 ∈ [1] by decide); have b1 : Bs wk v1 [15, 7] := u1; have cv := Bs.convA b1; rw [hSB.out] at cv; go_simp; exact left_V (p := fun u => u = .string (ByteArray.mk #[15, 7])) rfl (Below.refl _ _) rfl
  rintro ⟨v2, lo2, hi2⟩ - - (rfl : v2 = _)
  refine hK _ _ ?_; clear hK K
  refine stepK rfl (by kernel_rfl) (fun K hK => ?_); go_simp
  apply Exists.intro; apply And.intro; (focus (intro wk hk; go_simp; exact ⟨rfl, rfl⟩)); refine hK _ _ ?_; clear hK K
  refine stepK rfl (by kernel_rfl) (fun K hK => ?_); go_simp
  apply Exists.intro; apply And.intro; (focus (intro wk hk; go_simp; exact ⟨rfl, rfl⟩)); refine hK _ _ ?_; clear hK K
  refine stepN ?_
  refine hQ _ _ ?_
  intro w9 hT hG hF
  have H9 := Lib.hid (hT.below)
  clear hT hG hF hQ QQ L kb
  go_wp2_with fail
  go_ret
  exact ⟨by first | rfl | (simp; done), H9.out⟩
end Go.Proofs.Ytpdenhmkpiafiaa
namespace Go.Proofs.Ytpdenhmkpiafiaa
open Go Go.RowKit K6
theorem fields118 : (Try.prog.fieldsOf 118).toList = [⟨ "N", 3, 0, false, "", "", 0⟩, ⟨ "Tail", 4, 1, false, "", "", 8⟩, ⟨ "A", 3, 2, false, "", "", 16⟩, ⟨ "Each", 4, 3, false, "", "", 24⟩, ⟨ "H", 3, 4, false, "", "", 32⟩, ⟨ "Claim", 4, 5, false, "", "", 40⟩] := by kernel_rfl
theorem eq118 (sn sa sh : Int) (st se sc : Bool) (w : World) : (Op.equalIn 10000 118 (.agg #[.int .i64 sn, .bool st, .int .i64 sa, .bool se, .int .i64 sh, .bool sc]) (.agg #[.int .i64 sn, .bool st, .int .i64 sa, .bool se, .int .i64 sh, .bool sc])).run Try.prog w = .ok true w := by
  have f1 : ∀ (d : Nat) (a : Int) (wx : World), (Op.equalIn (d + 1) 3 (.int .i64 a) (.int .i64 a)).run Try.prog wx = .ok true wx := fun d a wx => by
    simp [Op.equalIn, run_underlying Try.underlying3]
  have f2 : ∀ (d : Nat) (a : Bool) (wx : World), (Op.equalIn (d + 1) 4 (.bool a) (.bool a)).run Try.prog wx = .ok true wx := fun d a wx => by
    simp [Op.equalIn, run_underlying Try.underlying4]
  have e1 : ∀ (a : Int) (wx : World), (Op.equalIn 9999 3 (.int .i64 a) (.int .i64 a)).run Try.prog wx = .ok true wx := fun a wx => f1 9998 a wx
  have e2 : ∀ (a : Bool) (wx : World), (Op.equalIn 9999 4 (.bool a) (.bool a)).run Try.prog wx = .ok true wx := fun a wx => f2 9998 a wx
  rw [run_equalIn_struct w 9999 118 _ _ (by kernel_rfl) (by kernel_rfl), fields118]
  simp [Op.eqFields, part, isAgg, run_underlying Try.underlying3, run_underlying Try.underlying4, e1, e2]
set_option maxRecDepth 100000 in
set_option maxHeartbeats 64000000 in
theorem forms15_walk (t u : Txv) (k : Int) (w : World) (ht : TxOk w t) (hu : TxOk w u) (hmt : LenT t) (hmu : LenT u) :
    Calls Try.prog 26 #[.agg t.cs.toArray, .agg u.cs.toArray, .int .i64 k] w fun e w' => e = .returned (.bool true) ∧ Below w.heap.size w w' := by
  have lv := Lib.hid fun wx => lives15U wx
  have k1 := fun wx (hb : Below w.heap.size w wx) => light15_at t wx (ht.below hb) hmt
  have k2 := fun wx (hb : Below w.heap.size w wx) => light15_at u wx (hu.below hb) hmu
  have hst : t.cs.toArray.size = 43 := by rw [List.size_toArray]; exact Txv.len ht.c.tok
  have hsu : u.cs.toArray.size = 43 := by rw [List.size_toArray]; exact Txv.len hu.c.tok
  obtain ⟨b1, hb1⟩ : ∃ b, lightB t = b := ⟨_, rfl⟩
  obtain ⟨b2, hb2⟩ : ∃ b, lightB u = b := ⟨_, rfl⟩
  rw [hb1] at k1
  rw [hb2] at k2
  have HT := Lib.hid (show b1 = true → LightT t from fun h => lightB_is (hb1.trans h))
  have HTO := Lib.hid (show _ ∧ _ from ⟨ht, hu⟩)
  have kO := fun wx => txof_any k wx
  have kR := fun wx => rof15_at k wx
  unfold OfP at kO kR
  obtain ⟨S, hS⟩ : ∃ S, shpOf k = S := ⟨_, rfl⟩
  obtain ⟨ok, hok⟩ : ∃ b, okK k = b := ⟨_, rfl⟩
  rw [hS, hok] at kO kR
  obtain ⟨sn, st, sa, se, sh, sc⟩ := S
  simp only [Shp.cs] at kO kR
  have kN := fun wx => txname_at k wx
  have kM := fun wx => rname15_at k wx
  obtain ⟨N, hN⟩ : ∃ N, txOf k = N := ⟨_, rfl⟩
  rw [hN] at kN kM
  have kg := fun wx (hb : Below w.heap.size w wx) (hl : LightT t) => good_at t wx (ht.below hb) hl
  have kh := fun wx (hb : Below w.heap.size w wx) (hl : LightT t) => rgood_at t wx (ht.below hb) hl
  have kB := fun wx (hb : Below w.heap.size w wx) (hl : LightT t) => txbytes_at t wx (ht.below hb) hl
  have kC := fun wx (hb : Below w.heap.size w wx) (hl : LightT t) => rtxbytes_at t wx (ht.below hb) hl
  have kS := fun wx (hb : Below w.heap.size w wx) (hl : LightT t) => txsame_at t u wx (ht.below hb) (hu.below hb) hl
  have kT := fun wx (hb : Below w.heap.size w wx) (hl : LightT t) => rtxsame_at t u wx (ht.below hb) (hu.below hb) hl
  obtain ⟨bg, hbg⟩ : ∃ b, goodK t.key = b := ⟨_, rfl⟩
  obtain ⟨bs, hbs⟩ : ∃ b, decide (t.key = u.key) = b := ⟨_, rfl⟩
  obtain ⟨lB, hlB⟩ : ∃ l, bytK t.key = l := ⟨_, rfl⟩
  simp only [hbg] at kg kh
  simp only [hbs] at kS kT
  simp only [hlB] at kB kC
  obtain ⟨SB, hSB⟩ : ∃ B, Hid (strOfNums lB = B) := ⟨_, Lib.hid rfl⟩
  obtain ⟨ct, hct⟩ : ∃ c, t.cs.toArray = c := ⟨_, rfl⟩
  obtain ⟨cu, hcu⟩ : ∃ c, u.cs.toArray = c := ⟨_, rfl⟩
  rw [hct] at hst ⊢
  rw [hcu] at hsu ⊢
  simp only [hct] at k1 kg kh kB kC kS kT
  simp only [hcu] at k2 kS kT
  replace k1 := Lib.hid k1
  replace k2 := Lib.hid k2
  replace kO := Lib.hid kO
  replace kR := Lib.hid kR
  replace kN := Lib.hid kN
  replace kM := Lib.hid kM
  replace kg := Lib.hid kg
  replace kh := Lib.hid kh
  replace kB := Lib.hid kB
  replace kC := Lib.hid kC
  replace kS := Lib.hid kS
  replace kT := Lib.hid kT
  have q118 := fun wx => eq118 sn sa sh st se sc wx
  clear hb1 hb2 hS hok hN hbg hbs hlB hct hcu ht hu hmt hmu
  go_enter Try.func26, Try.ntmps26
  go_upto_region 1 with (fail)
  refine wp_abs (Mem w [(w.heap.size, 116, ct), (w.heap.size + 1, 116, cu)]) ⟨by go_grown, by (repeat (first | (refine Row.new_at ?_; simp; done) | refine Row.alloc ?_ _)), by (repeat (first | (refine Row.new_at ?_; simp; done) | refine Row.alloc ?_ _)), trivial⟩ ?_
  intro w0 hM
  obtain ⟨hl, r1, r2, -⟩ := hM
  cases b1
  · let L : List Sp := [sV 1 [] [] (fun u => u = .bool false)]
    refine wp_region_six0 (shs L) (look6 L) (None_) (by kernel_rfl) (by kernel_rfl) (mk_St L [] [] (by kernel_rfl) (by kernel_rfl) ⟨ok_V ⟨_, rfl⟩, trivial⟩ (by simp)) ?_
    intro QQ hQ
    refine stepK rfl (by kernel_rfl) (fun K hK => ?_); go_simp
    apply Exists.intro; apply And.intro; (focus exact kLoad rfl rfl aggT116 r1 hst id); refine hK _ _ ?_; clear hK K
    refine stepS _ rfl (by kernel_rfl) (fun K hK => ?_); go_simp
    refine ⟨?_, ?_⟩
    · intro wk hk hg hu; go_simp; refine upon_enter ((k1.out _ (hl.trans (hk.below.mono hl.size))).mono ?_); rintro e w' ⟨rfl, hb⟩; exact ⟨_, rfl, left_V (p := fun u => u = .bool false) rfl (hb) rfl⟩
    rintro ⟨v1, lo1, hi1⟩ - - (rfl : v1 = _)
    refine hK _ _ ?_; clear hK K
    refine stepK rfl (by kernel_rfl) (fun K hK => ?_); go_simp
    apply Exists.intro; apply And.intro; (focus (intro wk hk; go_simp; exact ⟨rfl, rfl⟩)); refine hK _ _ ?_; clear hK K
    refine stepK rfl (by kernel_rfl) (fun K hK => ?_); go_simp
    apply Exists.intro; apply And.intro; (focus (intro wk hk; go_simp; exact ⟨rfl, rfl⟩)); refine hK _ _ ?_; clear hK K
    refine stepK rfl (by kernel_rfl) (fun K hK => ?_); go_simp
    first | (refine hK _ _ ?_; clear hK K) | (apply Exists.intro; apply And.intro; (focus (intro wk hk; go_simp; exact ⟨rfl, rfl⟩)); refine hK _ _ ?_; clear hK K)
    refine stepK rfl (by kernel_rfl) (fun K hK => ?_); go_simp
    first | (refine hK _ _ ?_; clear hK K) | (apply Exists.intro; apply And.intro; (focus (intro wk hk; go_simp; exact ⟨rfl, rfl⟩)); refine hK _ _ ?_; clear hK K)
    refine stepK rfl (by kernel_rfl) (fun K hK => ?_); go_simp
    first | (refine hK _ _ ?_; clear hK K) | (apply Exists.intro; apply And.intro; (focus (intro wk hk; go_simp; exact ⟨rfl, rfl⟩)); refine hK _ _ ?_; clear hK K)
    refine stepK rfl (by kernel_rfl) (fun K hK => ?_); go_simp
    apply Exists.intro; apply And.intro; (focus (intro wk hk; go_simp; exact ⟨rfl, rfl⟩)); refine hK _ _ ?_; clear hK K
    refine stepN ?_
    refine hQ _ _ ?_
    intro w1 hT hG hF
    have hb1 := hT.below
    have hl1 := hl.trans (hb1.mono hl.size)
    clear hT hG hF hQ QQ L hl r1 r2 hb1 k1 k2 kO kR kN kM kg kh kB kC kS kT HT HTO
    have H := Lib.hid hl1
    clear hl1
    go_wp2_with fail
    refine (lv.out _).mono ?_
    rintro e w9 ⟨rfl, hb⟩
    have H9 := Lib.hid (H.out.trans (hb.mono H.out.size))
    clear hb H
    go_wp2_with fail
    go_ret
    exact ⟨rfl, H9.out⟩
  cases b2
  · let L : List Sp := [sV 1 [] [] (fun u => u = .bool true), sV 5 [] [] (fun u => u = .bool false)]
    refine wp_region_six0 (shs L) (look6 L) (None_) (by kernel_rfl) (by kernel_rfl) (mk_St L [] [] (by kernel_rfl) (by kernel_rfl) ⟨ok_V ⟨_, rfl⟩, ok_V ⟨_, rfl⟩, trivial⟩ (by simp)) ?_
    intro QQ hQ
    refine stepK rfl (by kernel_rfl) (fun K hK => ?_); go_simp
    apply Exists.intro; apply And.intro; (focus exact kLoad rfl rfl aggT116 r1 hst id); refine hK _ _ ?_; clear hK K
    refine stepS _ rfl (by kernel_rfl) (fun K hK => ?_); go_simp
    refine ⟨?_, ?_⟩
    · intro wk hk hg hu; go_simp; refine upon_enter ((k1.out _ (hl.trans (hk.below.mono hl.size))).mono ?_); rintro e w' ⟨rfl, hb⟩; exact ⟨_, rfl, left_V (p := fun u => u = .bool true) rfl (hb) rfl⟩
    rintro ⟨v1, lo1, hi1⟩ - - (rfl : v1 = _)
    refine hK _ _ ?_; clear hK K
    refine stepK rfl (by kernel_rfl) (fun K hK => ?_); go_simp
    apply Exists.intro; apply And.intro; (focus (intro wk hk; go_simp; exact ⟨rfl, rfl⟩)); refine hK _ _ ?_; clear hK K
    refine stepK rfl (by kernel_rfl) (fun K hK => ?_); go_simp
    apply Exists.intro; apply And.intro; (focus (intro wk hk; go_simp; exact ⟨rfl, rfl⟩)); refine hK _ _ ?_; clear hK K
    refine stepK rfl (by kernel_rfl) (fun K hK => ?_); go_simp
    first | (refine hK _ _ ?_; clear hK K) | (apply Exists.intro; apply And.intro; (focus exact kLoad rfl rfl aggT116 r2 hsu id); refine hK _ _ ?_; clear hK K)
    refine stepS _ rfl (by kernel_rfl) (fun K hK => ?_); go_simp
    refine ⟨?_, ?_⟩
    · intro wk hk hg hu; go_simp; refine upon_enter ((k2.out _ (hl.trans (hk.below.mono hl.size))).mono ?_); rintro e w' ⟨rfl, hb⟩; exact ⟨_, rfl, left_V (p := fun u => u = .bool false) rfl (hb) rfl⟩
    rintro ⟨v5, lo5, hi5⟩ - - (rfl : v5 = _)
    refine hK _ _ ?_; clear hK K
    refine stepK rfl (by kernel_rfl) (fun K hK => ?_); go_simp
    first | (refine hK _ _ ?_; clear hK K) | (apply Exists.intro; apply And.intro; (focus (intro wk hk; go_simp; exact ⟨rfl, rfl⟩)); refine hK _ _ ?_; clear hK K)
    refine stepK rfl (by kernel_rfl) (fun K hK => ?_); go_simp
    apply Exists.intro; apply And.intro; (focus (intro wk hk; go_simp; exact ⟨rfl, rfl⟩)); refine hK _ _ ?_; clear hK K
    refine stepN ?_
    refine hQ _ _ ?_
    intro w1 hT hG hF
    have hb1 := hT.below
    have hl1 := hl.trans (hb1.mono hl.size)
    clear hT hG hF hQ QQ L hl r1 r2 hb1 k1 k2 kO kR kN kM kg kh kB kC kS kT HT HTO
    have H := Lib.hid hl1
    clear hl1
    go_wp2_with fail
    refine (lv.out _).mono ?_
    rintro e w9 ⟨rfl, hb⟩
    have H9 := Lib.hid (H.out.trans (hb.mono H.out.size))
    clear hb H
    go_wp2_with fail
    go_ret
    exact ⟨rfl, H9.out⟩
  let L : List Sp := [sV 1 [] [] (fun u => u = .bool true), sV 5 [] [] (fun u => u = .bool true)]
  refine wp_region_six0 (shs L) (look6 L) (None_) (by kernel_rfl) (by kernel_rfl) (mk_St L [] [] (by kernel_rfl) (by kernel_rfl) ⟨ok_V ⟨_, rfl⟩, ok_V ⟨_, rfl⟩, trivial⟩ (by simp)) ?_
  intro QQ hQ
  refine stepK rfl (by kernel_rfl) (fun K hK => ?_); go_simp
  apply Exists.intro; apply And.intro; (focus exact kLoad rfl rfl aggT116 r1 hst id); refine hK _ _ ?_; clear hK K
  refine stepS _ rfl (by kernel_rfl) (fun K hK => ?_); go_simp
  refine ⟨?_, ?_⟩
  · intro wk hk hg hu; go_simp; refine upon_enter ((k1.out _ (hl.trans (hk.below.mono hl.size))).mono ?_); rintro e w' ⟨rfl, hb⟩; exact ⟨_, rfl, left_V (p := fun u => u = .bool true) rfl (hb) rfl⟩
  rintro ⟨v1, lo1, hi1⟩ - - (rfl : v1 = _)
  refine hK _ _ ?_; clear hK K
  refine stepK rfl (by kernel_rfl) (fun K hK => ?_); go_simp
  apply Exists.intro; apply And.intro; (focus (intro wk hk; go_simp; exact ⟨rfl, rfl⟩)); refine hK _ _ ?_; clear hK K
  refine stepK rfl (by kernel_rfl) (fun K hK => ?_); go_simp
  apply Exists.intro; apply And.intro; (focus (intro wk hk; go_simp; exact ⟨rfl, rfl⟩)); refine hK _ _ ?_; clear hK K
  refine stepK rfl (by kernel_rfl) (fun K hK => ?_); go_simp
  first | (refine hK _ _ ?_; clear hK K) | (apply Exists.intro; apply And.intro; (focus exact kLoad rfl rfl aggT116 r2 hsu id); refine hK _ _ ?_; clear hK K)
  refine stepS _ rfl (by kernel_rfl) (fun K hK => ?_); go_simp
  refine ⟨?_, ?_⟩
  · intro wk hk hg hu; go_simp; refine upon_enter ((k2.out _ (hl.trans (hk.below.mono hl.size))).mono ?_); rintro e w' ⟨rfl, hb⟩; exact ⟨_, rfl, left_V (p := fun u => u = .bool true) rfl (hb) rfl⟩
  rintro ⟨v5, lo5, hi5⟩ - - (rfl : v5 = _)
  refine hK _ _ ?_; clear hK K
  refine stepK rfl (by kernel_rfl) (fun K hK => ?_); go_simp
  first | (refine hK _ _ ?_; clear hK K) | (apply Exists.intro; apply And.intro; (focus (intro wk hk; go_simp; exact ⟨rfl, rfl⟩)); refine hK _ _ ?_; clear hK K)
  refine stepK rfl (by kernel_rfl) (fun K hK => ?_); go_simp
  apply Exists.intro; apply And.intro; (focus (intro wk hk; go_simp; exact ⟨rfl, rfl⟩)); refine hK _ _ ?_; clear hK K
  refine stepN ?_
  refine hQ _ _ ?_
  intro w1 hT hG hF
  have hb1 := hT.below
  have hl1 := hl.trans (hb1.mono hl.size)
  have hL := HT.out rfl
  replace r1 := r1.below hb1 r1.lt
  replace r2 := r2.below hb1 r2.lt
  clear hT hG hF hQ QQ L hl hb1 k1 k2 HT HTO
  have hl := hl1
  clear hl1
  go_upto_region 3 with (fail)
  let L : List Sp := [sV 1 [] [] (fun u => u = .tuple #[.agg #[.int .i64 sn, .bool st, .int .i64 sa, .bool se, .int .i64 sh, .bool sc], .bool ok]), sA 5 107 [6] #[.int .i64 0, .bool false, .int .i64 0, .bool false, .int .i64 0, .bool false], sT 6 5 107 [3] (fun g => aggOf g 3)]
  refine wp_region_six0 (shs L) (look6 L) (None_) (by kernel_rfl) (by kernel_rfl) (mk_St L [] [] (by kernel_rfl) (by kernel_rfl) ⟨ok_V ⟨_, rfl⟩, ok_A, ok_T aggOf_congr, trivial⟩ (by simp)) ?_
  intro QQ hQ
  refine stepK rfl (by kernel_rfl) (fun K hK => ?_); go_simp
  apply Exists.intro; apply And.intro; (focus (intro wk hk; go_simp; exact ⟨rfl, rfl⟩)); refine hK _ _ ?_; clear hK K
  refine stepS _ rfl (by kernel_rfl) (fun K hK => ?_); go_simp
  refine ⟨?_, ?_⟩
  · intro wk hk hg hu; go_simp; refine upon_enter ((kO.out _).mono ?_); rintro e w' ⟨rfl, hb⟩; exact ⟨_, rfl, left_V (p := fun u => u = .tuple #[.agg #[.int .i64 sn, .bool st, .int .i64 sa, .bool se, .int .i64 sh, .bool sc], .bool ok]) rfl (hb) rfl⟩
  rintro ⟨v1, lo1, hi1⟩ - - (rfl : v1 = _)
  refine hK _ _ ?_; clear hK K
  refine stepK rfl (by kernel_rfl) (fun K hK => ?_); go_simp
  apply Exists.intro; apply And.intro; (focus (intro wk hk; go_simp; exact ⟨rfl, rfl⟩)); refine hK _ _ ?_; clear hK K
  refine stepK rfl (by kernel_rfl) (fun K hK => ?_); go_simp
  apply Exists.intro; apply And.intro; (focus (intro wk hk; go_simp; exact ⟨rfl, rfl⟩)); refine hK _ _ ?_; clear hK K
  refine stepK rfl (by kernel_rfl) (fun K hK => ?_); go_simp
  apply Exists.intro; apply And.intro; (focus (intro wk hk; go_simp; exact ⟨rfl, rfl⟩)); refine hK _ _ ?_; clear hK K
  refine stepS _ rfl (by kernel_rfl) (fun K hK => ?_); go_simp
  refine ⟨?_, ?_⟩
  · intro wk hk hg hu; go_simp; exact left_A rfl rfl
  rintro ⟨v7, lo7, hi7⟩ hlo7 hhi7 ⟨e5, f5⟩
  replace e5 : v7 = .pointer (some ⟨lo7, 0, none⟩) := e5; replace f5 : hi7 = lo7 + 1 := f5; replace hlo7 : _ ≤ lo7 := hlo7; subst e5; subst f5
  refine hK _ _ ?_; clear hK K
  refine stepS _ rfl (by kernel_rfl) (fun K hK => ?_); go_simp
  refine ⟨?_, ?_⟩
  · exact sStoreT rfl rfl rfl rfl rfl rfl rfl (by kernel_rfl) rfl (by kernel_rfl) (by decide) aggOf_congr
  rintro ⟨v6, lo6, hi6⟩ - - (rfl : v6 = undef)
  refine hK _ _ ?_; clear hK K
  refine stepK rfl (by kernel_rfl) (fun K hK => ?_); go_simp
  apply Exists.intro; apply And.intro; (focus (intro wk hk; go_simp; exact ⟨rfl, rfl⟩)); refine hK _ _ ?_; clear hK K
  refine stepN ?_
  refine hQ _ _ ?_
  intro w2 hT hG hF
  have hb2 := hT.below
  have r7 : Row w2 lo7 107 (#[.int .i64 sn, .bool st, .int .i64 sa, .bool se, .int .i64 sh, .bool sc]) := (hF 6 _ rfl rfl (by decide)).2
  replace r1 := r1.below hb2 r1.lt
  replace r2 := r2.below hb2 r2.lt
  replace hl := hl.trans (hb2.mono hl.size)
  clear hT hG hF hQ QQ L hb2 kO
  go_upto_region 4 with (fail)
  let L : List Sp := [sV 1 [] [] (fun u => u = .tuple #[.agg #[.int .i64 sn, .bool st, .int .i64 sa, .bool se, .int .i64 sh, .bool sc], .bool ok]), sA 5 118 [6] #[.int .i64 0, .bool false, .int .i64 0, .bool false, .int .i64 0, .bool false], sT 6 5 118 [3] (fun g => aggOf g 3)]
  refine wp_region_six0 (shs L) (look6 L) (None_) (by kernel_rfl) (by kernel_rfl) (mk_St L [] [] (by kernel_rfl) (by kernel_rfl) ⟨ok_V ⟨_, rfl⟩, ok_A, ok_T aggOf_congr, trivial⟩ (by simp)) ?_
  intro QQ hQ
  refine stepK rfl (by kernel_rfl) (fun K hK => ?_); go_simp
  apply Exists.intro; apply And.intro; (focus (intro wk hk; go_simp; exact ⟨rfl, rfl⟩)); refine hK _ _ ?_; clear hK K
  refine stepS _ rfl (by kernel_rfl) (fun K hK => ?_); go_simp
  refine ⟨?_, ?_⟩
  · intro wk hk hg hu; go_simp; refine upon_enter ((kR.out _).mono ?_); rintro e w' ⟨rfl, hb⟩; exact ⟨_, rfl, left_V (p := fun u => u = .tuple #[.agg #[.int .i64 sn, .bool st, .int .i64 sa, .bool se, .int .i64 sh, .bool sc], .bool ok]) rfl (hb) rfl⟩
  rintro ⟨v1, lo1, hi1⟩ - - (rfl : v1 = _)
  refine hK _ _ ?_; clear hK K
  refine stepK rfl (by kernel_rfl) (fun K hK => ?_); go_simp
  apply Exists.intro; apply And.intro; (focus (intro wk hk; go_simp; exact ⟨rfl, rfl⟩)); refine hK _ _ ?_; clear hK K
  refine stepK rfl (by kernel_rfl) (fun K hK => ?_); go_simp
  apply Exists.intro; apply And.intro; (focus (intro wk hk; go_simp; exact ⟨rfl, rfl⟩)); refine hK _ _ ?_; clear hK K
  refine stepK rfl (by kernel_rfl) (fun K hK => ?_); go_simp
  apply Exists.intro; apply And.intro; (focus (intro wk hk; go_simp; exact ⟨rfl, rfl⟩)); refine hK _ _ ?_; clear hK K
  refine stepS _ rfl (by kernel_rfl) (fun K hK => ?_); go_simp
  refine ⟨?_, ?_⟩
  · intro wk hk hg hu; go_simp; exact left_A rfl rfl
  rintro ⟨v9, lo9, hi9⟩ hlo9 hhi9 ⟨e5, f5⟩
  replace e5 : v9 = .pointer (some ⟨lo9, 0, none⟩) := e5; replace f5 : hi9 = lo9 + 1 := f5; replace hlo9 : _ ≤ lo9 := hlo9; subst e5; subst f5
  refine hK _ _ ?_; clear hK K
  refine stepS _ rfl (by kernel_rfl) (fun K hK => ?_); go_simp
  refine ⟨?_, ?_⟩
  · exact sStoreT rfl rfl rfl rfl rfl rfl rfl (by kernel_rfl) rfl (by kernel_rfl) (by decide) aggOf_congr
  rintro ⟨v6, lo6, hi6⟩ - - (rfl : v6 = undef)
  refine hK _ _ ?_; clear hK K
  refine stepK rfl (by kernel_rfl) (fun K hK => ?_); go_simp
  apply Exists.intro; apply And.intro; (focus (intro wk hk; go_simp; exact ⟨rfl, rfl⟩)); refine hK _ _ ?_; clear hK K
  refine stepN ?_
  refine hQ _ _ ?_
  intro w3 hT hG hF
  have hb3 := hT.below
  have r9 : Row w3 lo9 118 (#[.int .i64 sn, .bool st, .int .i64 sa, .bool se, .int .i64 sh, .bool sc]) := (hF 6 _ rfl rfl (by decide)).2
  replace r1 := r1.below hb3 r1.lt
  replace r2 := r2.below hb3 r2.lt
  replace r7 := r7.below hb3 r7.lt
  replace hl := hl.trans (hb3.mono hl.size)
  clear hT hG hF hQ QQ L hb3 kR
  go_upto_region 5 with (fail)
  let L : List Sp := [sV 1 [] [] (fun u => u = .bool bg), sV 3 [] [] (fun u => u = .bool bg), sF 7 [] [] [] (fun _ => True) (fun x w => Bs w x.v lB), sV 8 [7] [7] (fun u => u = .string SB), sF 10 [] [] [] (fun _ => True) (fun x w => Bs w x.v lB), sV 11 [10] [10] (fun u => u = .string SB), sV 17 [] [] (fun u => u = .bool bs), sV 20 [] [] (fun u => u = .bool bs), sV 35 [] [] (fun u => u = .string N), sV 37 [] [] (fun u => u = .string N), sV 41 [] [] (fun u => u = .bool true)]
  refine wp_region_six7 (shs L) (look6 L) (None_) (by kernel_rfl) (by kernel_rfl) (mk_St L [] [] (by kernel_rfl) (by kernel_rfl) ⟨ok_V ⟨_, rfl⟩, ok_V ⟨_, rfl⟩, ok_F (any_some _) (fun _ _ _ h hb => Bs.below h hb), ok_V ⟨_, rfl⟩, ok_F (any_some _) (fun _ _ _ h hb => Bs.below h hb), ok_V ⟨_, rfl⟩, ok_V ⟨_, rfl⟩, ok_V ⟨_, rfl⟩, ok_V ⟨_, rfl⟩, ok_V ⟨_, rfl⟩, ok_V ⟨_, rfl⟩, trivial⟩ (by simp)) ?_
  intro QQ hQ
  refine stepK rfl (by kernel_rfl) (fun K hK => ?_); go_simp
  apply Exists.intro; apply And.intro; (focus exact kLoad rfl rfl aggT116 r1 hst id); refine hK _ _ ?_; clear hK K
  refine stepS _ rfl (by kernel_rfl) (fun K hK => ?_); go_simp
  refine ⟨?_, ?_⟩
  · intro wk hk hg hu; go_simp; refine upon_enter ((kg.out _ (hl.trans (hk.undrew.below.mono hl.size)) hL).mono ?_); rintro e w' ⟨rfl, hb⟩; exact ⟨_, rfl, left_V (p := fun u => u = .bool bg) rfl (hb) rfl⟩
  rintro ⟨v1, lo1, hi1⟩ - - (rfl : v1 = _)
  refine hK _ _ ?_; clear hK K
  refine stepK rfl (by kernel_rfl) (fun K hK => ?_); go_simp
  apply Exists.intro; apply And.intro; (focus exact kLoad rfl rfl aggT116 r1 hst id); refine hK _ _ ?_; clear hK K
  refine stepS _ rfl (by kernel_rfl) (fun K hK => ?_); go_simp
  refine ⟨?_, ?_⟩
  · intro wk hk hg hu; go_simp; refine upon_enter ((kh.out _ (hl.trans (hk.undrew.below.mono hl.size)) hL).mono ?_); rintro e w' ⟨rfl, hb⟩; exact ⟨_, rfl, left_V (p := fun u => u = .bool bg) rfl (hb) rfl⟩
  rintro ⟨v3, lo3, hi3⟩ - - (rfl : v3 = _)
  refine hK _ _ ?_; clear hK K
  refine stepK rfl (by kernel_rfl) (fun K hK => ?_); go_simp
  apply Exists.intro; apply And.intro; (focus (intro wk hk; go_simp; exact ⟨rfl, rfl⟩)); refine hK _ _ ?_; clear hK K
  refine stepK rfl (by kernel_rfl) (fun K hK => ?_); go_simp
  apply Exists.intro; apply And.intro; (focus (intro wk hk; go_simp; exact ⟨rfl, rfl⟩)); refine hK _ _ ?_; clear hK K
  refine stepK rfl (by kernel_rfl) (fun K hK => ?_); go_simp
  first | (refine hK _ _ ?_; clear hK K) | (apply Exists.intro; apply And.intro; (focus exact kLoad rfl rfl aggT116 r1 hst id); refine hK _ _ ?_; clear hK K)
  refine stepS _ rfl (by kernel_rfl) (fun K hK => ?_); go_simp
  refine ⟨?_, ?_⟩
  · intro wk hk hg hu; go_simp; refine upon_enter ((kB.out _ (hl.trans (hk.undrew.below.mono hl.size)) hL).mono ?_); rintro e w' ⟨v, rfl, hv, hb9⟩; exact ⟨_, rfl, left_F rfl rfl hb9 trivial hv.bs⟩
  rintro ⟨v7, lo7, hi7⟩ - - -
  refine hK _ _ ?_; clear hK K
  refine stepS _ rfl (by kernel_rfl) (fun K hK => ?_); go_simp
  refine ⟨?_, ?_⟩
  · intro wk hk hg hu; have u7 := hu 7 (show 7 ∈ [7] by decide); have b7 : Bs wk v7 lB := u7; have cv := Bs.convA b7; rw [hSB.out] at cv; go_simp; exact left_V (p := fun u => u = .string SB) rfl (Below.refl _ _) rfl
  rintro ⟨v8, lo8, hi8⟩ - - (rfl : v8 = _)
  refine hK _ _ ?_; clear hK K
  refine stepK rfl (by kernel_rfl) (fun K hK => ?_); go_simp
  first | (refine hK _ _ ?_; clear hK K) | (apply Exists.intro; apply And.intro; (focus exact kLoad rfl rfl aggT116 r1 hst id); refine hK _ _ ?_; clear hK K)
  refine stepS _ rfl (by kernel_rfl) (fun K hK => ?_); go_simp
  refine ⟨?_, ?_⟩
  · intro wk hk hg hu; go_simp; refine upon_enter ((kC.out _ (hl.trans (hk.undrew.below.mono hl.size)) hL).mono ?_); rintro e w' ⟨v, rfl, hv, hb9⟩; exact ⟨_, rfl, left_F rfl rfl hb9 trivial hv.bs⟩
  rintro ⟨v10, lo10, hi10⟩ - - -
  refine hK _ _ ?_; clear hK K
  refine stepS _ rfl (by kernel_rfl) (fun K hK => ?_); go_simp
  refine ⟨?_, ?_⟩
  · intro wk hk hg hu; have u10 := hu 10 (show 10 ∈ [10] by decide); have b10 : Bs wk v10 lB := u10; have cv := Bs.convA b10; rw [hSB.out] at cv; go_simp; exact left_V (p := fun u => u = .string SB) rfl (Below.refl _ _) rfl
  rintro ⟨v11, lo11, hi11⟩ - - (rfl : v11 = _)
  refine hK _ _ ?_; clear hK K
  refine stepK rfl (by kernel_rfl) (fun K hK => ?_); go_simp
  first | (refine hK _ _ ?_; clear hK K) | (apply Exists.intro; apply And.intro; (focus (intro wk hk; go_simp; exact ⟨rfl, rfl⟩)); refine hK _ _ ?_; clear hK K)
  refine stepK rfl (by kernel_rfl) (fun K hK => ?_); go_simp
  apply Exists.intro; apply And.intro; (focus (intro wk hk; go_simp; exact ⟨rfl, rfl⟩)); refine hK _ _ ?_; clear hK K
  refine stepK rfl (by kernel_rfl) (fun K hK => ?_); go_simp
  apply Exists.intro; apply And.intro; (focus (intro wk hk; go_simp; exact ⟨rfl, rfl⟩)); refine hK _ _ ?_; clear hK K
  refine stepK rfl (by kernel_rfl) (fun K hK => ?_); go_simp
  first | (refine hK _ _ ?_; clear hK K) | (apply Exists.intro; apply And.intro; (focus exact kLoad rfl rfl aggT116 r1 hst id); refine hK _ _ ?_; clear hK K)
  refine stepK rfl (by kernel_rfl) (fun K hK => ?_); go_simp
  first | (refine hK _ _ ?_; clear hK K) | (apply Exists.intro; apply And.intro; (focus exact kLoad rfl rfl aggT116 r2 hsu id); refine hK _ _ ?_; clear hK K)
  refine stepS _ rfl (by kernel_rfl) (fun K hK => ?_); go_simp
  refine ⟨?_, ?_⟩
  · intro wk hk hg hu; go_simp; refine upon_enter ((kS.out _ (hl.trans (hk.undrew.below.mono hl.size)) hL).mono ?_); rintro e w' ⟨rfl, hb⟩; exact ⟨_, rfl, left_V (p := fun u => u = .bool bs) rfl (hb) rfl⟩
  rintro ⟨v17, lo17, hi17⟩ - - (rfl : v17 = _)
  refine hK _ _ ?_; clear hK K
  refine stepK rfl (by kernel_rfl) (fun K hK => ?_); go_simp
  first | (refine hK _ _ ?_; clear hK K) | (apply Exists.intro; apply And.intro; (focus exact kLoad rfl rfl aggT116 r1 hst id); refine hK _ _ ?_; clear hK K)
  refine stepK rfl (by kernel_rfl) (fun K hK => ?_); go_simp
  first | (refine hK _ _ ?_; clear hK K) | (apply Exists.intro; apply And.intro; (focus exact kLoad rfl rfl aggT116 r2 hsu id); refine hK _ _ ?_; clear hK K)
  refine stepS _ rfl (by kernel_rfl) (fun K hK => ?_); go_simp
  refine ⟨?_, ?_⟩
  · intro wk hk hg hu; go_simp; refine upon_enter ((kT.out _ (hl.trans (hk.undrew.below.mono hl.size)) hL).mono ?_); rintro e w' ⟨rfl, hb⟩; exact ⟨_, rfl, left_V (p := fun u => u = .bool bs) rfl (hb) rfl⟩
  rintro ⟨v20, lo20, hi20⟩ - - (rfl : v20 = _)
  refine hK _ _ ?_; clear hK K
  refine stepK rfl (by kernel_rfl) (fun K hK => ?_); go_simp
  first | (refine hK _ _ ?_; clear hK K) | (apply Exists.intro; apply And.intro; (focus (intro wk hk; go_simp; exact ⟨rfl, rfl⟩)); refine hK _ _ ?_; clear hK K)
  refine stepK rfl (by kernel_rfl) (fun K hK => ?_); go_simp
  apply Exists.intro; apply And.intro; (focus (intro wk hk; go_simp; exact ⟨rfl, rfl⟩)); refine hK _ _ ?_; clear hK K
  refine stepK rfl (by kernel_rfl) (fun K hK => ?_); go_simp
  apply Exists.intro; apply And.intro; (focus (intro wk hk; go_simp; exact ⟨rfl, rfl⟩)); refine hK _ _ ?_; clear hK K
  refine stepK rfl (by kernel_rfl) (fun K hK => ?_); go_simp
  first | (refine hK _ _ ?_; clear hK K) | (apply Exists.intro; apply And.intro; (focus exact kLoad rfl rfl aggT107 r7 rfl id); refine hK _ _ ?_; clear hK K)
  refine stepK rfl (by kernel_rfl) (fun K hK => ?_); go_simp
  first | (refine hK _ _ ?_; clear hK K) | (apply Exists.intro; apply And.intro; (focus exact kLoad rfl rfl aggT118 r9 rfl id); refine hK _ _ ?_; clear hK K)
  refine stepK rfl (by kernel_rfl) (fun K hK => ?_); go_simp
  first | (refine hK _ _ ?_; clear hK K) | (apply Exists.intro; apply And.intro; (focus (intro wk hk; go_simp; exact ⟨rfl, rfl⟩)); refine hK _ _ ?_; clear hK K)
  refine stepK rfl (by kernel_rfl) (fun K hK => ?_); go_simp
  apply Exists.intro; apply And.intro; (focus (intro wk hk; go_simp; exact ⟨rfl, rfl⟩)); refine hK _ _ ?_; clear hK K
  refine stepK rfl (by kernel_rfl) (fun K hK => ?_); go_simp
  apply Exists.intro; apply And.intro; (focus (intro wk hk; go_simp; exact ⟨rfl, rfl⟩)); refine hK _ _ ?_; clear hK K
  refine stepK rfl (by kernel_rfl) (fun K hK => ?_); go_simp
  first | (refine hK _ _ ?_; clear hK K) | (apply Exists.intro; apply And.intro; (focus (intro wk hk; go_simp; exact ⟨rfl, rfl⟩)); refine hK _ _ ?_; clear hK K)
  refine stepK rfl (by kernel_rfl) (fun K hK => ?_); go_simp
  first | (refine hK _ _ ?_; clear hK K) | (apply Exists.intro; apply And.intro; (focus (intro wk hk; go_simp; exact ⟨rfl, rfl⟩)); refine hK _ _ ?_; clear hK K)
  refine stepK rfl (by kernel_rfl) (fun K hK => ?_); go_simp
  first | (refine hK _ _ ?_; clear hK K) | (apply Exists.intro; apply And.intro; (focus (intro wk hk; go_simp; exact ⟨rfl, rfl⟩)); refine hK _ _ ?_; clear hK K)
  refine stepK rfl (by kernel_rfl) (fun K hK => ?_); go_simp
  apply Exists.intro; apply And.intro; (focus (intro wk hk; go_simp; exact ⟨rfl, rfl⟩)); refine hK _ _ ?_; clear hK K
  refine stepK rfl (by kernel_rfl) (fun K hK => ?_); go_simp
  apply Exists.intro; apply And.intro; (focus (intro wk hk; go_simp; exact ⟨rfl, rfl⟩)); refine hK _ _ ?_; clear hK K
  refine stepK rfl (by kernel_rfl) (fun K hK => ?_); go_simp
  first | (refine hK _ _ ?_; clear hK K) | (apply Exists.intro; apply And.intro; (focus (intro wk hk; go_simp; exact ⟨rfl, rfl⟩)); refine hK _ _ ?_; clear hK K)
  refine stepS _ rfl (by kernel_rfl) (fun K hK => ?_); go_simp
  refine ⟨?_, ?_⟩
  · intro wk hk hg hu; go_simp; refine upon_enter ((kN.out _).mono ?_); rintro e w' ⟨rfl, hb⟩; exact ⟨_, rfl, left_V (p := fun u => u = .string N) rfl (hb) rfl⟩
  rintro ⟨v35, lo35, hi35⟩ - - (rfl : v35 = _)
  refine hK _ _ ?_; clear hK K
  refine stepK rfl (by kernel_rfl) (fun K hK => ?_); go_simp
  first | (refine hK _ _ ?_; clear hK K) | (apply Exists.intro; apply And.intro; (focus (intro wk hk; go_simp; exact ⟨rfl, rfl⟩)); refine hK _ _ ?_; clear hK K)
  refine stepS _ rfl (by kernel_rfl) (fun K hK => ?_); go_simp
  refine ⟨?_, ?_⟩
  · intro wk hk hg hu; go_simp; refine upon_enter ((kM.out _).mono ?_); rintro e w' ⟨rfl, hb⟩; exact ⟨_, rfl, left_V (p := fun u => u = .string N) rfl (hb) rfl⟩
  rintro ⟨v37, lo37, hi37⟩ - - (rfl : v37 = _)
  refine hK _ _ ?_; clear hK K
  refine stepK rfl (by kernel_rfl) (fun K hK => ?_); go_simp
  first | (refine hK _ _ ?_; clear hK K) | (apply Exists.intro; apply And.intro; (focus (intro wk hk; go_simp; exact ⟨rfl, rfl⟩)); refine hK _ _ ?_; clear hK K)
  refine stepK rfl (by kernel_rfl) (fun K hK => ?_); go_simp
  apply Exists.intro; apply And.intro; (focus (intro wk hk; go_simp; exact ⟨rfl, rfl⟩)); refine hK _ _ ?_; clear hK K
  refine stepK rfl (by kernel_rfl) (fun K hK => ?_); go_simp
  apply Exists.intro; apply And.intro; (focus (intro wk hk; go_simp; exact ⟨rfl, rfl⟩)); refine hK _ _ ?_; clear hK K
  refine stepS _ rfl (by kernel_rfl) (fun K hK => ?_); go_simp
  refine ⟨?_, ?_⟩
  · intro wk hk hg hu; go_simp; refine upon_enter ((lv.out _).mono ?_); rintro e w' ⟨rfl, hb⟩; exact ⟨_, rfl, left_V (p := fun u => u = .bool true) rfl (hb) rfl⟩
  rintro ⟨v41, lo41, hi41⟩ - - (rfl : v41 = _)
  refine hK _ _ ?_; clear hK K
  refine stepK rfl (by kernel_rfl) (fun K hK => ?_); go_simp
  apply Exists.intro; apply And.intro; (focus (intro wk hk; go_simp; exact ⟨rfl, rfl⟩)); refine hK _ _ ?_; clear hK K
  refine stepK rfl (by kernel_rfl) (fun K hK => ?_); go_simp
  apply Exists.intro; apply And.intro; (focus (intro wk hk; go_simp; exact ⟨rfl, rfl⟩)); refine hK _ _ ?_; clear hK K
  refine stepN ?_
  refine hQ _ _ ?_
  intro w9 hT hG hF
  have H9 := Lib.hid (hl.trans (hT.undrew.below.mono hl.size))
  clear hT hG hF hQ QQ L hl r1 r2 r7 r9 kg kh kB kC kS kT kN kM
  go_wp2_with fail
  go_ret
  exact ⟨by first | rfl | (simp; done), H9.out⟩
end Go.Proofs.Ytpdenhmkpiafiaa
