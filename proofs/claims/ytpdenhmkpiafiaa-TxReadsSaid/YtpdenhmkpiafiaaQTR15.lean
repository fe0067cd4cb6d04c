/-
 What the statement rests on, part 16: TxBytes TxLives TxReadsW.
-/
import Derived.Test.YtpdenhmkpiafiaaQTR6
import Derived.Test.YtpdenhmkpiafiaaQTR8
import Derived.Test.YtpdenhmkpiafiaaQTR12
import Derived.Test.YtpdenhmkpiafiaaQTR13
import Derived.Test.YtpdenhmkpiafiaaQTR14
namespace Go.Proofs.Ytpdenhmkpiafiaa
open Go Go.RowKit K6
theorem own_sl_ {w : World} {base te z n : Nat} {v : Value} {zs : List Value} (h : w.ownsRow base te z v n zs) : ∃ q c, v = .slice q n c := by
 rcases h.2 with ⟨rfl, h0⟩ | ⟨g, cap, cur, rfl, -⟩
 ·exact ⟨none, 0, by rw [h0]⟩
 ·exact ⟨_, _, rfl⟩
theorem I64_D {l : List Int} (h : ∀ x ∈ l, I64 x) (i : Nat) : I64 (l.getD i 0) := by
 rw [List.getD_eq_getElem?_getD]
 cases hx : l[i]? with
 | none => exact ⟨by decide, by decide⟩
 | some x => exact h x (List.mem_of_getElem? hx)
theorem nst_le {s : Shp} {l : List Int} (h : ∀ x ∈ l, I64 x) (h0 : 0 ≤ s.n) (hl : l.length ≤ 1000) (i : Nat) : (nst s l i).length ≤ 18 := by
 unfold nst
 rw [List.length_append]
 have h1 := enc_le9 (I64_D h i)
 split
 ·have h2 := enc_len9 (m := ((l.length : Int) - s.n).toNat) (by omega)
  omega
 ·show 0 + _ ≤ 18
  omega
theorem numB_le {s : Shp} {l : List Int} (h : ∀ x ∈ l, I64 x) (h0 : 0 ≤ s.n) (hl : l.length ≤ 1000) (i : Nat) : (numB s l i).length ≤ 18 * i := by
 unfold numB
 have h1 := flat_le (f := nst s l) (c := 18) (l := List.range i) fun x _ => nst_le h h0 hl x
 rw [List.length_range] at h1
 exact h1
theorem nst_yes {s : Shp} {l : List Int} {i : Nat} {x T : Int} (ht : s.t = true) (hi : (i : Int) = s.n) (hx : l.getD i 0 = x) (hT : (l.length : Int) - s.n = T) : nst s l i = enc T.toNat ++ enc x.toNat := by
 unfold nst
 rw [if_pos ⟨ht, hi⟩, hx, hT]
theorem nst_no {s : Shp} {l : List Int} {i : Nat} {x : Int} (h : ¬ (s.t = true ∧ (i : Int) = s.n)) (hx : l.getD i 0 = x) : nst s l i = enc x.toNat := by
 unfold nst
 rw [if_neg h, hx, List.nil_append]
set_option maxRecDepth 100000 in
set_option maxHeartbeats 64000000 in
theorem txbytes_at (t : Txv) (w : World) (ht : TxOk w t) (hl : LightT t) :
  Calls Try.prog 138 #[.agg t.cs.toArray] w fun e w' => ∃ x, e = .returned x ∧ Ob w' w.heap.size x (bytK t.key) ∧ Below w.heap.size w w' := by
 have kg := fun wx (hb : Below w.heap.size w wx) => good_at t wx (ht.below hb) hl
 have hsz : t.cs.toArray.size = 43 := by rw [List.size_toArray]; exact Txv.len ht.c.tok
 by_cases hg : goodK t.key = true
 case neg =>
  have hg' : goodK t.key = false := by simpa using hg
  rw [hg'] at kg
  have e0 : bytK t.key = [] := if_neg hg
  rw [e0]
  obtain ⟨ct, hct⟩ : ∃ c, t.cs.toArray = c := ⟨_, rfl⟩
  rw [hct] at kg hsz ⊢
  replace kg := Lib.hid kg
  clear hg hg' e0 hct ht hl
  go_enter Try.func138, Try.ntmps138
  go_upto_region 1 with (fail)
  refine wp_abs (Mem w [(w.heap.size, 116, ct)]) ⟨by go_grown, by (repeat (first | (refine Row.new_at ?_; simp; done) | refine Row.alloc ?_ _)), trivial⟩ ?_
  intro w0 hM
  obtain ⟨hl, r1, -⟩ := hM
  let L : List Sp := [sV 1 [] [] (fun u => u = .bool false)]
  refine wp_region_six0 (shs L) (look6 L) (None_) (by kernel_rfl) (by kernel_rfl) (mk_St L [] [] (by kernel_rfl) (by kernel_rfl) ⟨ok_V ⟨_, rfl⟩, trivial⟩ (by simp)) ?_
  intro QQ hQ
  refine stepK rfl (by kernel_rfl) (fun K hK => ?_); go_simp
  apply Exists.intro; apply And.intro; (focus exact kLoad rfl rfl aggT116 r1 hsz id); refine hK _ _ ?_; clear hK K
  refine stepS _ rfl (by kernel_rfl) (fun K hK => ?_); go_simp
  refine ⟨?_, ?_⟩
  ·intro wk hk hg hu; go_simp; refine upon_enter ((kg.out _ (hl.trans (hk.below.mono hl.size))).mono ?_); rintro e w' ⟨rfl, hb⟩; exact ⟨_, rfl, left_V (p := fun u => u = .bool false) rfl (hb) rfl⟩
  rintro ⟨v1, lo1, hi1⟩ - - (rfl : v1 = _)
  refine hK _ _ ?_; clear hK K
  refine stepK rfl (by kernel_rfl) (fun K hK => ?_); go_simp
  apply Exists.intro; apply And.intro; (focus (intro wk hk; go_simp; exact ⟨rfl, rfl⟩)); refine hK _ _ ?_; clear hK K
  refine stepN ?_
  refine hQ _ _ ?_
  intro w1 hT hG hF
  have H9 := Lib.hid (hl.trans (hT.below.mono hl.size))
  clear hT hG hF hQ QQ L hl r1 kg
  go_wp2_with fail
  go_ret
  exact ⟨_, rfl, Ob.nil _ _, H9.out⟩
 rw [hg] at kg
 have hsn := shp_n t.k
 have kO := fun wx => txof_any t.k wx
 unfold OfP at kO
 obtain ⟨P0, hP0⟩ : ∃ P, enc t.k.toNat ++ enc t.f.toNat = P := ⟨_, rfl⟩
 obtain ⟨P1, hP1⟩ : ∃ P, P0 ++ numB (shpOf t.k) t.n t.n.length = P := ⟨_, rfl⟩
 obtain ⟨P2, hP2⟩ : ∃ P, P1 ++ t.a.flatMap amtL = P := ⟨_, rfl⟩
 obtain ⟨P3, hP3⟩ : ∃ P, P2 ++ t.h.flatMap (fun y : List Int => y) = P := ⟨_, rfl⟩
 obtain ⟨P4, hP4⟩ : ∃ P, P3 ++ clKB t.c.key = P := ⟨_, rfl⟩
 have hbyt : bytK t.key = (if (shpOf t.k).c = true then (if P4.length ≤ 4096 then P4 else []) else (if P3.length ≤ 4096 then P3 else [])) := by
  unfold bytK
  rw [if_pos hg]
  have e : putK t.key = P3 ++ (if (shpOf t.k).c = true then clKB t.c.key else []) := by
   unfold putK Txv.key
   simp only
   rw [← hP3, ← hP2, ← hP1, ← hP0]
   simp only [List.append_assoc]
  rw [e]
  cases (shpOf t.k).c
  ·simp
  ·simp [hP4]
 have l0 : P0.length ≤ 18 := by rw [← hP0, List.length_append]; have := enc_le9 ht.k; have := enc_le9 ht.f; omega
 have l1 : P1.length ≤ 1000 := by rw [← hP1, List.length_append]; have := numB_le ht.nb hsn.1 (by have := hl.n; omega) t.n.length; have := hl.n; omega
 have l2 : P2.length ≤ 3000 := by rw [← hP2, List.length_append]; have := flat_le (f := amtL) (c := 33) (l := t.a) (fun y _ => amtL_le y); have := hl.a; omega
 have l3 : P3.length ≤ 5000 := by rw [← hP3, List.length_append]; have := flat_le (f := fun y : List Int => y) (c := 32) (l := t.h) (fun y hy => Nat.le_of_eq (ht.hb y hy).1); have := hl.h; omega
 have kv0 := fun wx => var_any (.slice none 0 0) [] t.k wx (Bs.nil wx) (by decide) ht.k.2
 have kv1 := fun wx vx (h : Bs wx vx (enc t.k.toNat)) => var_any vx (enc t.k.toNat) t.f wx h (by have := enc_le9 ht.k; omega) ht.f.2
 rw [List.nil_append] at kv0
 rw [hP0] at kv1
 obtain ⟨Pk, hPk⟩ : ∃ P, enc t.k.toNat = P := ⟨_, rfl⟩
 rw [hPk] at kv0 kv1
 have kC := fun wx vx (hb : Below w.heap.size w wx) (h : Bs wx vx P3) => putClaim_at vx P3 t.c wx h (by omega) (ht.c.below hb) hl.p hl.l hl.q
 rw [hP4] at kC
 have x0 := tA0 t
 have x1 := tA1 t
 have x2 := tA2 t
 have x3 := tA3 t
 have x4 := tA4 t
 have hcsz : t.c.cs.toArray.size = 38 := by rw [List.size_toArray]; exact Cm.len ht.c.tok
 have hmid := Txv.c_ t
 have HN := ht.n
 have HA := ht.a
 have HH := ht.h
 unfold Txv.nv at HN
 unfold Txv.av at HA
 unfold Txv.hv at HH
 have hnb := ht.nb
 have hab := ht.ab
 have hhb : ∀ x ∈ t.h, x.length = 32 := fun x hx => (ht.hb x hx).1
 obtain ⟨m, hm⟩ : ∃ m, t.n.length = m := ⟨_, rfl⟩
 obtain ⟨nA, hnA⟩ : ∃ m, t.a.length = m := ⟨_, rfl⟩
 obtain ⟨nH, hnH⟩ : ∃ m, t.h.length = m := ⟨_, rfl⟩
 obtain ⟨nq, hnq⟩ : ∃ q, t.nq = q := ⟨_, rfl⟩
 obtain ⟨nc, hnc⟩ : ∃ q, t.nc = q := ⟨_, rfl⟩
 obtain ⟨aq, haq⟩ : ∃ q, t.aq = q := ⟨_, rfl⟩
 obtain ⟨ac, hac⟩ : ∃ q, t.ac = q := ⟨_, rfl⟩
 obtain ⟨hq, hhq⟩ : ∃ q, t.hq = q := ⟨_, rfl⟩
 obtain ⟨hc, hhc⟩ : ∃ q, t.hc = q := ⟨_, rfl⟩
 have hm50 : m ≤ 50 := by have := hl.n; omega
 have hA50 : nA ≤ 50 := by have := hl.a; omega
 have hH50 : nH ≤ 50 := by have := hl.h; omega
 rw [hm, hnq, hnc] at x2 HN
 rw [hnA, haq, hac] at x3 HA
 rw [hnH, hhq, hhc] at x4 HH
 rw [hm] at hP1
 obtain ⟨S, hS⟩ : ∃ S, shpOf t.k = S := ⟨_, rfl⟩
 rw [hS] at kO hbyt hsn hP1
 unfold Shp.cs at kO
 obtain ⟨sn, hSn⟩ : ∃ x, S.n = x := ⟨_, rfl⟩
 obtain ⟨st, hSt⟩ : ∃ x, S.t = x := ⟨_, rfl⟩
 obtain ⟨sa, hSa⟩ : ∃ x, S.a = x := ⟨_, rfl⟩
 obtain ⟨se, hSe⟩ : ∃ x, S.e = x := ⟨_, rfl⟩
 obtain ⟨sh, hSh⟩ : ∃ x, S.h = x := ⟨_, rfl⟩
 obtain ⟨sc, hSc⟩ : ∃ x, S.c = x := ⟨_, rfl⟩
 obtain ⟨ok, hok⟩ : ∃ x, okK t.k = x := ⟨_, rfl⟩
 rw [hSn, hSt, hSa, hSe, hSh, hSc, hok] at kO
 rw [hSc] at hbyt
 rw [hSn] at hsn
 obtain ⟨ct, hct⟩ : ∃ c, t.cs.toArray = c := ⟨_, rfl⟩
 obtain ⟨cc5, hcc⟩ : ∃ c, t.c.cs.toArray = c := ⟨_, rfl⟩
 rw [hct] at x0 x1 x2 x3 x4 hsz hmid kg ⊢
 rw [hcc] at hcsz hmid kC
 obtain ⟨tk, htk⟩ : ∃ k, t.k = k := ⟨_, rfl⟩
 obtain ⟨tf, htf⟩ : ∃ k, t.f = k := ⟨_, rfl⟩
 rw [htk] at x0 kO kv0
 rw [htf] at x1 kv1
 obtain ⟨ln, hln⟩ : ∃ l, t.n = l := ⟨_, rfl⟩
 obtain ⟨la, hla⟩ : ∃ l, t.a = l := ⟨_, rfl⟩
 obtain ⟨lh, hlh⟩ : ∃ l, t.h = l := ⟨_, rfl⟩
 rw [hln] at HN hm hP1 hnb
 rw [hla] at HA hnA hP2 hab
 rw [hlh] at HH hnH hP3 hhb
 obtain ⟨BY, hBY⟩ : ∃ l, bytK t.key = l := ⟨_, rfl⟩
 rw [hBY] at hbyt ⊢
 have HBY := Lib.hid hbyt
 have HC1 := Lib.hid (show _ ∧ _ ∧ _ ∧ _ from ⟨HN, hm, hnb, hsn⟩)
 have HC2 := Lib.hid (show _ ∧ _ from ⟨HA, hab⟩)
 have HC3 := Lib.hid (show _ ∧ _ from ⟨HH, hhb⟩)
 have HM2 := Lib.hid hnA
 have HM3 := Lib.hid hnH
 have hPl1 := Lib.hid l0
 have hPl2 := Lib.hid (show P1.length ≤ 2000000 by omega)
 have hPl3 := Lib.hid (show P2.length ≤ 2000000 by omega)
 have hPl4 := Lib.hid l3
 have HP1 := Lib.hid hP1
 have HP2 := Lib.hid hP2
 have HP3 := Lib.hid hP3
 have HS := Lib.hid (show _ ∧ _ from ⟨hSn, hSt⟩)
 replace kg := Lib.hid kg
 replace kO := Lib.hid kO
 replace kv0 := Lib.hid kv0
 replace kv1 := Lib.hid kv1
 replace kC := Lib.hid kC
 have hmi : (m : Int) ≤ 50 := by omega
 have hAi : (nA : Int) ≤ 50 := by omega
 have hHi : (nH : Int) ≤ 50 := by omega
 clear hg hbyt l0 l1 l2 l3 hP0 hP1 hP2 hP3 hPk hm hnA hnH hnq hnc haq hac hhq hhc hS hSn hSt hSa hSe hSh hSc hok hct hcc htk htf hln hla hlh hBY HN HA HH hnb hab hhb hm50 hA50 hH50 hsn ht hl hP4
 go_enter Try.func138, Try.ntmps138
 go_upto_region 1 with (fail)
 refine wp_abs (Mem w [(w.heap.size, 116, ct)]) ⟨by go_grown, by (repeat (first | (refine Row.new_at ?_; simp; done) | refine Row.alloc ?_ _)), trivial⟩ ?_
 intro w0 hM
 obtain ⟨hl, r1, -⟩ := hM
 let L : List Sp := [sV 1 [] [] (fun u => u = .bool true)]
 refine wp_region_six0 (shs L) (look6 L) (None_) (by kernel_rfl) (by kernel_rfl) (mk_St L [] [] (by kernel_rfl) (by kernel_rfl) ⟨ok_V ⟨_, rfl⟩, trivial⟩ (by simp)) ?_
 intro QQ hQ
 refine stepK rfl (by kernel_rfl) (fun K hK => ?_); go_simp
 apply Exists.intro; apply And.intro; (focus exact kLoad rfl rfl aggT116 r1 hsz id); refine hK _ _ ?_; clear hK K
 refine stepS _ rfl (by kernel_rfl) (fun K hK => ?_); go_simp
 refine ⟨?_, ?_⟩
 ·intro wk hk hg hu; go_simp; refine upon_enter ((kg.out _ (hl.trans (hk.below.mono hl.size))).mono ?_); rintro e w' ⟨rfl, hb⟩; exact ⟨_, rfl, left_V (p := fun u => u = .bool true) rfl (hb) rfl⟩
 rintro ⟨v1, lo1, hi1⟩ - - (rfl : v1 = _)
 refine hK _ _ ?_; clear hK K
 refine stepK rfl (by kernel_rfl) (fun K hK => ?_); go_simp
 apply Exists.intro; apply And.intro; (focus (intro wk hk; go_simp; exact ⟨rfl, rfl⟩)); refine hK _ _ ?_; clear hK K
 refine stepN ?_
 refine hQ _ _ ?_
 intro w1 hT hG hF
 have hb1 := hT.below
 replace r1 := r1.below hb1 r1.lt
 replace hl := hl.trans (hb1.mono hl.size)
 clear hT hG hF hQ QQ L hb1 kg hsz
 go_upto_region 3 with (fail)
 let L : List Sp := [sV 2 [] [] (fun u => u = .tuple #[.agg #[.int .i64 sn, .bool st, .int .i64 sa, .bool se, .int .i64 sh, .bool sc], .bool ok]), sA 6 107 [7] #[.int .i64 0, .bool false, .int .i64 0, .bool false, .int .i64 0, .bool false], sT 7 6 107 [4] (fun g => aggOf g 4)]
 refine wp_region_six0 (shs L) (look6 L) (None_) (by kernel_rfl) (by kernel_rfl) (mk_St L [] [] (by kernel_rfl) (by kernel_rfl) ⟨ok_V ⟨_, rfl⟩, ok_A, ok_T aggOf_congr, trivial⟩ (by simp)) ?_
 intro QQ hQ
 refine stepK rfl (by kernel_rfl) (fun K hK => ?_); go_simp
 apply Exists.intro; apply And.intro; (focus (intro wk hk; go_simp; exact ⟨rfl, rfl⟩)); refine hK _ _ ?_; clear hK K
 refine stepK rfl (by kernel_rfl) (fun K hK => ?_); go_simp
 apply Exists.intro; apply And.intro; (focus (intro wk hk; have cc : wk.cell? ⟨w.heap.size, 0, none⟩ = some (.int .i64 tk) := ((K6.Row.tr r1 hk id).cell 0).trans x0; go_simp; exact ⟨rfl, rfl⟩)); refine hK _ _ ?_; clear hK K
 refine stepS _ rfl (by kernel_rfl) (fun K hK => ?_); go_simp
 refine ⟨?_, ?_⟩
 ·intro wk hk hg hu; go_simp; refine upon_enter ((kO.out _).mono ?_); rintro e w' ⟨rfl, hb⟩; exact ⟨_, rfl, left_V (p := fun u => u = .tuple #[.agg #[.int .i64 sn, .bool st, .int .i64 sa, .bool se, .int .i64 sh, .bool sc], .bool ok]) rfl (hb) rfl⟩
 rintro ⟨v2, lo2, hi2⟩ - - (rfl : v2 = _)
 refine hK _ _ ?_; clear hK K
 iterate 3 (refine stepK rfl (by kernel_rfl) (fun K hK => ?_); go_simp; apply Exists.intro; apply And.intro; (focus (intro wk hk; go_simp; exact ⟨rfl, rfl⟩)); refine hK _ _ ?_; clear hK K)
 refine stepS _ rfl (by kernel_rfl) (fun K hK => ?_); go_simp
 refine ⟨?_, ?_⟩
 ·intro wk hk hg hu; go_simp; exact left_A rfl rfl
 rintro ⟨v6, lo6, hi6⟩ hlo6 hhi6 ⟨e6, f6⟩
 replace e6 : v6 = .pointer (some ⟨lo6, 0, none⟩) := e6; replace f6 : hi6 = lo6 + 1 := f6; replace hlo6 : _ ≤ lo6 := hlo6; subst e6; subst f6
 refine hK _ _ ?_; clear hK K
 refine stepS _ rfl (by kernel_rfl) (fun K hK => ?_); go_simp
 refine ⟨?_, ?_⟩
 ·exact sStoreT rfl rfl rfl rfl rfl rfl rfl (by kernel_rfl) rfl (by kernel_rfl) (by decide) aggOf_congr
 rintro ⟨v7, lo7, hi7⟩ - - (rfl : v7 = undef)
 refine hK _ _ ?_; clear hK K
 refine stepK rfl (by kernel_rfl) (fun K hK => ?_); go_simp
 apply Exists.intro; apply And.intro; (focus (intro wk hk; go_simp; exact ⟨rfl, rfl⟩)); refine hK _ _ ?_; clear hK K
 refine stepN ?_
 refine hQ _ _ ?_
 intro w3 hT hG hF
 have hb3 := hT.below
 have r3 : Row w3 lo6 107 (#[.int .i64 sn, .bool st, .int .i64 sa, .bool se, .int .i64 sh, .bool sc]) := (hF 7 _ rfl rfl (by decide)).2
 replace r1 := r1.below hb3 r1.lt
 replace hl := hl.trans (hb3.mono hl.size)
 have hB3 : w.heap.size ≤ w3.heap.size := hl.size
 clear hT hG hF hQ QQ L hb3 kO hhi6 hlo6
 go_upto_region 4 with (fail)
 let L : List Sp := [sF 2 [] [] [] (fun _ => True) (fun x wq => Ob wq w.heap.size x.v Pk), sF 5 [2] [2] [] (fun _ => True) (fun x wq => Ob wq w.heap.size x.v P0)]
 refine wp_region_six (shs L) (look6 L) (None_) (by kernel_rfl) (by kernel_rfl) (mk_St L [] [] (by kernel_rfl) (by kernel_rfl) ⟨ok_F (any_some _) (fun _ _ _ h hb => Ob.below h hb), ok_F (any_some _) (fun _ _ _ h hb => Ob.below h hb), trivial⟩ (by simp)) ?_
 intro QQ hQ
 refine stepK rfl (by kernel_rfl) (fun K hK => ?_); go_simp
 apply Exists.intro; apply And.intro; (focus (intro wk hk; go_simp; exact ⟨rfl, rfl⟩)); refine hK _ _ ?_; clear hK K
 refine stepK rfl (by kernel_rfl) (fun K hK => ?_); go_simp
 apply Exists.intro; apply And.intro; (focus (intro wk hk; have cc : wk.cell? ⟨w.heap.size, 0, none⟩ = some (.int .i64 tk) := ((K6.Row.tr r1 hk.undrew id).cell 0).trans x0; go_simp; exact ⟨rfl, rfl⟩)); refine hK _ _ ?_; clear hK K
 refine stepS _ rfl (by kernel_rfl) (fun K hK => ?_); go_simp
 refine ⟨?_, ?_⟩
 ·intro wk hk hg hu; go_simp; refine upon_enter ((kv0.out _).mono ?_); rintro e w' ⟨v, rfl, hv, hb9⟩; exact ⟨_, rfl, left_F rfl rfl hb9 trivial (hv.base (by have := hk.undrew.size; omega))⟩
 rintro ⟨v2_, lo2_, hi2_⟩ - - -
 refine hK _ _ ?_; clear hK K
 refine stepK rfl (by kernel_rfl) (fun K hK => ?_); go_simp
 apply Exists.intro; apply And.intro; (focus (intro wk hk; go_simp; exact ⟨rfl, rfl⟩)); refine hK _ _ ?_; clear hK K
 refine stepK rfl (by kernel_rfl) (fun K hK => ?_); go_simp
 apply Exists.intro; apply And.intro; (focus (intro wk hk; have cc : wk.cell? ⟨w.heap.size, 1, none⟩ = some (.int .i64 tf) := ((K6.Row.tr r1 hk.undrew id).cell 1).trans x1; go_simp; exact ⟨rfl, rfl⟩)); refine hK _ _ ?_; clear hK K
 refine stepS _ rfl (by kernel_rfl) (fun K hK => ?_); go_simp
 refine ⟨?_, ?_⟩
 ·intro wk hk hg hu; have u2 := hu 2 (show 2 ∈ [2] by decide); go_simp; refine upon_enter ((kv1.out _ v2_ (show Ob wk w.heap.size v2_ Pk from u2).bs).mono ?_); rintro e w' ⟨v, rfl, hv, hb9⟩; exact ⟨_, rfl, left_F rfl rfl hb9 trivial (hv.base (by have := hk.undrew.size; omega))⟩
 rintro ⟨v5, lo5, hi5⟩ - - -
 refine hK _ _ ?_; clear hK K
 refine stepK rfl (by kernel_rfl) (fun K hK => ?_); go_simp
 apply Exists.intro; apply And.intro; (focus (intro wk hk; go_simp; exact ⟨rfl, rfl⟩)); refine hK _ _ ?_; clear hK K
 refine stepN ?_
 refine hQ _ _ ?_
 intro w2 hT hG hF
 have hb2 := hT.undrew.below
 have o5 : Ob w2 w.heap.size v5 P0 := hF 5 _ rfl rfl (by decide)
 have H1 := Lib.hid (show Ob w2 w.heap.size v5 P0 ∧ Below w2.heap.size w2 w2 from ⟨o5, Below.refl _ _⟩)
 have r1 := r1.below hb2 r1.lt
 have r3 := r3.below hb2 r3.lt
 have hl2 := hl.trans (hb2.mono hl.size)
 have HC1 := Lib.hid (show Is w2 _ _ ∧ _ from ⟨HC1.out.1.below hl2, HC1.out.2⟩)
 have HC2 := Lib.hid (show Us w2 _ _ ∧ _ from ⟨HC2.out.1.below hl2, HC2.out.2⟩)
 have HC3 := Lib.hid (show Hs w2 _ _ ∧ _ from ⟨HC3.out.1.below hl2, HC3.out.2⟩)
 have hBw : w.heap.size ≤ w2.heap.size := hl2.size
 have HR := Lib.hid (show Row w2 w.heap.size 116 ct ∧ Row w2 lo6 107 (#[.int .i64 sn, .bool st, .int .i64 sa, .bool se, .int .i64 sh, .bool sc]) ∧ Below w.heap.size w w2 from ⟨r1, r3, hl2⟩)
 have d2 := (r1.cell 2).trans x2
 clear hT hG hF hQ QQ L hb2 hl hl2 o5 r1 r3 kv0 kv1 hB3
 go_wp2_with fail
 go_loopg [5, 6, 7, 30] m (fun gg s5 s6 s7 s30 wr => ∃ i : Nat, i + gg = m ∧ s30 = .int .i64 (i : Int) ∧ Hid (Ob wr w.heap.size s5 (P0 ++ numB S ln i)) ∧ Hid (Below w2.heap.size w2 wr))
 case atStart => exact ⟨0, by omega, rfl, Lib.hid (by show Ob w2 w.heap.size _ (P0 ++ []); rw [List.append_nil]; exact H1.out.1), Lib.hid H1.out.2⟩
 case round =>
  clear H1 d2
  obtain ⟨i, him, rfl, hob, hinv⟩ := hrel
  by_cases hi : i < m
  ·obtain ⟨x, hx⟩ : ∃ x, ln[i]? = some x := ⟨_, List.getElem?_eq_getElem (by have := HC1.out.2.1; omega)⟩
   obtain ⟨gx, ox, cx', hu, hgx, hcx⟩ := (HC1.out.1.below hinv.out).get hx
   simp only [Value.slice.injEq] at hu
   obtain ⟨rfl, -, -⟩ := hu
   have cx0 : wr.cell? ⟨gx, ox + i, none⟩ = some (.int .i64 x) := by have h := hcx 0 _ rfl; simpa using h
   have hxI := HC1.out.2.2.1 x (List.mem_of_getElem? hx)
   have hxD := get_D hx
   have hst := numB_step S ln i P0
   obtain ⟨Y0, hY0⟩ : ∃ Z, P0 ++ numB S ln i = Z := ⟨_, rfl⟩
   obtain ⟨Z1, hZ1⟩ : ∃ Z, P0 ++ numB S ln (i + 1) = Z := ⟨_, rfl⟩
   have hy0 : Y0.length ≤ 2000 := by
    rw [← hY0, List.length_append]
    have h1 := numB_le (s := S) HC1.out.2.2.1 (by rw [HS.out.1]; exact HC1.out.2.2.2.1) (by have := HC1.out.2.1; omega) i
    have h2 := hPl1.out
    omega
   rw [hY0] at hob hst
   rw [hZ1] at hst
   have r1 := HR.out.1.below hinv.out HR.out.1.lt
   have r3 := HR.out.2.1.below hinv.out HR.out.2.1.lt
   have e1 := r3.cell 1
   have d2 := (r1.cell 2).trans x2
   have e0 := r3.cell 0
   have hlt : (i : Int) < (m : Int) := by omega
   have hBr : w.heap.size ≤ wr.heap.size := by have := hinv.out.size; omega
   replace hZ1 := Lib.hid hZ1
   clear hcx r1 r3 hgx hY0 hx
   by_cases hc : st = true ∧ (i : Int) = sn
   ·obtain ⟨hc1, hc2⟩ := hc
    obtain ⟨T, hT⟩ : ∃ T, (m : Int) - sn = T := ⟨_, rfl⟩
    have wT : IntKind.i64.wrap ((m : Int) - sn) = T := by have := HC1.out.2.2.2; rw [IntKind.wrap_i64]; omega
    have hTb : T < 1000 := by have := HC1.out.2.2.2; omega
    rw [nst_yes (T := T) (HS.out.2.trans hc1) (hc2.trans HS.out.1.symm) hxD (by rw [HC1.out.2.1, HS.out.1]; exact hT), ← List.append_assoc] at hst
    obtain ⟨Y1, hY1⟩ : ∃ Z, Y0 ++ enc T.toNat = Z := ⟨_, rfl⟩
    have hy1 : Y1.length ≤ 2009 := by rw [← hY1, List.length_append]; have := enc_len9 (m := T.toNat) (by omega); omega
    have k1 := fun wx vx (h : Bs wx vx Y0) => var_any vx Y0 T wx h (by omega) (by omega)
    have k2 := fun wx vx (h : Bs wx vx Y1) => var_any vx Y1 x wx h (by omega) hxI.2
    rw [hY1] at hst k1
    rw [hst] at k2
    have q1 : ((i : Int) == sn) = true := by rw [beq_iff_eq]; exact hc2
    replace k1 := Lib.hid k1
    replace k2 := Lib.hid k2
    subst hc1
    clear hc2 hT hTb hst hY1 hy1 hy0 hxI hxD
    go_wp2_with fail
    refine (k1.out _ _ hob.out.bs).mono ?_
    rintro e w4 ⟨x1, rfl, ho, hb⟩
    have H4 := Lib.hid (show Bs w4 x1 Y1 ∧ Below w2.heap.size w2 w4 from ⟨ho.bs, hinv.out.trans (hb.mono hinv.out.size)⟩)
    clear k1 ho hb e0 e1 d2 cx0 q1 wT hob hinv
    go_wp2_with fail
    refine (k2.out _ _ H4.out.1).mono ?_
    rintro e w5 ⟨x2_, rfl, ho, hb⟩
    have H5 := Lib.hid (show Ob w5 w.heap.size x2_ (P0 ++ numB S ln (i + 1)) ∧ Below w2.heap.size w2 w5 from ⟨by rw [hZ1.out]; exact ho.base (Nat.le_trans hBw H4.out.2.size), H4.out.2.trans (hb.mono H4.out.2.size)⟩)
    clear k2 ho hb H4 hZ1
    go_wp2_with fail
    go_roundg (gk - 1)
    case measure => omega
    case rel => exact ⟨i + 1, by omega, by go_num, Lib.hid H5.out.1, Lib.hid H5.out.2⟩
   ·rw [nst_no (fun h => hc ⟨HS.out.2.symm.trans h.1, h.2.trans HS.out.1⟩) hxD] at hst
    have k2 := fun wx vx (h : Bs wx vx Y0) => var_any vx Y0 x wx h (by omega) hxI.2
    rw [hst] at k2
    replace k2 := Lib.hid k2
    cases st
    ·clear hc hst hy0 hxI hxD
     go_wp2_with fail
     refine (k2.out _ _ hob.out.bs).mono ?_
     rintro e w5 ⟨x2_, rfl, ho, hb⟩
     have H5 := Lib.hid (show Ob w5 w.heap.size x2_ (P0 ++ numB S ln (i + 1)) ∧ Below w2.heap.size w2 w5 from ⟨by rw [hZ1.out]; exact ho.base hBr, hinv.out.trans (hb.mono hinv.out.size)⟩)
     clear k2 ho hb e0 e1 d2 cx0 hob hinv hZ1
     go_wp2_with fail
     go_roundg (gk - 1)
     case measure => omega
     case rel => exact ⟨i + 1, by omega, by go_num, Lib.hid H5.out.1, Lib.hid H5.out.2⟩
    ·have q1 : ((i : Int) == sn) = false := by rw [beq_eq_false_iff_ne]; exact fun h => hc ⟨rfl, h⟩
     clear hc hst hy0 hxI hxD
     go_wp2_with fail
     refine (k2.out _ _ hob.out.bs).mono ?_
     rintro e w5 ⟨x2_, rfl, ho, hb⟩
     have H5 := Lib.hid (show Ob w5 w.heap.size x2_ (P0 ++ numB S ln (i + 1)) ∧ Below w2.heap.size w2 w5 from ⟨by rw [hZ1.out]; exact ho.base hBr, hinv.out.trans (hb.mono hinv.out.size)⟩)
     clear k2 ho hb e0 e1 d2 cx0 hob hinv hZ1
     go_wp2_with fail
     go_roundg (gk - 1)
     case measure => omega
     case rel => exact ⟨i + 1, by omega, by go_num, Lib.hid H5.out.1, Lib.hid H5.out.2⟩
  ·obtain rfl : i = m := by omega
   have hlt : ¬ (i : Int) < (i : Int) := by omega
   have r1 := HR.out.1.below hinv.out HR.out.1.lt
   have d3 := (r1.cell 3).trans x3
   have H2 := Lib.hid (show Ob wr w.heap.size u5 P1 ∧ Below w2.heap.size w2 wr from ⟨by rw [← HP1.out]; exact hob.out, hinv.out⟩)
   clear hob hinv r1 HC1 HP1 x2
   go_wp2_with fail
   go_loopg [5, 58] nA (fun gg s5 s58 wr => ∃ i : Nat, i + gg = nA ∧ s58 = .int .i64 (i : Int) ∧ Hid (Ob wr w.heap.size s5 (P1 ++ (la.take i).flatMap amtL)) ∧ Hid (Below w2.heap.size w2 wr))
   case atStart => exact ⟨0, by omega, rfl, Lib.hid (by rw [List.take_zero, List.flatMap_nil, List.append_nil]; exact H2.out.1), Lib.hid H2.out.2⟩
   case round =>
    clear H2
    obtain ⟨i2, him2, rfl, hob2, hinv2⟩ := hrel
    by_cases hi : i2 < nA
    ·obtain ⟨x, hx⟩ : ∃ x, la[i2]? = some x := ⟨_, List.getElem?_eq_getElem (by have := HM2.out; omega)⟩
     obtain ⟨gx, ox, cx', hu, hgx, hcx⟩ := (HC2.out.1.below hinv2.out).elem hx
     simp only [Value.slice.injEq] at hu
     obtain ⟨rfl, -, -⟩ := hu
     have hxl := HC2.out.2 x (List.mem_of_getElem? hx)
     have hst := flat_step amtL hx P1
     obtain ⟨Y0, hY0⟩ : ∃ Z, P1 ++ (la.take i2).flatMap amtL = Z := ⟨_, rfl⟩
     obtain ⟨Z1, hZ1⟩ : ∃ Z, P1 ++ (la.take (i2 + 1)).flatMap amtL = Z := ⟨_, rfl⟩
     have hy0 : Y0.length ≤ 5000000 := by
      rw [← hY0, List.length_append]
      have h1 := flat_le (f := amtL) (c := 33) (l := la.take i2) (fun y _ => amtL_le y)
      rw [List.length_take] at h1
      have h2 := hPl2.out
      omega
     rw [hY0] at hob2 hst
     rw [hZ1] at hst
     have k4 := fun wx vx (h : Bs wx vx Y0) => amt_any vx Y0 x wx h (by omega) hxl
     have hst2 := hst
     rw [hst2] at k4
     obtain ⟨Y, hY⟩ : ∃ Y, W4 x = Y := ⟨_, rfl⟩
     have hYsz := W4_size x
     have hYone := W4_one_ x
     replace hcx : ∀ j v, (W4 x).toList[j]? = some v → wr.cell? ⟨gx, ox + i2 * 4 + j, none⟩ = some v := hcx
     rw [hY] at k4 hYsz hYone hcx
     have hinf := info31 hYsz
     replace k4 := Lib.hid k4
     replace hZ1 := Lib.hid hZ1
     clear hx hY0 hst hst2 hy0 hxl hY
     have hlt : (i2 : Int) < (nA : Int) := by omega
     have hBr : w.heap.size ≤ wr.heap.size := by have := hinv2.out.size; omega
     go_upto_region 14 with (fail)
     let L : List Sp := [sA 2 31 [3] #[.int .u64 0, .int .u64 0, .int .u64 0, .int .u64 0], sT 3 2 31 [1] (fun g => aggOf g 1)]
     refine wp_region_six0 (shs L) (look6 L) (None_) (by kernel_rfl) (by kernel_rfl) (mk_St L [] [] (by kernel_rfl) (by kernel_rfl) ⟨ok_A, ok_T aggOf_congr, trivial⟩ (by simp)) ?_
     intro QQ hQ
     refine stepK rfl (by kernel_rfl) (fun K hK => ?_); go_simp
     apply Exists.intro; apply And.intro; (focus (intro wk hk; go_simp; exact ⟨rfl, rfl⟩)); refine hK _ _ ?_; clear hK K
     refine stepK rfl (by kernel_rfl) (fun K hK => ?_); go_simp
     apply Exists.intro; apply And.intro; (focus exact kLoadA rfl rfl aggT31 hcx hYsz hgx id); refine hK _ _ ?_; clear hK K
     refine stepS _ rfl (by kernel_rfl) (fun K hK => ?_); go_simp
     refine ⟨?_, ?_⟩
     ·intro wk hk hg hu; go_simp; exact left_A rfl rfl
     rintro ⟨v2, lo2, hi2⟩ hlo2 hhi2 ⟨e2, f2⟩
     replace e2 : v2 = .pointer (some ⟨lo2, 0, none⟩) := e2; replace f2 : hi2 = lo2 + 1 := f2; replace hlo2 : _ ≤ lo2 := hlo2; subst e2; subst f2
     refine hK _ _ ?_; clear hK K
     refine stepS _ rfl (by kernel_rfl) (fun K hK => ?_); go_simp
     refine ⟨?_, ?_⟩
     ·exact sStoreT rfl rfl rfl rfl rfl rfl rfl hinf hYsz.symm hYone (by decide) aggOf_congr
     rintro ⟨v3, lo3, hi3⟩ - - (rfl : v3 = undef)
     refine hK _ _ ?_; clear hK K
     refine stepN ?_
     refine hQ _ _ ?_
     intro w4 hT hG hF
     have hbw4 := hT.below
     have rY : Row w4 lo2 31 Y := (hF 3 _ rfl rfl (by decide)).2
     clear hT hG hF hQ QQ L hcx hgx
     have ob4 := hob2.out.below hbw4
     have hl4 := Lib.hid (hinv2.out.trans (hbw4.mono hinv2.out.size))
     have hs4 := hbw4.size
     have hB4 : w.heap.size ≤ w4.heap.size := by omega
     clear hob2 hinv2 hbw4 hYone hinf hs4
     go_upto_region 15 with (fail)
     let L : List Sp := [sF 2 [] [] [] (fun _ => True) (fun x wq => Ob wq w.heap.size x.v Z1)]
     refine wp_region_six0 (shs L) (look6 L) (None_) (by kernel_rfl) (by kernel_rfl) (mk_St L [] [] (by kernel_rfl) (by kernel_rfl) ⟨ok_F (any_some _) (fun _ _ _ h hb => Ob.below h hb), trivial⟩ (by simp)) ?_
     intro QQ hQ
     refine stepK rfl (by kernel_rfl) (fun K hK => ?_); go_simp
     apply Exists.intro; apply And.intro; (focus (intro wk hk; go_simp; exact ⟨rfl, rfl⟩)); refine hK _ _ ?_; clear hK K
     refine stepK rfl (by kernel_rfl) (fun K hK => ?_); go_simp
     apply Exists.intro; apply And.intro; (focus exact kLoad rfl rfl aggT31 rY hYsz id); refine hK _ _ ?_; clear hK K
     refine stepS _ rfl (by kernel_rfl) (fun K hK => ?_); go_simp
     refine ⟨?_, ?_⟩
     ·intro wk hk hg hu; go_simp; refine upon_enter ((k4.out _ u5 (ob4.below hk.below).bs).mono ?_); rintro e w' ⟨v, rfl, hv, hb9⟩; exact ⟨_, rfl, left_F rfl rfl hb9 trivial (hv.base (by have := hk.size; omega))⟩
     rintro ⟨v2, lo2, hi2⟩ - - -
     refine hK _ _ ?_; clear hK K
     refine stepK rfl (by kernel_rfl) (fun K hK => ?_); go_simp
     apply Exists.intro; apply And.intro; (focus (intro wk hk; go_simp; exact ⟨rfl, rfl⟩)); refine hK _ _ ?_; clear hK K
     refine stepN ?_
     refine hQ _ _ ?_
     intro w5 hT hG hF
     have o5 : Ob w5 w.heap.size v2 Z1 := hF 2 _ rfl rfl (by decide)
     have hb5 := hT.below
     have H5 := Lib.hid (show Ob w5 w.heap.size v2 (P1 ++ (la.take (i2 + 1)).flatMap amtL) ∧ Below w2.heap.size w2 w5 from ⟨by rw [hZ1.out]; exact o5, hl4.out.trans (hb5.mono hl4.out.size)⟩)
     clear hT hG hF hQ QQ L k4 ob4 rY o5 hb5 hl4 hYsz hZ1
     go_wp2_with fail
     go_roundg (gk - 1)
     case measure => omega
     case rel => exact ⟨i2 + 1, by omega, by go_num, Lib.hid H5.out.1, Lib.hid H5.out.2⟩
    ·obtain rfl : i2 = nA := by omega
     have hlt : ¬ (i2 : Int) < (i2 : Int) := by omega
     rw [List.take_of_length_le (by have := HM2.out; omega)] at hob2
     have r1 := HR.out.1.below hinv2.out HR.out.1.lt
     have d4 := (r1.cell 4).trans x4
     have H3 := Lib.hid (show Ob wr w.heap.size u5 P2 ∧ Below w2.heap.size w2 wr from ⟨by rw [← HP2.out]; exact hob2.out, hinv2.out⟩)
     clear hob2 hinv2 r1 HC2 HP2 HM2 x3
     go_wp2_with fail
     go_loopg [5, 69] nH (fun gg s5 s69 wr => ∃ i : Nat, i + gg = nH ∧ s69 = .int .i64 (i : Int) ∧ Hid (Ob wr w.heap.size s5 (P2 ++ (lh.take i).flatMap (fun y : List Int => y))) ∧ Hid (Below w2.heap.size w2 wr))
     case atStart => exact ⟨0, by omega, rfl, Lib.hid (by rw [List.take_zero, List.flatMap_nil, List.append_nil]; exact H3.out.1), Lib.hid H3.out.2⟩
     case round =>
      clear H3
      obtain ⟨i3, him3, rfl, hob3, hinv3⟩ := hrel
      by_cases hi : i3 < nH
      ·obtain ⟨x, hx⟩ : ∃ x, lh[i3]? = some x := ⟨_, List.getElem?_eq_getElem (by have := HM3.out; omega)⟩
       obtain ⟨gx, ox, cx', hu, hgx, hcx⟩ := (HC3.out.1.below hinv3.out).get hx
       simp only [Value.slice.injEq] at hu
       obtain ⟨rfl, -, -⟩ := hu
       have hxl := HC3.out.2 x (List.mem_of_getElem? hx)
       have hst := flat_step (fun y : List Int => y) hx P2
       obtain ⟨Y0, hY0⟩ : ∃ Z, P2 ++ (lh.take i3).flatMap (fun y : List Int => y) = Z := ⟨_, rfl⟩
       obtain ⟨Z1, hZ1⟩ : ∃ Z, P2 ++ (lh.take (i3 + 1)).flatMap (fun y : List Int => y) = Z := ⟨_, rfl⟩
       have hy0 : Y0.length ≤ 5000000 := by
        rw [← hY0, List.length_append]
        have h1 := flat_le (f := (fun y : List Int => y)) (c := 32) (l := lh.take i3) (fun y hy => Nat.le_of_eq (HC3.out.2 y (List.mem_of_mem_take hy)))
        rw [List.length_take] at h1
        have h2 := hPl3.out
        omega
       rw [hY0] at hob3 hst
       rw [hZ1] at hst
       have k4 := fun wx vx (h : Bs wx vx Y0) => hash_put vx Y0 x wx h (by omega) hxl
       have hst2 := hst
       rw [hst2] at k4
       obtain ⟨Y, hY⟩ : ∃ Y, (bv x).toArray = Y := ⟨_, rfl⟩
       have hYsz := bv_arr hxl
       have hYone := bv_arr_one x
       replace hcx : ∀ j v, ((bv x).toArray).toList[j]? = some v → wr.cell? ⟨gx, ox + i3 * 32 + j, none⟩ = some v := hcx
       rw [hY] at k4 hYsz hYone hcx
       have hinf := info35 hYsz
       replace k4 := Lib.hid k4
       replace hZ1 := Lib.hid hZ1
       clear hx hY0 hst hst2 hy0 hxl hY
       have hlt : (i3 : Int) < (nH : Int) := by omega
       have hBr : w.heap.size ≤ wr.heap.size := by have := hinv3.out.size; omega
       go_upto_region 19 with (fail)
       let L : List Sp := [sA 2 35 [3] zr32, sT 3 2 35 [1] (fun g => aggOf g 1)]
       refine wp_region_six0 (shs L) (look6 L) (None_) (by kernel_rfl) (by kernel_rfl) (mk_St L [] [] (by kernel_rfl) (by kernel_rfl) ⟨ok_A, ok_T aggOf_congr, trivial⟩ (by simp)) ?_
       intro QQ hQ
       refine stepK rfl (by kernel_rfl) (fun K hK => ?_); go_simp
       apply Exists.intro; apply And.intro; (focus (intro wk hk; go_simp; exact ⟨rfl, rfl⟩)); refine hK _ _ ?_; clear hK K
       refine stepK rfl (by kernel_rfl) (fun K hK => ?_); go_simp
       apply Exists.intro; apply And.intro; (focus exact kLoadA rfl rfl aggR35 hcx hYsz hgx id); refine hK _ _ ?_; clear hK K
       refine stepS _ rfl (by kernel_rfl) (fun K hK => ?_); go_simp
       refine ⟨?_, ?_⟩
       ·intro wk hk hg hu; go_simp; exact left_A rfl rfl
       rintro ⟨v2, lo2, hi2⟩ hlo2 hhi2 ⟨e2, f2⟩
       replace e2 : v2 = .pointer (some ⟨lo2, 0, none⟩) := e2; replace f2 : hi2 = lo2 + 1 := f2; replace hlo2 : _ ≤ lo2 := hlo2; subst e2; subst f2
       refine hK _ _ ?_; clear hK K
       refine stepS _ rfl (by kernel_rfl) (fun K hK => ?_); go_simp
       refine ⟨?_, ?_⟩
       ·exact sStoreT rfl rfl rfl rfl rfl rfl rfl hinf hYsz.symm hYone (by decide) aggOf_congr
       rintro ⟨v3, lo3, hi3⟩ - - (rfl : v3 = undef)
       refine hK _ _ ?_; clear hK K
       refine stepN ?_
       refine hQ _ _ ?_
       intro w4 hT hG hF
       have hbw4 := hT.below
       have rY : Row w4 lo2 35 Y := (hF 3 _ rfl rfl (by decide)).2
       clear hT hG hF hQ QQ L hcx hgx
       have ob4 := hob3.out.below hbw4
       have hl4 := Lib.hid (hinv3.out.trans (hbw4.mono hinv3.out.size))
       have hs4 := hbw4.size
       have hB4 : w.heap.size ≤ w4.heap.size := by omega
       clear hob3 hinv3 hbw4 hYone hinf hs4
       go_upto_region 20 with (fail)
       let L : List Sp := [sF 2 [] [] [] (fun _ => True) (fun x wq => Ob wq w.heap.size x.v Z1)]
       refine wp_region_six0 (shs L) (look6 L) (None_) (by kernel_rfl) (by kernel_rfl) (mk_St L [] [] (by kernel_rfl) (by kernel_rfl) ⟨ok_F (any_some _) (fun _ _ _ h hb => Ob.below h hb), trivial⟩ (by simp)) ?_
       intro QQ hQ
       refine stepK rfl (by kernel_rfl) (fun K hK => ?_); go_simp
       apply Exists.intro; apply And.intro; (focus (intro wk hk; go_simp; exact ⟨rfl, rfl⟩)); refine hK _ _ ?_; clear hK K
       refine stepK rfl (by kernel_rfl) (fun K hK => ?_); go_simp
       apply Exists.intro; apply And.intro; (focus exact kLoad rfl rfl aggR35 rY hYsz id); refine hK _ _ ?_; clear hK K
       refine stepS _ rfl (by kernel_rfl) (fun K hK => ?_); go_simp
       refine ⟨?_, ?_⟩
       ·intro wk hk hg hu; go_simp; refine upon_enter ((k4.out _ u5 (ob4.below hk.below).bs).mono ?_); rintro e w' ⟨v, rfl, hv, hb9⟩; exact ⟨_, rfl, left_F rfl rfl hb9 trivial (hv.base (by have := hk.size; omega))⟩
       rintro ⟨v2, lo2, hi2⟩ - - -
       refine hK _ _ ?_; clear hK K
       refine stepK rfl (by kernel_rfl) (fun K hK => ?_); go_simp
       apply Exists.intro; apply And.intro; (focus (intro wk hk; go_simp; exact ⟨rfl, rfl⟩)); refine hK _ _ ?_; clear hK K
       refine stepN ?_
       refine hQ _ _ ?_
       intro w5 hT hG hF
       have o5 : Ob w5 w.heap.size v2 Z1 := hF 2 _ rfl rfl (by decide)
       have hb5 := hT.below
       have H5 := Lib.hid (show Ob w5 w.heap.size v2 (P2 ++ (lh.take (i3 + 1)).flatMap (fun y : List Int => y)) ∧ Below w2.heap.size w2 w5 from ⟨by rw [hZ1.out]; exact o5, hl4.out.trans (hb5.mono hl4.out.size)⟩)
       clear hT hG hF hQ QQ L k4 ob4 rY o5 hb5 hl4 hYsz hZ1
       go_wp2_with fail
       go_roundg (gk - 1)
       case measure => omega
       case rel => exact ⟨i3 + 1, by omega, by go_num, Lib.hid H5.out.1, Lib.hid H5.out.2⟩
      ·obtain rfl : i3 = nH := by omega
       have hlt : ¬ (i3 : Int) < (i3 : Int) := by omega
       rw [List.take_of_length_le (by have := HM3.out; omega)] at hob3
       have r3 := HR.out.2.1.below hinv3.out HR.out.2.1.lt
       have e5 := r3.cell 5
       have H4 := Lib.hid (show Ob wr w.heap.size u5 P3 ∧ Below w.heap.size w wr from ⟨by rw [← HP3.out]; exact hob3.out, HR.out.2.2.trans (hinv3.out.mono HR.out.2.2.size)⟩)
       have hinvR := Lib.hid hinv3.out
       clear hob3 hinv3 r3 HC3 HP3 HM3
       cases sc
       ·have hby := Lib.hid (show BY = if P3.length ≤ 4096 then P3 else [] by have h := HBY.out; simpa using h)
        clear HBY kC
        obtain ⟨q5, c5, hv⟩ := own_sl_ H4.out.1
        obtain ⟨n5, hn5⟩ : ∃ n, P3.length = n := ⟨_, rfl⟩
        rw [hn5] at hv
        have HV := Lib.hid hv
        have hn5' := Lib.hid hn5
        have hP3l : n5 ≤ 5000 := by have := hPl4.out; omega
        subst hv
        clear hn5
        by_cases h4 : n5 ≤ 4096
        ·have h4i : (n5 : Int) ≤ 4096 := by omega
         have e9 := Lib.hid (show BY = P3 by rw [hby.out, if_pos (by have := hn5'.out; omega)])
         clear h4 hby
         go_wp2_with fail
         go_ret
         exact ⟨_, rfl, by rw [e9.out]; exact H4.out.1, H4.out.2⟩
        ·have h4i : 4096 < (n5 : Int) := by omega
         have e9 := Lib.hid (show BY = [] by rw [hby.out, if_neg (by have := hn5'.out; omega)])
         clear h4 hby
         go_wp2_with fail
         go_ret
         exact ⟨_, rfl, by rw [e9.out]; exact Ob.nil _ _, H4.out.2⟩
       ·have hby := Lib.hid (show BY = if P4.length ≤ 4096 then P4 else [] by have h := HBY.out; simpa using h)
        clear HBY
        go_upto_region 23 with (fail)
        have r1 := HR.out.1.below hinvR.out HR.out.1.lt
        have hl := H4.out.2
        have ob := H4.out.1
        have hBr : w.heap.size ≤ wr.heap.size := hl.size
        clear H4 hinvR e5
        let L : List Sp := [sF 3 [] [] [] (fun _ => True) (fun x wq => Ob wq w.heap.size x.v P4)]
        refine wp_region_six0 (shs L) (look6 L) (None_) (by kernel_rfl) (by kernel_rfl) (mk_St L [] [] (by kernel_rfl) (by kernel_rfl) ⟨ok_F (any_some _) (fun _ _ _ h hb => Ob.below h hb), trivial⟩ (by simp)) ?_
        intro QQ hQ
        iterate 2 (refine stepK rfl (by kernel_rfl) (fun K hK => ?_); go_simp; apply Exists.intro; apply And.intro; (focus (intro wk hk; go_simp; exact ⟨rfl, rfl⟩)); refine hK _ _ ?_; clear hK K)
        refine stepK rfl (by kernel_rfl) (fun K hK => ?_); go_simp
        apply Exists.intro; apply And.intro; (focus exact kLoadMid rfl rfl aggT114 r1 hmid hcsz id); refine hK _ _ ?_; clear hK K
        refine stepS _ rfl (by kernel_rfl) (fun K hK => ?_); go_simp
        refine ⟨?_, ?_⟩
        ·intro wk hk hg hu; go_simp; refine upon_enter ((kC.out _ u5 (hl.trans (hk.below.mono hl.size)) (ob.below hk.below).bs).mono ?_); rintro e w' ⟨v, rfl, hv, hb9⟩; exact ⟨_, rfl, left_F rfl rfl hb9 trivial (hv.base (by have := hk.size; omega))⟩
        rintro ⟨v3, lo3, hi3⟩ - - -
        refine hK _ _ ?_; clear hK K
        refine stepK rfl (by kernel_rfl) (fun K hK => ?_); go_simp
        apply Exists.intro; apply And.intro; (focus (intro wk hk; go_simp; exact ⟨rfl, rfl⟩)); refine hK _ _ ?_; clear hK K
        refine stepN ?_
        refine hQ _ _ ?_
        intro w9 hT hG hF
        have hb9 := hT.below
        have o3 : Ob w9 w.heap.size v3 P4 := hF 3 _ rfl rfl (by decide)
        have H9 := Lib.hid (show Ob w9 w.heap.size v3 P4 ∧ Below w.heap.size w w9 from ⟨o3, hl.trans (hb9.mono hl.size)⟩)
        clear hT hG hF hQ QQ L hl r1 ob hb9 o3 kC
        obtain ⟨q5, c5, hv⟩ := own_sl_ H9.out.1
        obtain ⟨n5, hn5⟩ : ∃ n, P4.length = n := ⟨_, rfl⟩
        rw [hn5] at hv
        have hn5' := Lib.hid hn5
        subst hv
        clear hn5
        by_cases h4 : n5 ≤ 4096
        ·have h4i : (n5 : Int) ≤ 4096 := by omega
         have e9 := Lib.hid (show BY = P4 by rw [hby.out, if_pos (by have := hn5'.out; omega)])
         clear h4 hby
         go_wp2_with fail
         go_ret
         exact ⟨_, rfl, by rw [e9.out]; exact H9.out.1, H9.out.2⟩
        ·have h4i : 4096 < (n5 : Int) := by omega
         have e9 := Lib.hid (show BY = [] by rw [hby.out, if_neg (by have := hn5'.out; omega)])
         clear h4 hby
         go_wp2_with fail
         go_ret
         exact ⟨_, rfl, by rw [e9.out]; exact Ob.nil _ _, H9.out.2⟩
end Go.Proofs.Ytpdenhmkpiafiaa
namespace Go.Proofs.Ytpdenhmkpiafiaa
open Go Go.RowKit K6
def t15 : Txv := ⟨15, 7, none, 0, [], none, 0, [], none, 0, [], cm0⟩
theorem t15_ok (w : World) : TxOk w t15 :=
 ⟨⟨by decide, by decide⟩, ⟨by decide, by decide⟩, Rs.nil _ _ _, (fun _ h => (by cases h)), Us.nil w, (fun _ h => (by cases h)), Rs.nil _ _ _, (fun _ h => (by cases h)), cm0_ok w⟩
theorem t15_light : LightT t15 := ⟨by decide, by decide, by decide, by decide, by decide, fun _ h => (by cases h)⟩
set_option maxRecDepth 100000 in
theorem t15_good : goodK t15.key = true := by
 unfold goodK
 have h1 : shpOf t15.key.1 = ⟨0, false, 0, false, 0, false⟩ := by kernel_rfl
 rw [h1]
 simp only [if_neg (show ¬ (false = true) by decide)]
 have h2 : decide (t15.key.2.2.2.2.2 = cm0.key) = true := decide_eq_true rfl
 rw [h2]
 decide +kernel
theorem t15_bytes : bytK t15.key = [15, 7] := by
 have h1 : shpOf t15.key.1 = ⟨0, false, 0, false, 0, false⟩ := by kernel_rfl
 have h2 : putK t15.key = [15, 7] := by
  unfold putK
  rw [h1]
  show enc 15 ++ (enc 7 ++ _) = _
  rw [enc_low (by decide), enc_low (by decide)]
  rfl
 unfold bytK
 rw [if_pos t15_good, h2]
 rfl
set_option maxRecDepth 100000 in
set_option maxHeartbeats 64000000 in
theorem lives15U (w : World) : Calls Try.prog 133 #[] w fun e w' => e = .returned (.bool true) ∧ Below w.heap.size w w' := by
 have kb := fun wx => txbytes_at t15 wx (t15_ok wx) t15_light
 rw [t15_bytes] at kb
 have hcs : t15.cs.toArray = #[.int .i64 15, .int .i64 7, .slice none 0 0, .slice none 0 0, .slice none 0 0, .int .i64 0, .int .i64 0, .int .i64 0, .int .u8 0, .int .u8 0, .int .u8 0, .int .u8 0, .int .u8 0, .int .u8 0, .int .u8 0, .int .u8 0, .int .u8 0, .int .u8 0, .int .u8 0, .int .u8 0, .int .u8 0, .int .u8 0, .int .u8 0, .int .u8 0, .int .u8 0, .int .u8 0, .int .u8 0, .int .u8 0, .int .u8 0, .int .u8 0, .int .u8 0, .int .u8 0, .int .u8 0, .int .u8 0, .int .u8 0, .int .u8 0, .int .u8 0, .int .u8 0, .int .u8 0, .int .u8 0, .slice none 0 0, .slice none 0 0, .int .i64 0] := by kernel_rfl
 rw [hcs] at kb
 replace kb := Lib.hid kb
 have hSB : Hid (strOfNums [15, 7] = ByteArray.mk #[15, 7]) := Lib.hid (by kernel_rfl)
 clear hcs
 go_enter Try.func133, Try.ntmps133
 go_upto_region 1 with (fail)
 let L : List Sp := [sF 1 [] [] [] (fun _ => True) (fun x w => Bs w x.v [15, 7]), sV 2 [1] [1] (fun u => u = .string (ByteArray.mk #[15, 7]))]
 refine wp_region_six0 (shs L) (look6 L) (None_) (by kernel_rfl) (by kernel_rfl) (mk_St L [] [] (by kernel_rfl) (by kernel_rfl) ⟨ok_F (any_some _) (fun _ _ _ h hb => Bs.below h hb), ok_V ⟨_, rfl⟩, trivial⟩ (by simp)) ?_
 intro QQ hQ
 refine stepK rfl (by kernel_rfl) (fun K hK => ?_); go_simp
 apply Exists.intro; apply And.intro; (focus (intro wk hk; go_simp; exact ⟨rfl, rfl⟩)); refine hK _ _ ?_; clear hK K
 refine stepS _ rfl (by kernel_rfl) (fun K hK => ?_); go_simp
 refine ⟨?_, ?_⟩
 ·intro wk hk hg hu; go_simp; refine upon_enter ((kb.out _).mono ?_); rintro e w' ⟨v, rfl, hv, hb9⟩; exact ⟨_, rfl, left_F rfl rfl hb9 trivial hv.bs⟩
 rintro ⟨v1, lo1, hi1⟩ - - -
 refine hK _ _ ?_; clear hK K
 refine stepS _ rfl (by kernel_rfl) (fun K hK => ?_); go_simp
 refine ⟨?_, ?_⟩
 ·intro wk hk hg hu; have u1 := hu 1 (show 1 ∈ [1] by decide); have b1 : Bs wk v1 [15, 7] := u1; have cv := Bs.convA b1; rw [hSB.out] at cv; go_simp; exact left_V (p := fun u => u = .string (ByteArray.mk #[15, 7])) rfl (Below.refl _ _) rfl
 rintro ⟨v2, lo2, hi2⟩ - - (rfl : v2 = _)
 refine hK _ _ ?_; clear hK K
 iterate 2 (refine stepK rfl (by kernel_rfl) (fun K hK => ?_); go_simp; apply Exists.intro; apply And.intro; (focus (intro wk hk; go_simp; exact ⟨rfl, rfl⟩)); refine hK _ _ ?_; clear hK K)
 refine stepN ?_
 refine hQ _ _ ?_
 intro w9 hT hG hF
 have H9 := Lib.hid (hT.below)
 clear hT hG hF hQ QQ L kb
 go_wp2_with fail
 go_ret
 exact ⟨by first | rfl | (simp; done), H9.out⟩
end Go.Proofs.Ytpdenhmkpiafiaa
namespace Go.Proofs.Ytpdenhmkpiafiaa
open Go Go.RowKit K6
set_option maxRecDepth 100000 in
set_option maxHeartbeats 64000000 in
theorem reads15_walk (q : Option Addr) (c : Nat) (xs : List Int) (hx : By xs) (qb : Option Nat) (w : World) (hb0 : Bs w (.slice q xs.length c) xs) (hs0 : SRv w qb (.slice q xs.length c) xs) (hqb : ∀ b, qb = some b → b < w.heap.size) :
  Calls Try.prog 32 #[.slice q xs.length c] w (Ret w (.bool true)) := by
 have lv := Lib.hid fun wx => lives15U wx
 obtain ⟨n0, hn0⟩ : ∃ n, xs.length = n := ⟨_, rfl⟩
 rw [hn0] at hb0 hs0 ⊢
 by_cases h5 : 5000 < n0
 ·have hn1 : (5000 : Int) < (n0 : Int) := by omega
  clear hb0 h5 hn0 hs0 hqb hx
  go_enter Try.func32, Try.ntmps32
  go_wp2_with fail
  refine (lv.out _).mono ?_
  rintro e w1 ⟨rfl, hb⟩
  have H := Lib.hid hb
  clear hb
  go_wp2_with fail
  go_ret
  exact ⟨rfl, H.out⟩
 have hn1 : (n0 : Int) ≤ 5000 := by omega
 have hL : xs.length ≤ 1000000 := by omega
 obtain ⟨e0, he0⟩ : ∃ x, prT xs = x := ⟨_, rfl⟩
 obtain ⟨K0, hK0⟩ : ∃ x, prK xs = x := ⟨_, rfl⟩
 have k1 := fun wx (hb : Below w.heap.size w wx) => txparse_at _ xs wx (hb0.below hb) hx hL
 have k2 := fun wx (hb : Below w.heap.size w wx) => rtxparse_at _ xs qb wx (hs0.keep (X := None_) (Tr.of hb) fun _ _ => id) (fun b h => Nat.lt_of_lt_of_le (hqb b h) hb.size) hx hL
 simp only [he0, hK0] at k1 k2
 replace k1 := Lib.hid k1
 replace k2 := Lib.hid k2
 clear hb0 hs0 hqb hx hn0 hL he0 hK0 h5
 go_enter Try.func32, Try.ntmps32
 go_wp2_with fail
 refine (k1.out _ (Below.refl _ _)).mono ?_
 rintro e w1 ⟨t1v, hk1, rfl, hok1, hbw1, hlt1⟩
 have hs1 : t1v.cs.toArray.size = 43 := Txv.size hok1.c.tok
 have ho1 := Txv.one t1v
 obtain ⟨c1, hc1⟩ : ∃ A, t1v.cs.toArray = A := ⟨_, rfl⟩
 rw [hc1] at hs1 ho1 ⊢
 have hi1 := info116 hs1
 have hZ1 : (#[.int .i64 0, .int .i64 0, .slice none 0 0, .slice none 0 0, .slice none 0 0, .int .i64 0, .int .i64 0, .int .i64 0, .int .u8 0, .int .u8 0, .int .u8 0, .int .u8 0, .int .u8 0, .int .u8 0, .int .u8 0, .int .u8 0, .int .u8 0, .int .u8 0, .int .u8 0, .int .u8 0, .int .u8 0, .int .u8 0, .int .u8 0, .int .u8 0, .int .u8 0, .int .u8 0, .int .u8 0, .int .u8 0, .int .u8 0, .int .u8 0, .int .u8 0, .int .u8 0, .int .u8 0, .int .u8 0, .int .u8 0, .int .u8 0, .int .u8 0, .int .u8 0, .int .u8 0, .int .u8 0, .slice none 0 0, .slice none 0 0, .int .i64 0] : Array Value).size = c1.size := by rw [hs1]; rfl
 have hA1 : Below w1.heap.size w1 (w1.alloc (.cells #[.int .i64 0, .int .i64 0, .slice none 0 0, .slice none 0 0, .slice none 0 0, .int .i64 0, .int .i64 0, .int .i64 0, .int .u8 0, .int .u8 0, .int .u8 0, .int .u8 0, .int .u8 0, .int .u8 0, .int .u8 0, .int .u8 0, .int .u8 0, .int .u8 0, .int .u8 0, .int .u8 0, .int .u8 0, .int .u8 0, .int .u8 0, .int .u8 0, .int .u8 0, .int .u8 0, .int .u8 0, .int .u8 0, .int .u8 0, .int .u8 0, .int .u8 0, .int .u8 0, .int .u8 0, .int .u8 0, .int .u8 0, .int .u8 0, .int .u8 0, .int .u8 0, .int .u8 0, .int .u8 0, .slice none 0 0, .slice none 0 0, .int .i64 0] 116)) := (Below.refl _ _).alloc (Nat.le_refl _) _
 have HK1 := Lib.hid (show t1v.key = K0 ∧ TxOk w1 t1v ∧ LightT t1v ∧ Below w.heap.size w w1 from ⟨hk1, hok1, hlt1, hbw1⟩)
 have HC1 := Lib.hid hc1
 clear hk1 hok1 hlt1 hbw1 hc1 k1
 go_upto_region 4 with (refine wpList_storeA (b := w1.heap.size) (t := 116) (old := #[.int .i64 0, .int .i64 0, .slice none 0 0, .slice none 0 0, .slice none 0 0, .int .i64 0, .int .i64 0, .int .i64 0, .int .u8 0, .int .u8 0, .int .u8 0, .int .u8 0, .int .u8 0, .int .u8 0, .int .u8 0, .int .u8 0, .int .u8 0, .int .u8 0, .int .u8 0, .int .u8 0, .int .u8 0, .int .u8 0, .int .u8 0, .int .u8 0, .int .u8 0, .int .u8 0, .int .u8 0, .int .u8 0, .int .u8 0, .int .u8 0, .int .u8 0, .int .u8 0, .int .u8 0, .int .u8 0, .int .u8 0, .int .u8 0, .int .u8 0, .int .u8 0, .int .u8 0, .int .u8 0, .slice none 0 0, .slice none 0 0, .int .i64 0]) (cs := c1) rfl rfl rfl rfl (Row.new_at rfl) hi1 hZ1 ho1 (fun w2 rr1 tt1 => ?_))
 have hb2 := below_store hA1 tt1
 have H2 := Lib.hid (show TxOk w2 t1v ∧ Row w2 w1.heap.size 116 c1 ∧ Below w.heap.size w w2 from ⟨HK1.out.2.1.below hb2, rr1, HK1.out.2.2.2.trans (hb2.mono HK1.out.2.2.2.size)⟩)
 clear hb2 tt1 rr1 hA1 hi1 hZ1 ho1
 go_wp2_with fail
 refine (k2.out _ H2.out.2.2).mono ?_
 rintro e w3 ⟨t2v, hk2, rfl, hok2, hbw2, hlt2⟩
 have hs2 : t2v.cs.toArray.size = 43 := Txv.size hok2.c.tok
 have ho2 := Txv.one t2v
 obtain ⟨c2, hc2⟩ : ∃ A, t2v.cs.toArray = A := ⟨_, rfl⟩
 rw [hc2] at hs2 ho2 ⊢
 have hi2 := info116 hs2
 have hZ2 : (#[.int .i64 0, .int .i64 0, .slice none 0 0, .slice none 0 0, .slice none 0 0, .int .i64 0, .int .i64 0, .int .i64 0, .int .u8 0, .int .u8 0, .int .u8 0, .int .u8 0, .int .u8 0, .int .u8 0, .int .u8 0, .int .u8 0, .int .u8 0, .int .u8 0, .int .u8 0, .int .u8 0, .int .u8 0, .int .u8 0, .int .u8 0, .int .u8 0, .int .u8 0, .int .u8 0, .int .u8 0, .int .u8 0, .int .u8 0, .int .u8 0, .int .u8 0, .int .u8 0, .int .u8 0, .int .u8 0, .int .u8 0, .int .u8 0, .int .u8 0, .int .u8 0, .int .u8 0, .int .u8 0, .slice none 0 0, .slice none 0 0, .int .i64 0] : Array Value).size = c2.size := by rw [hs2]; rfl
 have hA2 : Below w3.heap.size w3 (w3.alloc (.cells #[.int .i64 0, .int .i64 0, .slice none 0 0, .slice none 0 0, .slice none 0 0, .int .i64 0, .int .i64 0, .int .i64 0, .int .u8 0, .int .u8 0, .int .u8 0, .int .u8 0, .int .u8 0, .int .u8 0, .int .u8 0, .int .u8 0, .int .u8 0, .int .u8 0, .int .u8 0, .int .u8 0, .int .u8 0, .int .u8 0, .int .u8 0, .int .u8 0, .int .u8 0, .int .u8 0, .int .u8 0, .int .u8 0, .int .u8 0, .int .u8 0, .int .u8 0, .int .u8 0, .int .u8 0, .int .u8 0, .int .u8 0, .int .u8 0, .int .u8 0, .int .u8 0, .int .u8 0, .int .u8 0, .slice none 0 0, .slice none 0 0, .int .i64 0] 116)) := (Below.refl _ _).alloc (Nat.le_refl _) _
 have HK2 := Lib.hid (show t2v.key = K0 ∧ TxOk w3 t2v ∧ LightT t2v ∧ Below w2.heap.size w2 w3 from ⟨hk2, hok2, hlt2, hbw2⟩)
 have HC2 := Lib.hid hc2
 have hb23 := hbw2
 clear hk2 hok2 hlt2 hbw2 hc2 k2
 go_upto_region 5 with (refine wpList_storeA (b := w3.heap.size) (t := 116) (old := #[.int .i64 0, .int .i64 0, .slice none 0 0, .slice none 0 0, .slice none 0 0, .int .i64 0, .int .i64 0, .int .i64 0, .int .u8 0, .int .u8 0, .int .u8 0, .int .u8 0, .int .u8 0, .int .u8 0, .int .u8 0, .int .u8 0, .int .u8 0, .int .u8 0, .int .u8 0, .int .u8 0, .int .u8 0, .int .u8 0, .int .u8 0, .int .u8 0, .int .u8 0, .int .u8 0, .int .u8 0, .int .u8 0, .int .u8 0, .int .u8 0, .int .u8 0, .int .u8 0, .int .u8 0, .int .u8 0, .int .u8 0, .int .u8 0, .int .u8 0, .int .u8 0, .int .u8 0, .int .u8 0, .slice none 0 0, .slice none 0 0, .int .i64 0]) (cs := c2) rfl rfl rfl rfl (Row.new_at rfl) hi2 hZ2 ho2 (fun w4 rr2 tt2 => ?_))
 have hb4 := below_store hA2 tt2
 have hb24 := hb23.trans (hb4.mono hb23.size)
 have r1 := H2.out.2.1.below hb24 H2.out.2.1.lt
 have r2 := rr2
 have hl := H2.out.2.2.trans (hb24.mono H2.out.2.2.size)
 have kq : ∀ wx, Below w4.heap.size w4 wx → Calls Try.prog 141 #[.agg c1, .agg c2] wx fun r w' => r = .returned (.bool true) ∧ Below wx.heap.size wx w' := fun wx hb => by
  have h := rtxsame_at t1v t2v wx ((H2.out.1.below hb24).below hb) ((HK2.out.2.1.below hb4).below hb) HK1.out.2.2.1
  rw [decide_eq_true (by rw [HK1.out.1, HK2.out.1]), HC1.out, HC2.out] at h
  exact h
 replace kq := Lib.hid kq
 have Hl := Lib.hid hl
 clear H2 HK1 HK2 HC1 HC2 hb23 hb4 hb24 tt2 rr2 hA2 hi2 hZ2 ho2 hl
 go_wp2_with (first | (refine wpList_loadA rfl rfl rfl aggT116 r1 hs1 ?_) | (refine wpList_loadA rfl rfl rfl aggT116 r2 hs2 ?_))
 refine (kq.out _ (Below.refl _ _)).mono ?_
 rintro e w5 ⟨rfl, hb5⟩
 have H5 := Lib.hid (Hl.out.trans (hb5.mono Hl.out.size))
 clear hb5 kq Hl r1 r2
 go_wp2_with fail
 refine (lv.out _).mono ?_
 rintro e wz ⟨rfl, hbz⟩
 have Hz := Lib.hid (H5.out.trans (hbz.mono H5.out.size))
 clear hbz
 go_wp2_with fail
 go_ret
 exact ⟨rfl, Hz.out⟩
end Go.Proofs.Ytpdenhmkpiafiaa
