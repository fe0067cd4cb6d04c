/-
 What the statement rests on, part 12: TxRef4.
-/
import Derived.Test.YtpdenhmkpiafiaaQTR8
import Derived.Test.YtpdenhmkpiafiaaQTR9
import Derived.Test.YtpdenhmkpiafiaaQTR10
namespace Go.Proofs.Ytpdenhmkpiafiaa
open Go Go.RowKit K6
theorem shp_et (k : Int) : (shpOf k).e = true → (shpOf k).t = true := by
 unfold shpOf
 split
 ·rename_i h
  have h2 : k = 1 ∨ k = 2 ∨ k = 3 ∨ k = 4 ∨ k = 5 ∨ k = 6 ∨ k = 7 ∨ k = 8 ∨ k = 9 ∨ k = 10 ∨ k = 11 ∨ k = 12 ∨ k = 13 ∨ k = 14 ∨ k = 15 ∨ k = 16 ∨ k = 17 ∨ k = 18 ∨ k = 19 ∨ k = 20 ∨ k = 21 ∨ k = 22 ∨ k = 23 ∨ k = 24 ∨ k = 25 ∨ k = 26 ∨ k = 27 ∨ k = 28 := by omega
  rcases h2 with rfl | rfl | rfl | rfl | rfl | rfl | rfl | rfl | rfl | rfl | rfl | rfl | rfl | rfl | rfl | rfl | rfl | rfl | rfl | rfl | rfl | rfl | rfl | rfl | rfl | rfl | rfl | rfl <;> decide
 ·decide
set_option maxRecDepth 100000 in
set_option maxHeartbeats 64000000 in
theorem rgood_at (t : Txv) (w : World) (ht : TxOk w t) (hl : LightT t) :
  Calls Try.prog 137 #[.agg t.cs.toArray] w fun r w' => r = .returned (.bool (goodK t.key)) ∧ Below w.heap.size w w' := by
 have hsn := shp_n t.k
 have het := shp_et t.k
 have kO := fun wx => rof15_at t.k wx
 have kG := fun wx (hb : Below w.heap.size w wx) => rgoodClaim_at t.c wx (ht.c.below hb) (by have := hl.p; omega) (by have := hl.l; omega) (fun e he => by have := hl.q e he; omega)
 have kS := fun wx (hb : Below w.heap.size w wx) => rsameClaim_at t.c cm0 wx (ht.c.below hb) (cm0_ok wx) (by have := hl.p; omega) (by have := hl.l; omega) (fun e he => by have := hl.q e he; omega)
 have hok : goodK t.key = (okK t.k && (decide (1 ≤ t.f ∧ t.f ≤ 4294967295) && (cntB (shpOf t.k) t.n.length t.a.length t.h.length && (numsB (shpOf t.k).n t.n && (t.a.all okA && (if (shpOf t.k).c = true then goodCK t.c.key else decide (t.c.key = cm0.key))))))) := rfl
 obtain ⟨S, hS⟩ : ∃ S, shpOf t.k = S := ⟨_, rfl⟩
 unfold OfP at kO
 rw [hS] at kO hok hsn het
 obtain ⟨sn, st, sa, se, sh, sc⟩ := S
 simp only [Shp.cs] at kO hok hsn het
 obtain ⟨b0, hb0⟩ : ∃ b, okK t.k = b := ⟨_, rfl⟩
 obtain ⟨b3, hb3⟩ : ∃ b, numsB sn t.n = b := ⟨_, rfl⟩
 obtain ⟨b4, hb4⟩ : ∃ b, t.a.all okA = b := ⟨_, rfl⟩
 obtain ⟨b5, hb5⟩ : ∃ b, goodCK t.c.key = b := ⟨_, rfl⟩
 obtain ⟨b6, hb6⟩ : ∃ b, decide (t.c.key = cm0.key) = b := ⟨_, rfl⟩
 rw [hb0] at kO
 rw [hb5] at kG
 rw [hb6] at kS
 rw [hb0, hb3, hb4, hb5, hb6] at hok
 have x0 := tA0 t
 have x1 := tA1 t
 have x2 := tA2 t
 have x3 := tA3 t
 have x4 := tA4 t
 have hcsz : t.c.cs.toArray.size = 38 := by rw [List.size_toArray]; exact Cm.len ht.c.tok
 have hmid := Txv.c_ t
 have HN := ht.n
 have HA := ht.a
 have hab := ht.ab
 unfold Txv.nv at HN
 unfold Txv.av at HA
 obtain ⟨m, hm⟩ : ∃ m, t.n.length = m := ⟨_, rfl⟩
 obtain ⟨nA, hnA⟩ : ∃ m, t.a.length = m := ⟨_, rfl⟩
 obtain ⟨nH, hnH⟩ : ∃ m, t.h.length = m := ⟨_, rfl⟩
 obtain ⟨nq, hnq⟩ : ∃ q, t.nq = q := ⟨_, rfl⟩
 obtain ⟨nc, hnc⟩ : ∃ q, t.nc = q := ⟨_, rfl⟩
 obtain ⟨aq, haq⟩ : ∃ q, t.aq = q := ⟨_, rfl⟩
 obtain ⟨ac, hac⟩ : ∃ q, t.ac = q := ⟨_, rfl⟩
 obtain ⟨hq, hhq⟩ : ∃ q, t.hq = q := ⟨_, rfl⟩
 obtain ⟨hc, hhc⟩ : ∃ q, t.hc = q := ⟨_, rfl⟩
 have hm50 : m ≤ 50 := by have := hl.n; omega
 have hA50 : nA ≤ 50 := by have := hl.a; omega
 have hH50 : nH ≤ 50 := by have := hl.h; omega
 rw [hm, hnq, hnc] at x2 HN
 rw [hnA, haq, hac] at x3 HA
 rw [hnH, hhq, hhc] at x4
 rw [hm, hnA, hnH] at hok
 obtain ⟨ct, hct⟩ : ∃ c, t.cs.toArray = c := ⟨_, rfl⟩
 obtain ⟨cc5, hcc⟩ : ∃ c, t.c.cs.toArray = c := ⟨_, rfl⟩
 rw [hct] at x0 x1 x2 x3 x4 hmid ⊢
 rw [hcc] at hcsz hmid kG kS
 obtain ⟨tk, htk⟩ : ∃ k, t.k = k := ⟨_, rfl⟩
 obtain ⟨tf, htf⟩ : ∃ k, t.f = k := ⟨_, rfl⟩
 rw [htk] at x0 kO
 rw [htf] at x1 hok
 obtain ⟨ln, hln⟩ : ∃ l, t.n = l := ⟨_, rfl⟩
 obtain ⟨la, hla⟩ : ∃ l, t.a = l := ⟨_, rfl⟩
 rw [hln] at HN hm hb3
 rw [hla] at HA hnA hb4 hab
 obtain ⟨BB, hBB⟩ : ∃ b, goodK t.key = b := ⟨_, rfl⟩
 rw [hBB] at hok ⊢
 obtain ⟨T, hT⟩ : ∃ T, (m : Int) - sn = T := ⟨_, rfl⟩
 have wT : IntKind.i64.wrap ((m : Int) - sn) = T := by rw [IntKind.wrap_i64]; omega
 unfold cntB at hok
 simp only [hT] at hok
 have HB := Lib.hid (show ((b0 = false ∨ tf < 1 ∨ 4294967295 < tf ∨ (nH : Int) ≠ sh ∨ (st = false ∧ T ≠ 0) ∨ (st = true ∧ (T < 1 ∨ 8 < T)) ∨ (se = true ∧ (nA : Int) ≠ T) ∨ (se = false ∧ (nA : Int) ≠ sa) ∨ b3 = false ∨ b4 = false) → BB = false) ∧
   (b0 = true → 1 ≤ tf → tf ≤ 4294967295 → (nH : Int) = sh → (st = false → T = 0) → (st = true → 1 ≤ T ∧ T ≤ 8) → (se = true → (nA : Int) = T) → (se = false → (nA : Int) = sa) → b3 = true → b4 = true → (if sc = true then b5 else b6) = BB) from by
  rw [hok]
  constructor
  ·intro h
   rcases h with h | h | h | h | ⟨h, h'⟩ | ⟨h, h'⟩ | ⟨h, h'⟩ | ⟨h, h'⟩ | h | h
   ·simp [h]
   ·simp only [decide_eq_false (show ¬ (1 ≤ tf ∧ tf ≤ 4294967295) by omega), Bool.false_and, Bool.and_false]
   ·simp only [decide_eq_false (show ¬ (1 ≤ tf ∧ tf ≤ 4294967295) by omega), Bool.false_and, Bool.and_false]
   ·simp only [decide_eq_false h, Bool.false_and, Bool.and_false]
   ·subst h
    simp only [if_neg (show ¬ (false = true) by decide), decide_eq_false h', Bool.false_and, Bool.and_false]
   ·subst h
    simp only [if_pos trivial, decide_eq_false (show ¬ (1 ≤ T ∧ T ≤ 8) by omega), Bool.false_and, Bool.and_false]
   ·subst h
    simp only [if_pos trivial, decide_eq_false h', Bool.false_and, Bool.and_false]
   ·subst h
    simp only [if_neg (show ¬ (false = true) by decide), decide_eq_false h', Bool.false_and, Bool.and_false]
   ·simp [h]
   ·simp [h]
  ·intro h1 h2 h3 h4 h5 h6 h7 h8 h9 h10
   have e1 : (if st = true then decide (1 ≤ T ∧ T ≤ 8) else decide (T = 0)) = true := by
    cases st
    ·exact decide_eq_true (h5 rfl)
    ·exact decide_eq_true (h6 rfl)
   have e2 : decide ((nA : Int) = if se = true then T else sa) = true := by
    cases se
    ·exact decide_eq_true (h8 rfl)
    ·exact decide_eq_true (h7 rfl)
   rw [h1, decide_eq_true (show 1 ≤ tf ∧ tf ≤ 4294967295 from ⟨h2, h3⟩), e1, e2, decide_eq_true h4, h9, h10]
   simp)
 have HN1 := Lib.hid (show _ ∧ _ ∧ _ ∧ _ from ⟨HN, hm, hb3, hsn⟩)
 have HA1 := Lib.hid (show _ ∧ _ ∧ _ ∧ _ from ⟨HA, hab, hnA, hb4⟩)
 have HET := Lib.hid het
 replace kO := Lib.hid kO
 replace kG := Lib.hid kG
 replace kS := Lib.hid kS
 have hmi : (m : Int) ≤ 50 := by omega
 have hAi : (nA : Int) ≤ 50 := by omega
 have hHi : (nH : Int) ≤ 50 := by omega
 clear hS hok hb0 hb3 hb4 hb5 hb6 hm hnA hnH hnq hnc haq hac hhq hhc hct hcc htk htf hln hla ht hl hm50 hA50 hH50 hsn het HN HA hab hBB hT
 go_enter Try.func137, Try.ntmps137
 go_upto_region 1 with (fail)
 refine wp_abs (Mem w [(w.heap.size, 116, ct)]) ⟨by go_grown, by (repeat (first | (refine Row.new_at ?_; simp; done) | refine Row.alloc ?_ _)), trivial⟩ ?_
 intro w0 hM
 obtain ⟨hl, r1, -⟩ := hM
 let L : List Sp := [sV 2 [] [] (fun u => u = .tuple #[.agg #[.int .i64 sn, .bool st, .int .i64 sa, .bool se, .int .i64 sh, .bool sc], .bool b0]), sA 6 118 [7] #[.int .i64 0, .bool false, .int .i64 0, .bool false, .int .i64 0, .bool false], sT 7 6 118 [4] (fun g => aggOf g 4)]
 refine wp_region_six0 (shs L) (look6 L) (None_) (by kernel_rfl) (by kernel_rfl) (mk_St L [] [] (by kernel_rfl) (by kernel_rfl) ⟨ok_V ⟨_, rfl⟩, ok_A, ok_T aggOf_congr, trivial⟩ (by simp)) ?_
 intro QQ hQ
 refine stepK rfl (by kernel_rfl) (fun K hK => ?_); go_simp
 apply Exists.intro; apply And.intro; (focus (intro wk hk; go_simp; exact ⟨rfl, rfl⟩)); refine hK _ _ ?_; clear hK K
 refine stepK rfl (by kernel_rfl) (fun K hK => ?_); go_simp
 apply Exists.intro; apply And.intro; (focus (intro wk hk; have cc : wk.cell? ⟨w.heap.size, 0, none⟩ = some (.int .i64 tk) := ((K6.Row.tr r1 hk id).cell 0).trans x0; go_simp; exact ⟨rfl, rfl⟩)); refine hK _ _ ?_; clear hK K
 refine stepS _ rfl (by kernel_rfl) (fun K hK => ?_); go_simp
 refine ⟨?_, ?_⟩
 ·intro wk hk hg hu; go_simp; refine upon_enter ((kO.out _).mono ?_); rintro e w' ⟨rfl, hb⟩; exact ⟨_, rfl, left_V (p := fun u => u = .tuple #[.agg #[.int .i64 sn, .bool st, .int .i64 sa, .bool se, .int .i64 sh, .bool sc], .bool b0]) rfl (hb) rfl⟩
 rintro ⟨v2, lo2, hi2⟩ - - (rfl : v2 = _)
 refine hK _ _ ?_; clear hK K
 iterate 3 (refine stepK rfl (by kernel_rfl) (fun K hK => ?_); go_simp; apply Exists.intro; apply And.intro; (focus (intro wk hk; go_simp; exact ⟨rfl, rfl⟩)); refine hK _ _ ?_; clear hK K)
 refine stepS _ rfl (by kernel_rfl) (fun K hK => ?_); go_simp
 refine ⟨?_, ?_⟩
 ·intro wk hk hg hu; go_simp; exact left_A rfl rfl
 rintro ⟨v6, lo6, hi6⟩ hlo6 hhi6 ⟨e6, f6⟩
 replace e6 : v6 = .pointer (some ⟨lo6, 0, none⟩) := e6; replace f6 : hi6 = lo6 + 1 := f6; replace hlo6 : _ ≤ lo6 := hlo6; subst e6; subst f6
 refine hK _ _ ?_; clear hK K
 refine stepS _ rfl (by kernel_rfl) (fun K hK => ?_); go_simp
 refine ⟨?_, ?_⟩
 ·exact sStoreT rfl rfl rfl rfl rfl rfl rfl (by kernel_rfl) rfl (by kernel_rfl) (by decide) aggOf_congr
 rintro ⟨v7, lo7, hi7⟩ - - (rfl : v7 = undef)
 refine hK _ _ ?_; clear hK K
 refine stepK rfl (by kernel_rfl) (fun K hK => ?_); go_simp
 apply Exists.intro; apply And.intro; (focus (intro wk hk; go_simp; exact ⟨rfl, rfl⟩)); refine hK _ _ ?_; clear hK K
 refine stepN ?_
 refine hQ _ _ ?_
 intro w1 hT hG hF
 have hb1 := hT.below
 have r3 : Row w1 lo6 118 (#[.int .i64 sn, .bool st, .int .i64 sa, .bool se, .int .i64 sh, .bool sc]) := (hF 7 _ rfl rfl (by decide)).2
 have hl := hl.trans (hb1.mono hl.size)
 have r1 := r1.below hb1 r1.lt
 clear hT hG hF hQ QQ L hb1 kO hhi6 hlo6
 have HL := Lib.hid (show Below w.heap.size w w1 ∧ Row w1 w.heap.size 116 ct ∧ Row w1 lo6 118 (#[.int .i64 sn, .bool st, .int .i64 sa, .bool se, .int .i64 sh, .bool sc]) from ⟨hl, r1, r3⟩)
 have d1 := (r1.cell 1).trans x1
 have d2 := (r1.cell 2).trans x2
 have d3 := (r1.cell 3).trans x3
 have d4 := (r1.cell 4).trans x4
 have e0 := r3.cell 0
 have e1 := r3.cell 1
 have e2 := r3.cell 2
 have e3 := r3.cell 3
 have e4 := r3.cell 4
 clear hl r1 r3
 cases b0
 ·have hbb := HB.out.1 (.inl rfl)
  subst hbb
  clear HB HN1 HA1 HET kG kS
  go_wp2_with fail
  go_ret
  exact ⟨rfl, HL.out.1⟩
 by_cases hf1 : tf < 1
 ·have hbb := HB.out.1 (.inr (.inl hf1))
  subst hbb
  clear HB HN1 HA1 HET kG kS
  go_wp2_with fail
  go_ret
  exact ⟨rfl, HL.out.1⟩
 have hf1' : 1 ≤ tf := by omega
 clear hf1
 by_cases hf2 : 4294967295 < tf
 ·have hbb := HB.out.1 (.inr (.inr (.inl hf2)))
  subst hbb
  clear HB HN1 HA1 HET kG kS
  go_wp2_with fail
  go_ret
  exact ⟨rfl, HL.out.1⟩
 have hf2' : tf ≤ 4294967295 := by omega
 clear hf2
 by_cases hh : (nH : Int) = sh
 case neg =>
  have qh : ((nH : Int) != sh) = true := by rw [bne_iff_ne]; exact hh
  have hbb := HB.out.1 (.inr (.inr (.inr (.inl hh))))
  subst hbb
  clear HB HN1 HA1 HET kG kS hh
  go_wp2_with fail
  go_ret
  exact ⟨rfl, HL.out.1⟩
 have qh : ((nH : Int) != sh) = false := by rw [hh]; exact bne_self_eq_false _
 have HH := Lib.hid hh
 clear hh
 cases st
 · -- no tail
  have hse : se = false := by cases se; rfl; exact absurd (HET.out rfl) (by decide)
  subst hse
  by_cases hT0 : T = 0
  case neg =>
   have qT : (T != 0) = true := by rw [bne_iff_ne]; exact hT0
   have hbb := HB.out.1 (.inr (.inr (.inr (.inr (.inl ⟨rfl, hT0⟩)))))
   subst hbb
   clear HB HN1 HA1 HET kG kS hT0 HH
   go_wp2_with fail
   go_ret
   exact ⟨rfl, HL.out.1⟩
  have qT : (T != 0) = false := by rw [hT0]; rfl
  have HT0 := Lib.hid hT0
  clear hT0
  by_cases hA : (nA : Int) = sa
  case neg =>
   have qA : ((nA : Int) != sa) = true := by rw [bne_iff_ne]; exact hA
   have hbb := HB.out.1 (.inr (.inr (.inr (.inr (.inr (.inr (.inr (.inl ⟨rfl, hA⟩))))))))
   subst hbb
   clear HB HN1 HA1 HET kG kS hA HH HT0
   go_wp2_with fail
   go_ret
   exact ⟨rfl, HL.out.1⟩
  have qA : ((nA : Int) != sa) = false := by rw [hA]; exact bne_self_eq_false _
  have HAs := Lib.hid hA
  clear hA
  have HB2 := Lib.hid (show (b3 = false ∨ b4 = false → BB = false) ∧ (b3 = true → b4 = true → (if sc = true then b5 else b6) = BB) from ⟨fun h => HB.out.1 (.inr (.inr (.inr (.inr (.inr (.inr (.inr (.inr h)))))))), fun h3 h4 => HB.out.2 rfl hf1' hf2' HH.out (fun _ => HT0.out) (fun h => (by cases h)) (fun h => (by cases h)) (fun _ => HAs.out) h3 h4⟩)
  clear HB HET
  go_wp2_with fail
  clear d1 d2 d3 d4 e0 e1 e2 e3 e4
  go_loopg [6, 7, 86] m (fun gg s6 s7 s86 wr => ∃ i : Nat, i + gg = m ∧ s86 = .int .i64 (i : Int) ∧ Hid (∀ j, j < i → numJ sn ln j) ∧ Hid (Below w.heap.size w wr ∧ Row wr w.heap.size 116 ct ∧ Row wr lo6 118 (#[.int .i64 sn, .bool false, .int .i64 sa, .bool false, .int .i64 sh, .bool sc])))
  case atStart => exact ⟨0, by omega, rfl, Lib.hid (fun j h => absurd h (Nat.not_lt_zero j)), HL⟩
  case round =>
   clear HL
   obtain ⟨i, him, rfl, hall, hinv⟩ := hrel
   by_cases hi : i < m
   ·obtain ⟨x, hx⟩ : ∃ x, ln[i]? = some x := ⟨_, List.getElem?_eq_getElem (by have := HN1.out.2.1; omega)⟩
    have hiln : i < ln.length := (List.getElem?_eq_some_iff.1 hx).1
    obtain ⟨gx, ox, cx', hu, hgx, hcx⟩ := (HN1.out.1.below hinv.out.1).get hx
    simp only [Value.slice.injEq] at hu
    obtain ⟨rfl, -, -⟩ := hu
    have cx0 : wr.cell? ⟨gx, ox + i, none⟩ = some (.int .i64 x) := by have h := hcx 0 _ rfl; simpa using h
    have hDx := Lib.hid (show ln.getD i 0 = x ∧ i < ln.length from ⟨get_D hx, hiln⟩)
    have hlt : (i : Int) < (m : Int) := by omega
    have d2 := (hinv.out.2.1.cell 2).trans x2
    have e0 := hinv.out.2.2.cell 0
    clear hcx hiln hx
    by_cases hx1 : x < 0
    ·have hbb := HB2.out.1 (.inl (by rw [← HN1.out.2.2.1]; exact nums_no hDx.out.2 (fun h => by have := h.1; rw [hDx.out.1] at this; omega)))
     subst hbb
     clear HN1 HA1 hall hDx kG kS HB2 hgx
     go_wp2_with fail
     go_ret
     exact ⟨rfl, hinv.out.1⟩
    have hx1' : 0 ≤ x := by omega
    clear hx1
    by_cases hx2 : 1099511627776 < x
    ·have hbb := HB2.out.1 (.inl (by rw [← HN1.out.2.2.1]; exact nums_no hDx.out.2 (fun h => by have := h.1; rw [hDx.out.1] at this; omega)))
     subst hbb
     clear HN1 HA1 hall hDx kG kS HB2 hgx
     go_wp2_with fail
     go_ret
     exact ⟨rfl, hinv.out.1⟩
    have hx2' : x ≤ 1099511627776 := by omega
    clear hx2
    by_cases hg : sn < (i : Int)
    case neg =>
     have hnext := Lib.hid (show ∀ j, j < i + 1 → numJ sn ln j from fun j hj => by
      rcases Nat.lt_or_ge j i with h | h
      ·exact hall.out j h
      ·obtain rfl : j = i := by omega
       exact ⟨by rw [hDx.out.1]; exact ⟨hx1', hx2'⟩, fun h2 => absurd h2 hg⟩)
     clear hall hDx hgx
     go_wp2_with fail
     go_roundg (gk - 1)
     case measure => omega
     case rel => exact ⟨i + 1, by omega, by go_num, hnext, hinv⟩
    obtain ⟨k, hk⟩ : ∃ k, i = k + 1 := ⟨i - 1, by have := HN1.out.2.2.2; omega⟩
    obtain ⟨y, hy⟩ : ∃ y, ln[k]? = some y := ⟨_, List.getElem?_eq_getElem (by have := HN1.out.2.1; omega)⟩
    obtain ⟨gy, oy, cy', hu, hgy, hcy⟩ := (HN1.out.1.below hinv.out.1).get hy
    simp only [Value.slice.injEq, Option.some.injEq, Addr.mk.injEq] at hu
    obtain ⟨⟨rfl, rfl, -⟩, -, -⟩ := hu
    have cy0 : wr.cell? ⟨gx, ox + k, none⟩ = some (.int .i64 y) := by have h := hcy 0 _ rfl; simpa using h
    have wJ : IntKind.i64.wrap ((i : Int) - 1) = (k : Int) := by rw [IntKind.wrap_i64]; omega
    have hkm : (k : Int) < (m : Int) := by omega
    have hDy := Lib.hid (show ln.getD (i - 1) 0 = y by rw [hk]; exact get_D hy)
    clear hcy hy hgy hgx
    by_cases hxy : x ≤ y
    ·have hbb := HB2.out.1 (.inl (by rw [← HN1.out.2.2.1]; exact nums_no hDx.out.2 (fun h => by have := h.2 hg; rw [hDx.out.1, hDy.out] at this; omega)))
     subst hbb
     clear HN1 HA1 hall hDx hDy kG kS HB2 hk
     go_wp2_with fail
     go_ret
     exact ⟨rfl, hinv.out.1⟩
    ·have hnext := Lib.hid (show ∀ j, j < i + 1 → numJ sn ln j from fun j hj => by
      rcases Nat.lt_or_ge j i with h | h
      ·exact hall.out j h
      ·obtain rfl : j = i := by omega
       exact ⟨by rw [hDx.out.1]; exact ⟨hx1', hx2'⟩, fun h2 => by rw [hDx.out.1, hDy.out]; omega⟩)
     clear hall hDx hDy hk
     go_wp2_with fail
     go_roundg (gk - 1)
     case measure => omega
     case rel => exact ⟨i + 1, by omega, by go_num, hnext, hinv⟩
   ·obtain rfl : i = m := by omega
    have hlt : ¬ (i : Int) < (i : Int) := by omega
    have HB3 := Lib.hid (show (b4 = false → BB = false) ∧ (b4 = true → (if sc = true then b5 else b6) = BB) from ⟨fun h => HB2.out.1 (.inr h), HB2.out.2 (by rw [← HN1.out.2.2.1]; exact nums_yes (fun j hj => hall.out j (by have := HN1.out.2.1; omega)))⟩)
    have d3 := (hinv.out.2.1.cell 3).trans x3
    have HL := hinv
    clear hall HN1 HB2 hinv
    go_wp2_with fail
    clear d3
    go_loopg [117] nA (fun gg s117 wr => ∃ i : Nat, i + gg = nA ∧ s117 = .int .i64 (i : Int) ∧ Hid (∀ (j : Nat) (x : Nat), j < i → la[j]? = some x → okA x = true) ∧ Hid (Below w.heap.size w wr ∧ Row wr w.heap.size 116 ct ∧ Row wr lo6 118 (#[.int .i64 sn, .bool false, .int .i64 sa, .bool false, .int .i64 sh, .bool sc])))
    case atStart => exact ⟨0, by omega, rfl, Lib.hid (fun j e h => absurd h (Nat.not_lt_zero j)), HL⟩
    case round =>
     clear HL
     obtain ⟨i2, him2, rfl, hall, hinv⟩ := hrel
     by_cases hi2 : i2 < nA
     ·obtain ⟨x, hx⟩ : ∃ x, la[i2]? = some x := ⟨_, List.getElem?_eq_getElem (by have := HA1.out.2.2.1; omega)⟩
      obtain ⟨gx, ox, cx', hu, hgx, hcx⟩ := (HA1.out.1.below hinv.out.1).elem hx
      simp only [Value.slice.injEq] at hu
      obtain ⟨rfl, -, -⟩ := hu
      have ka := fun wx => refAmountU (HA1.out.2.1 x (List.mem_of_getElem? hx)) wx
      obtain ⟨bz, hbz⟩ : ∃ b, okA x = b := ⟨_, rfl⟩
      have hbz' : decide (x < M2) = bz := hbz
      simp only [hbz'] at ka
      obtain ⟨Y, hY⟩ : ∃ Y, W4 x = Y := ⟨_, rfl⟩
      have hYsz := W4_size x
      have hYone := W4_one_ x
      simp only [hY] at ka
      rw [hY] at hYsz hYone hcx
      have hinf := info31 hYsz
      replace ka := Lib.hid ka
      have HO := Lib.hid (show _ ∧ _ from ⟨hbz, hx⟩)
      clear hY hbz hbz' hx
      have hlt2 : (i2 : Int) < (nA : Int) := by omega
      go_upto_region 17 with (fail)
      let L : List Sp := [sA 2 31 [3] #[.int .u64 0, .int .u64 0, .int .u64 0, .int .u64 0], sT 3 2 31 [1] (fun g => aggOf g 1)]
      refine wp_region_six0 (shs L) (look6 L) (None_) (by kernel_rfl) (by kernel_rfl) (mk_St L [] [] (by kernel_rfl) (by kernel_rfl) ⟨ok_A, ok_T aggOf_congr, trivial⟩ (by simp)) ?_
      intro QQ hQ
      refine stepK rfl (by kernel_rfl) (fun K hK => ?_); go_simp
      apply Exists.intro; apply And.intro; (focus (intro wk hk; go_simp; exact ⟨rfl, rfl⟩)); refine hK _ _ ?_; clear hK K
      refine stepK rfl (by kernel_rfl) (fun K hK => ?_); go_simp
      apply Exists.intro; apply And.intro; (focus exact kLoadA rfl rfl aggT31 hcx hYsz hgx id); refine hK _ _ ?_; clear hK K
      refine stepS _ rfl (by kernel_rfl) (fun K hK => ?_); go_simp
      refine ⟨?_, ?_⟩
      ·intro wk hk hg hu; go_simp; exact left_A rfl rfl
      rintro ⟨v2, lo2, hi2⟩ hlo2 hhi2 ⟨e2, f2⟩
      replace e2 : v2 = .pointer (some ⟨lo2, 0, none⟩) := e2; replace f2 : hi2 = lo2 + 1 := f2; replace hlo2 : _ ≤ lo2 := hlo2; subst e2; subst f2
      refine hK _ _ ?_; clear hK K
      refine stepS _ rfl (by kernel_rfl) (fun K hK => ?_); go_simp
      refine ⟨?_, ?_⟩
      ·exact sStoreT rfl rfl rfl rfl rfl rfl rfl hinf hYsz.symm hYone (by decide) aggOf_congr
      rintro ⟨v3, lo3, hi3⟩ - - (rfl : v3 = undef)
      refine hK _ _ ?_; clear hK K
      refine stepN ?_
      refine hQ _ _ ?_
      intro w4 hT hG hF
      have hbw4 := hT.below
      have rY : Row w4 lo2 31 Y := (hF 3 _ rfl rfl (by decide)).2
      clear hT hG hF hQ QQ L hcx hgx
      have HL4 := Lib.hid (show Below w.heap.size w w4 ∧ Row w4 w.heap.size 116 ct ∧ Row w4 lo6 118 (#[.int .i64 sn, .bool false, .int .i64 sa, .bool false, .int .i64 sh, .bool sc]) from ⟨hinv.out.1.trans (hbw4.mono hinv.out.1.size), hinv.out.2.1.below hbw4 hinv.out.2.1.lt, hinv.out.2.2.below hbw4 hinv.out.2.2.lt⟩)
      clear hinv hbw4 hYone hinf
      go_upto_region 18 with (fail)
      let L : List Sp := [sV 1 [] [] (fun u => u = .bool bz)]
      refine wp_region_six0 (shs L) (look6 L) (None_) (by kernel_rfl) (by kernel_rfl) (mk_St L [] [] (by kernel_rfl) (by kernel_rfl) ⟨ok_V ⟨_, rfl⟩, trivial⟩ (by simp)) ?_
      intro QQ hQ
      refine stepK rfl (by kernel_rfl) (fun K hK => ?_); go_simp
      apply Exists.intro; apply And.intro; (focus exact kLoad rfl rfl aggT31 rY hYsz id); refine hK _ _ ?_; clear hK K
      refine stepS _ rfl (by kernel_rfl) (fun K hK => ?_); go_simp
      refine ⟨?_, ?_⟩
      ·intro wk hk hg hu; go_simp; refine upon_enter ((ka.out _).mono ?_); rintro e w' ⟨rfl, hb⟩; exact ⟨_, rfl, left_V (p := fun u => u = .bool bz) rfl (hb) rfl⟩
      rintro ⟨v1, lo1, hi1⟩ - - (rfl : v1 = _)
      refine hK _ _ ?_; clear hK K
      refine stepK rfl (by kernel_rfl) (fun K hK => ?_); go_simp
      apply Exists.intro; apply And.intro; (focus (intro wk hk; go_simp; exact ⟨rfl, rfl⟩)); refine hK _ _ ?_; clear hK K
      refine stepN ?_
      refine hQ _ _ ?_
      intro w5 hT hG hF
      have hb5 := hT.below
      have HL5 := Lib.hid (show Below w.heap.size w w5 ∧ Row w5 w.heap.size 116 ct ∧ Row w5 lo6 118 (#[.int .i64 sn, .bool false, .int .i64 sa, .bool false, .int .i64 sh, .bool sc]) from ⟨HL4.out.1.trans (hb5.mono HL4.out.1.size), HL4.out.2.1.below hb5 HL4.out.2.1.lt, HL4.out.2.2.below hb5 HL4.out.2.2.lt⟩)
      clear hT hG hF hQ QQ L HL4 rY hb5 ka hYsz
      cases bz
      ·have hbb := HB3.out.1 (by rw [← HA1.out.2.2.2]; exact all_not HO.out.2 HO.out.1)
       subst hbb
       clear hall HA1 HO kG kS HB3
       go_wp2_with fail
       go_ret
       exact ⟨rfl, HL5.out.1⟩
      ·go_wp2_with fail
       go_roundg (gk - 1)
       case measure => omega
       case rel =>
        refine ⟨i2 + 1, by omega, by go_num, Lib.hid fun j e hj hje => ?_, HL5⟩
        rcases Nat.lt_or_ge j i2 with h | h
        ·exact hall.out j e h hje
        ·obtain rfl : j = i2 := by omega
         have h1 := HO.out.2.symm.trans hje
         injection h1 with h1
         rw [← h1]
         exact HO.out.1
     ·obtain rfl : i2 = nA := by omega
      have hlt2 : ¬ (i2 : Int) < (i2 : Int) := by omega
      have hbx := Lib.hid (HB3.out.2 (by rw [← HA1.out.2.2.2]; exact all_all (fun j e hj hje => hall.out j e (by have := HA1.out.2.2.1; omega) hje)))
      clear hall HA1 HB3
      have e5 := hinv.out.2.2.cell 5
      cases sc
      ·have hbx' : b6 = BB := by have h := hbx.out; simpa using h
       subst hbx'
       clear hbx
       go_upto_region 23 with (fail)
       have hl := hinv.out.1
       have r1 := hinv.out.2.1
       clear hinv e5 kG
       let L : List Sp := [sV 3 [] [] (fun u => u = .bool b6)]
       refine wp_region_six0 (shs L) (look6 L) (None_) (by kernel_rfl) (by kernel_rfl) (mk_St L [] [] (by kernel_rfl) (by kernel_rfl) ⟨ok_V ⟨_, rfl⟩, trivial⟩ (by simp)) ?_
       intro QQ hQ
       refine stepK rfl (by kernel_rfl) (fun K hK => ?_); go_simp
       apply Exists.intro; apply And.intro; (focus (intro wk hk; go_simp; exact ⟨rfl, rfl⟩)); refine hK _ _ ?_; clear hK K
       refine stepK rfl (by kernel_rfl) (fun K hK => ?_); go_simp
       apply Exists.intro; apply And.intro; (focus exact kLoadMid rfl rfl aggT114 r1 hmid hcsz id); refine hK _ _ ?_; clear hK K
       refine stepK rfl (by kernel_rfl) (fun K hK => ?_); go_simp
       apply Exists.intro; apply And.intro; (focus (intro wk hk; go_simp; exact ⟨rfl, rfl⟩)); refine hK _ _ ?_; clear hK K
       refine stepS _ rfl (by kernel_rfl) (fun K hK => ?_); go_simp
       refine ⟨?_, ?_⟩
       ·intro wk hk hg hu; go_simp; refine upon_enter ((kS.out _ (hl.trans (hk.below.mono hl.size))).mono ?_); rintro e w' ⟨rfl, hb⟩; exact ⟨_, rfl, left_V (p := fun u => u = .bool b6) rfl (hb) rfl⟩
       rintro ⟨v3, lo3, hi3⟩ - - (rfl : v3 = _)
       refine hK _ _ ?_; clear hK K
       refine stepK rfl (by kernel_rfl) (fun K hK => ?_); go_simp
       apply Exists.intro; apply And.intro; (focus (intro wk hk; go_simp; exact ⟨rfl, rfl⟩)); refine hK _ _ ?_; clear hK K
       refine stepN ?_
       refine hQ _ _ ?_
       intro w9 hT hG hF
       have H9 := Lib.hid (hl.trans (hT.below.mono hl.size))
       clear hT hG hF hQ QQ L hl r1
       go_wp2_with fail
       go_ret
       exact ⟨by first | rfl | (simp; done), H9.out⟩
      ·have hbx' : b5 = BB := by have h := hbx.out; simpa using h
       subst hbx'
       clear hbx
       go_upto_region 22 with (fail)
       have hl := hinv.out.1
       have r1 := hinv.out.2.1
       clear hinv e5 kS
       let L : List Sp := [sV 2 [] [] (fun u => u = .bool b5)]
       refine wp_region_six0 (shs L) (look6 L) (None_) (by kernel_rfl) (by kernel_rfl) (mk_St L [] [] (by kernel_rfl) (by kernel_rfl) ⟨ok_V ⟨_, rfl⟩, trivial⟩ (by simp)) ?_
       intro QQ hQ
       refine stepK rfl (by kernel_rfl) (fun K hK => ?_); go_simp
       apply Exists.intro; apply And.intro; (focus (intro wk hk; go_simp; exact ⟨rfl, rfl⟩)); refine hK _ _ ?_; clear hK K
       refine stepK rfl (by kernel_rfl) (fun K hK => ?_); go_simp
       apply Exists.intro; apply And.intro; (focus exact kLoadMid rfl rfl aggT114 r1 hmid hcsz id); refine hK _ _ ?_; clear hK K
       refine stepS _ rfl (by kernel_rfl) (fun K hK => ?_); go_simp
       refine ⟨?_, ?_⟩
       ·intro wk hk hg hu; go_simp; refine upon_enter ((kG.out _ (hl.trans (hk.below.mono hl.size))).mono ?_); rintro e w' ⟨rfl, hb⟩; exact ⟨_, rfl, left_V (p := fun u => u = .bool b5) rfl (hb) rfl⟩
       rintro ⟨v2, lo2, hi2⟩ - - (rfl : v2 = _)
       refine hK _ _ ?_; clear hK K
       refine stepK rfl (by kernel_rfl) (fun K hK => ?_); go_simp
       apply Exists.intro; apply And.intro; (focus (intro wk hk; go_simp; exact ⟨rfl, rfl⟩)); refine hK _ _ ?_; clear hK K
       refine stepN ?_
       refine hQ _ _ ?_
       intro w9 hT hG hF
       have H9 := Lib.hid (hl.trans (hT.below.mono hl.size))
       clear hT hG hF hQ QQ L hl r1
       go_wp2_with fail
       go_ret
       exact ⟨by first | rfl | (simp; done), H9.out⟩
 ·by_cases hT1 : T < 1
  ·have hbb := HB.out.1 (.inr (.inr (.inr (.inr (.inr (.inl ⟨rfl, .inl hT1⟩))))))
   subst hbb
   clear HB HN1 HA1 HET kG kS HH
   go_wp2_with fail
   go_ret
   exact ⟨rfl, HL.out.1⟩
  have hT1' : 1 ≤ T := by omega
  clear hT1
  by_cases hT8 : 8 < T
  ·have hbb := HB.out.1 (.inr (.inr (.inr (.inr (.inr (.inl ⟨rfl, .inr hT8⟩))))))
   subst hbb
   clear HB HN1 HA1 HET kG kS HH
   go_wp2_with fail
   go_ret
   exact ⟨rfl, HL.out.1⟩
  have hT8' : T ≤ 8 := by omega
  clear hT8
  cases se
  ·by_cases hA : (nA : Int) = sa
   case neg =>
    have qA : ((nA : Int) != sa) = true := by rw [bne_iff_ne]; exact hA
    have hbb := HB.out.1 (.inr (.inr (.inr (.inr (.inr (.inr (.inr (.inl ⟨rfl, hA⟩))))))))
    subst hbb
    clear HB HN1 HA1 HET kG kS hA HH
    go_wp2_with fail
    go_ret
    exact ⟨rfl, HL.out.1⟩
   have qA : ((nA : Int) != sa) = false := by rw [hA]; exact bne_self_eq_false _
   have HAs := Lib.hid hA
   clear hA
   have HB2 := Lib.hid (show (b3 = false ∨ b4 = false → BB = false) ∧ (b3 = true → b4 = true → (if sc = true then b5 else b6) = BB) from ⟨fun h => HB.out.1 (.inr (.inr (.inr (.inr (.inr (.inr (.inr (.inr h)))))))), fun h3 h4 => HB.out.2 rfl hf1' hf2' HH.out (fun h => (by cases h)) (fun _ => ⟨hT1', hT8'⟩) (fun h => (by cases h)) (fun _ => HAs.out) h3 h4⟩)
   clear HB HET
   go_wp2_with fail
   clear d1 d2 d3 d4 e0 e1 e2 e3 e4
   go_loopg [6, 7, 86] m (fun gg s6 s7 s86 wr => ∃ i : Nat, i + gg = m ∧ s86 = .int .i64 (i : Int) ∧ Hid (∀ j, j < i → numJ sn ln j) ∧ Hid (Below w.heap.size w wr ∧ Row wr w.heap.size 116 ct ∧ Row wr lo6 118 (#[.int .i64 sn, .bool true, .int .i64 sa, .bool false, .int .i64 sh, .bool sc])))
   case atStart => exact ⟨0, by omega, rfl, Lib.hid (fun j h => absurd h (Nat.not_lt_zero j)), HL⟩
   case round =>
    clear HL
    obtain ⟨i, him, rfl, hall, hinv⟩ := hrel
    by_cases hi : i < m
    ·obtain ⟨x, hx⟩ : ∃ x, ln[i]? = some x := ⟨_, List.getElem?_eq_getElem (by have := HN1.out.2.1; omega)⟩
     have hiln : i < ln.length := (List.getElem?_eq_some_iff.1 hx).1
     obtain ⟨gx, ox, cx', hu, hgx, hcx⟩ := (HN1.out.1.below hinv.out.1).get hx
     simp only [Value.slice.injEq] at hu
     obtain ⟨rfl, -, -⟩ := hu
     have cx0 : wr.cell? ⟨gx, ox + i, none⟩ = some (.int .i64 x) := by have h := hcx 0 _ rfl; simpa using h
     have hDx := Lib.hid (show ln.getD i 0 = x ∧ i < ln.length from ⟨get_D hx, hiln⟩)
     have hlt : (i : Int) < (m : Int) := by omega
     have d2 := (hinv.out.2.1.cell 2).trans x2
     have e0 := hinv.out.2.2.cell 0
     clear hcx hiln hx
     by_cases hx1 : x < 0
     ·have hbb := HB2.out.1 (.inl (by rw [← HN1.out.2.2.1]; exact nums_no hDx.out.2 (fun h => by have := h.1; rw [hDx.out.1] at this; omega)))
      subst hbb
      clear HN1 HA1 hall hDx kG kS HB2 hgx
      go_wp2_with fail
      go_ret
      exact ⟨rfl, hinv.out.1⟩
     have hx1' : 0 ≤ x := by omega
     clear hx1
     by_cases hx2 : 1099511627776 < x
     ·have hbb := HB2.out.1 (.inl (by rw [← HN1.out.2.2.1]; exact nums_no hDx.out.2 (fun h => by have := h.1; rw [hDx.out.1] at this; omega)))
      subst hbb
      clear HN1 HA1 hall hDx kG kS HB2 hgx
      go_wp2_with fail
      go_ret
      exact ⟨rfl, hinv.out.1⟩
     have hx2' : x ≤ 1099511627776 := by omega
     clear hx2
     by_cases hg : sn < (i : Int)
     case neg =>
      have hnext := Lib.hid (show ∀ j, j < i + 1 → numJ sn ln j from fun j hj => by
       rcases Nat.lt_or_ge j i with h | h
       ·exact hall.out j h
       ·obtain rfl : j = i := by omega
        exact ⟨by rw [hDx.out.1]; exact ⟨hx1', hx2'⟩, fun h2 => absurd h2 hg⟩)
      clear hall hDx hgx
      go_wp2_with fail
      go_roundg (gk - 1)
      case measure => omega
      case rel => exact ⟨i + 1, by omega, by go_num, hnext, hinv⟩
     obtain ⟨k, hk⟩ : ∃ k, i = k + 1 := ⟨i - 1, by have := HN1.out.2.2.2; omega⟩
     obtain ⟨y, hy⟩ : ∃ y, ln[k]? = some y := ⟨_, List.getElem?_eq_getElem (by have := HN1.out.2.1; omega)⟩
     obtain ⟨gy, oy, cy', hu, hgy, hcy⟩ := (HN1.out.1.below hinv.out.1).get hy
     simp only [Value.slice.injEq, Option.some.injEq, Addr.mk.injEq] at hu
     obtain ⟨⟨rfl, rfl, -⟩, -, -⟩ := hu
     have cy0 : wr.cell? ⟨gx, ox + k, none⟩ = some (.int .i64 y) := by have h := hcy 0 _ rfl; simpa using h
     have wJ : IntKind.i64.wrap ((i : Int) - 1) = (k : Int) := by rw [IntKind.wrap_i64]; omega
     have hkm : (k : Int) < (m : Int) := by omega
     have hDy := Lib.hid (show ln.getD (i - 1) 0 = y by rw [hk]; exact get_D hy)
     clear hcy hy hgy hgx
     by_cases hxy : x ≤ y
     ·have hbb := HB2.out.1 (.inl (by rw [← HN1.out.2.2.1]; exact nums_no hDx.out.2 (fun h => by have := h.2 hg; rw [hDx.out.1, hDy.out] at this; omega)))
      subst hbb
      clear HN1 HA1 hall hDx hDy kG kS HB2 hk
      go_wp2_with fail
      go_ret
      exact ⟨rfl, hinv.out.1⟩
     ·have hnext := Lib.hid (show ∀ j, j < i + 1 → numJ sn ln j from fun j hj => by
       rcases Nat.lt_or_ge j i with h | h
       ·exact hall.out j h
       ·obtain rfl : j = i := by omega
        exact ⟨by rw [hDx.out.1]; exact ⟨hx1', hx2'⟩, fun h2 => by rw [hDx.out.1, hDy.out]; omega⟩)
      clear hall hDx hDy hk
      go_wp2_with fail
      go_roundg (gk - 1)
      case measure => omega
      case rel => exact ⟨i + 1, by omega, by go_num, hnext, hinv⟩
    ·obtain rfl : i = m := by omega
     have hlt : ¬ (i : Int) < (i : Int) := by omega
     have HB3 := Lib.hid (show (b4 = false → BB = false) ∧ (b4 = true → (if sc = true then b5 else b6) = BB) from ⟨fun h => HB2.out.1 (.inr h), HB2.out.2 (by rw [← HN1.out.2.2.1]; exact nums_yes (fun j hj => hall.out j (by have := HN1.out.2.1; omega)))⟩)
     have d3 := (hinv.out.2.1.cell 3).trans x3
     have HL := hinv
     clear hall HN1 HB2 hinv
     go_wp2_with fail
     clear d3
     go_loopg [117] nA (fun gg s117 wr => ∃ i : Nat, i + gg = nA ∧ s117 = .int .i64 (i : Int) ∧ Hid (∀ (j : Nat) (x : Nat), j < i → la[j]? = some x → okA x = true) ∧ Hid (Below w.heap.size w wr ∧ Row wr w.heap.size 116 ct ∧ Row wr lo6 118 (#[.int .i64 sn, .bool true, .int .i64 sa, .bool false, .int .i64 sh, .bool sc])))
     case atStart => exact ⟨0, by omega, rfl, Lib.hid (fun j e h => absurd h (Nat.not_lt_zero j)), HL⟩
     case round =>
      clear HL
      obtain ⟨i2, him2, rfl, hall, hinv⟩ := hrel
      by_cases hi2 : i2 < nA
      ·obtain ⟨x, hx⟩ : ∃ x, la[i2]? = some x := ⟨_, List.getElem?_eq_getElem (by have := HA1.out.2.2.1; omega)⟩
       obtain ⟨gx, ox, cx', hu, hgx, hcx⟩ := (HA1.out.1.below hinv.out.1).elem hx
       simp only [Value.slice.injEq] at hu
       obtain ⟨rfl, -, -⟩ := hu
       have ka := fun wx => refAmountU (HA1.out.2.1 x (List.mem_of_getElem? hx)) wx
       obtain ⟨bz, hbz⟩ : ∃ b, okA x = b := ⟨_, rfl⟩
       have hbz' : decide (x < M2) = bz := hbz
       simp only [hbz'] at ka
       obtain ⟨Y, hY⟩ : ∃ Y, W4 x = Y := ⟨_, rfl⟩
       have hYsz := W4_size x
       have hYone := W4_one_ x
       simp only [hY] at ka
       rw [hY] at hYsz hYone hcx
       have hinf := info31 hYsz
       replace ka := Lib.hid ka
       have HO := Lib.hid (show _ ∧ _ from ⟨hbz, hx⟩)
       clear hY hbz hbz' hx
       have hlt2 : (i2 : Int) < (nA : Int) := by omega
       go_upto_region 17 with (fail)
       let L : List Sp := [sA 2 31 [3] #[.int .u64 0, .int .u64 0, .int .u64 0, .int .u64 0], sT 3 2 31 [1] (fun g => aggOf g 1)]
       refine wp_region_six0 (shs L) (look6 L) (None_) (by kernel_rfl) (by kernel_rfl) (mk_St L [] [] (by kernel_rfl) (by kernel_rfl) ⟨ok_A, ok_T aggOf_congr, trivial⟩ (by simp)) ?_
       intro QQ hQ
       refine stepK rfl (by kernel_rfl) (fun K hK => ?_); go_simp
       apply Exists.intro; apply And.intro; (focus (intro wk hk; go_simp; exact ⟨rfl, rfl⟩)); refine hK _ _ ?_; clear hK K
       refine stepK rfl (by kernel_rfl) (fun K hK => ?_); go_simp
       apply Exists.intro; apply And.intro; (focus exact kLoadA rfl rfl aggT31 hcx hYsz hgx id); refine hK _ _ ?_; clear hK K
       refine stepS _ rfl (by kernel_rfl) (fun K hK => ?_); go_simp
       refine ⟨?_, ?_⟩
       ·intro wk hk hg hu; go_simp; exact left_A rfl rfl
       rintro ⟨v2, lo2, hi2⟩ hlo2 hhi2 ⟨e2, f2⟩
       replace e2 : v2 = .pointer (some ⟨lo2, 0, none⟩) := e2; replace f2 : hi2 = lo2 + 1 := f2; replace hlo2 : _ ≤ lo2 := hlo2; subst e2; subst f2
       refine hK _ _ ?_; clear hK K
       refine stepS _ rfl (by kernel_rfl) (fun K hK => ?_); go_simp
       refine ⟨?_, ?_⟩
       ·exact sStoreT rfl rfl rfl rfl rfl rfl rfl hinf hYsz.symm hYone (by decide) aggOf_congr
       rintro ⟨v3, lo3, hi3⟩ - - (rfl : v3 = undef)
       refine hK _ _ ?_; clear hK K
       refine stepN ?_
       refine hQ _ _ ?_
       intro w4 hT hG hF
       have hbw4 := hT.below
       have rY : Row w4 lo2 31 Y := (hF 3 _ rfl rfl (by decide)).2
       clear hT hG hF hQ QQ L hcx hgx
       have HL4 := Lib.hid (show Below w.heap.size w w4 ∧ Row w4 w.heap.size 116 ct ∧ Row w4 lo6 118 (#[.int .i64 sn, .bool true, .int .i64 sa, .bool false, .int .i64 sh, .bool sc]) from ⟨hinv.out.1.trans (hbw4.mono hinv.out.1.size), hinv.out.2.1.below hbw4 hinv.out.2.1.lt, hinv.out.2.2.below hbw4 hinv.out.2.2.lt⟩)
       clear hinv hbw4 hYone hinf
       go_upto_region 18 with (fail)
       let L : List Sp := [sV 1 [] [] (fun u => u = .bool bz)]
       refine wp_region_six0 (shs L) (look6 L) (None_) (by kernel_rfl) (by kernel_rfl) (mk_St L [] [] (by kernel_rfl) (by kernel_rfl) ⟨ok_V ⟨_, rfl⟩, trivial⟩ (by simp)) ?_
       intro QQ hQ
       refine stepK rfl (by kernel_rfl) (fun K hK => ?_); go_simp
       apply Exists.intro; apply And.intro; (focus exact kLoad rfl rfl aggT31 rY hYsz id); refine hK _ _ ?_; clear hK K
       refine stepS _ rfl (by kernel_rfl) (fun K hK => ?_); go_simp
       refine ⟨?_, ?_⟩
       ·intro wk hk hg hu; go_simp; refine upon_enter ((ka.out _).mono ?_); rintro e w' ⟨rfl, hb⟩; exact ⟨_, rfl, left_V (p := fun u => u = .bool bz) rfl (hb) rfl⟩
       rintro ⟨v1, lo1, hi1⟩ - - (rfl : v1 = _)
       refine hK _ _ ?_; clear hK K
       refine stepK rfl (by kernel_rfl) (fun K hK => ?_); go_simp
       apply Exists.intro; apply And.intro; (focus (intro wk hk; go_simp; exact ⟨rfl, rfl⟩)); refine hK _ _ ?_; clear hK K
       refine stepN ?_
       refine hQ _ _ ?_
       intro w5 hT hG hF
       have hb5 := hT.below
       have HL5 := Lib.hid (show Below w.heap.size w w5 ∧ Row w5 w.heap.size 116 ct ∧ Row w5 lo6 118 (#[.int .i64 sn, .bool true, .int .i64 sa, .bool false, .int .i64 sh, .bool sc]) from ⟨HL4.out.1.trans (hb5.mono HL4.out.1.size), HL4.out.2.1.below hb5 HL4.out.2.1.lt, HL4.out.2.2.below hb5 HL4.out.2.2.lt⟩)
       clear hT hG hF hQ QQ L HL4 rY hb5 ka hYsz
       cases bz
       ·have hbb := HB3.out.1 (by rw [← HA1.out.2.2.2]; exact all_not HO.out.2 HO.out.1)
        subst hbb
        clear hall HA1 HO kG kS HB3
        go_wp2_with fail
        go_ret
        exact ⟨rfl, HL5.out.1⟩
       ·go_wp2_with fail
        go_roundg (gk - 1)
        case measure => omega
        case rel =>
         refine ⟨i2 + 1, by omega, by go_num, Lib.hid fun j e hj hje => ?_, HL5⟩
         rcases Nat.lt_or_ge j i2 with h | h
         ·exact hall.out j e h hje
         ·obtain rfl : j = i2 := by omega
          have h1 := HO.out.2.symm.trans hje
          injection h1 with h1
          rw [← h1]
          exact HO.out.1
      ·obtain rfl : i2 = nA := by omega
       have hlt2 : ¬ (i2 : Int) < (i2 : Int) := by omega
       have hbx := Lib.hid (HB3.out.2 (by rw [← HA1.out.2.2.2]; exact all_all (fun j e hj hje => hall.out j e (by have := HA1.out.2.2.1; omega) hje)))
       clear hall HA1 HB3
       have e5 := hinv.out.2.2.cell 5
       cases sc
       ·have hbx' : b6 = BB := by have h := hbx.out; simpa using h
        subst hbx'
        clear hbx
        go_upto_region 23 with (fail)
        have hl := hinv.out.1
        have r1 := hinv.out.2.1
        clear hinv e5 kG
        let L : List Sp := [sV 3 [] [] (fun u => u = .bool b6)]
        refine wp_region_six0 (shs L) (look6 L) (None_) (by kernel_rfl) (by kernel_rfl) (mk_St L [] [] (by kernel_rfl) (by kernel_rfl) ⟨ok_V ⟨_, rfl⟩, trivial⟩ (by simp)) ?_
        intro QQ hQ
        refine stepK rfl (by kernel_rfl) (fun K hK => ?_); go_simp
        apply Exists.intro; apply And.intro; (focus (intro wk hk; go_simp; exact ⟨rfl, rfl⟩)); refine hK _ _ ?_; clear hK K
        refine stepK rfl (by kernel_rfl) (fun K hK => ?_); go_simp
        apply Exists.intro; apply And.intro; (focus exact kLoadMid rfl rfl aggT114 r1 hmid hcsz id); refine hK _ _ ?_; clear hK K
        refine stepK rfl (by kernel_rfl) (fun K hK => ?_); go_simp
        apply Exists.intro; apply And.intro; (focus (intro wk hk; go_simp; exact ⟨rfl, rfl⟩)); refine hK _ _ ?_; clear hK K
        refine stepS _ rfl (by kernel_rfl) (fun K hK => ?_); go_simp
        refine ⟨?_, ?_⟩
        ·intro wk hk hg hu; go_simp; refine upon_enter ((kS.out _ (hl.trans (hk.below.mono hl.size))).mono ?_); rintro e w' ⟨rfl, hb⟩; exact ⟨_, rfl, left_V (p := fun u => u = .bool b6) rfl (hb) rfl⟩
        rintro ⟨v3, lo3, hi3⟩ - - (rfl : v3 = _)
        refine hK _ _ ?_; clear hK K
        refine stepK rfl (by kernel_rfl) (fun K hK => ?_); go_simp
        apply Exists.intro; apply And.intro; (focus (intro wk hk; go_simp; exact ⟨rfl, rfl⟩)); refine hK _ _ ?_; clear hK K
        refine stepN ?_
        refine hQ _ _ ?_
        intro w9 hT hG hF
        have H9 := Lib.hid (hl.trans (hT.below.mono hl.size))
        clear hT hG hF hQ QQ L hl r1
        go_wp2_with fail
        go_ret
        exact ⟨by first | rfl | (simp; done), H9.out⟩
       ·have hbx' : b5 = BB := by have h := hbx.out; simpa using h
        subst hbx'
        clear hbx
        go_upto_region 22 with (fail)
        have hl := hinv.out.1
        have r1 := hinv.out.2.1
        clear hinv e5 kS
        let L : List Sp := [sV 2 [] [] (fun u => u = .bool b5)]
        refine wp_region_six0 (shs L) (look6 L) (None_) (by kernel_rfl) (by kernel_rfl) (mk_St L [] [] (by kernel_rfl) (by kernel_rfl) ⟨ok_V ⟨_, rfl⟩, trivial⟩ (by simp)) ?_
        intro QQ hQ
        refine stepK rfl (by kernel_rfl) (fun K hK => ?_); go_simp
        apply Exists.intro; apply And.intro; (focus (intro wk hk; go_simp; exact ⟨rfl, rfl⟩)); refine hK _ _ ?_; clear hK K
        refine stepK rfl (by kernel_rfl) (fun K hK => ?_); go_simp
        apply Exists.intro; apply And.intro; (focus exact kLoadMid rfl rfl aggT114 r1 hmid hcsz id); refine hK _ _ ?_; clear hK K
        refine stepS _ rfl (by kernel_rfl) (fun K hK => ?_); go_simp
        refine ⟨?_, ?_⟩
        ·intro wk hk hg hu; go_simp; refine upon_enter ((kG.out _ (hl.trans (hk.below.mono hl.size))).mono ?_); rintro e w' ⟨rfl, hb⟩; exact ⟨_, rfl, left_V (p := fun u => u = .bool b5) rfl (hb) rfl⟩
        rintro ⟨v2, lo2, hi2⟩ - - (rfl : v2 = _)
        refine hK _ _ ?_; clear hK K
        refine stepK rfl (by kernel_rfl) (fun K hK => ?_); go_simp
        apply Exists.intro; apply And.intro; (focus (intro wk hk; go_simp; exact ⟨rfl, rfl⟩)); refine hK _ _ ?_; clear hK K
        refine stepN ?_
        refine hQ _ _ ?_
        intro w9 hT hG hF
        have H9 := Lib.hid (hl.trans (hT.below.mono hl.size))
        clear hT hG hF hQ QQ L hl r1
        go_wp2_with fail
        go_ret
        exact ⟨by first | rfl | (simp; done), H9.out⟩
  ·by_cases hA : (nA : Int) = T
   case neg =>
    have qA : ((nA : Int) != T) = true := by rw [bne_iff_ne]; exact hA
    have hbb := HB.out.1 (.inr (.inr (.inr (.inr (.inr (.inr (.inl ⟨rfl, hA⟩)))))))
    subst hbb
    clear HB HN1 HA1 HET kG kS hA HH
    go_wp2_with fail
    go_ret
    exact ⟨rfl, HL.out.1⟩
   have qA : ((nA : Int) != T) = false := by rw [hA]; exact bne_self_eq_false _
   have HAs := Lib.hid hA
   clear hA
   have HB2 := Lib.hid (show (b3 = false ∨ b4 = false → BB = false) ∧ (b3 = true → b4 = true → (if sc = true then b5 else b6) = BB) from ⟨fun h => HB.out.1 (.inr (.inr (.inr (.inr (.inr (.inr (.inr (.inr h)))))))), fun h3 h4 => HB.out.2 rfl hf1' hf2' HH.out (fun h => (by cases h)) (fun _ => ⟨hT1', hT8'⟩) (fun _ => HAs.out) (fun h => (by cases h)) h3 h4⟩)
   clear HB HET
   go_wp2_with fail
   clear d1 d2 d3 d4 e0 e1 e2 e3 e4
   go_loopg [6, 7, 86] m (fun gg s6 s7 s86 wr => ∃ i : Nat, i + gg = m ∧ s86 = .int .i64 (i : Int) ∧ Hid (∀ j, j < i → numJ sn ln j) ∧ Hid (Below w.heap.size w wr ∧ Row wr w.heap.size 116 ct ∧ Row wr lo6 118 (#[.int .i64 sn, .bool true, .int .i64 sa, .bool true, .int .i64 sh, .bool sc])))
   case atStart => exact ⟨0, by omega, rfl, Lib.hid (fun j h => absurd h (Nat.not_lt_zero j)), HL⟩
   case round =>
    clear HL
    obtain ⟨i, him, rfl, hall, hinv⟩ := hrel
    by_cases hi : i < m
    ·obtain ⟨x, hx⟩ : ∃ x, ln[i]? = some x := ⟨_, List.getElem?_eq_getElem (by have := HN1.out.2.1; omega)⟩
     have hiln : i < ln.length := (List.getElem?_eq_some_iff.1 hx).1
     obtain ⟨gx, ox, cx', hu, hgx, hcx⟩ := (HN1.out.1.below hinv.out.1).get hx
     simp only [Value.slice.injEq] at hu
     obtain ⟨rfl, -, -⟩ := hu
     have cx0 : wr.cell? ⟨gx, ox + i, none⟩ = some (.int .i64 x) := by have h := hcx 0 _ rfl; simpa using h
     have hDx := Lib.hid (show ln.getD i 0 = x ∧ i < ln.length from ⟨get_D hx, hiln⟩)
     have hlt : (i : Int) < (m : Int) := by omega
     have d2 := (hinv.out.2.1.cell 2).trans x2
     have e0 := hinv.out.2.2.cell 0
     clear hcx hiln hx
     by_cases hx1 : x < 0
     ·have hbb := HB2.out.1 (.inl (by rw [← HN1.out.2.2.1]; exact nums_no hDx.out.2 (fun h => by have := h.1; rw [hDx.out.1] at this; omega)))
      subst hbb
      clear HN1 HA1 hall hDx kG kS HB2 hgx
      go_wp2_with fail
      go_ret
      exact ⟨rfl, hinv.out.1⟩
     have hx1' : 0 ≤ x := by omega
     clear hx1
     by_cases hx2 : 1099511627776 < x
     ·have hbb := HB2.out.1 (.inl (by rw [← HN1.out.2.2.1]; exact nums_no hDx.out.2 (fun h => by have := h.1; rw [hDx.out.1] at this; omega)))
      subst hbb
      clear HN1 HA1 hall hDx kG kS HB2 hgx
      go_wp2_with fail
      go_ret
      exact ⟨rfl, hinv.out.1⟩
     have hx2' : x ≤ 1099511627776 := by omega
     clear hx2
     by_cases hg : sn < (i : Int)
     case neg =>
      have hnext := Lib.hid (show ∀ j, j < i + 1 → numJ sn ln j from fun j hj => by
       rcases Nat.lt_or_ge j i with h | h
       ·exact hall.out j h
       ·obtain rfl : j = i := by omega
        exact ⟨by rw [hDx.out.1]; exact ⟨hx1', hx2'⟩, fun h2 => absurd h2 hg⟩)
      clear hall hDx hgx
      go_wp2_with fail
      go_roundg (gk - 1)
      case measure => omega
      case rel => exact ⟨i + 1, by omega, by go_num, hnext, hinv⟩
     obtain ⟨k, hk⟩ : ∃ k, i = k + 1 := ⟨i - 1, by have := HN1.out.2.2.2; omega⟩
     obtain ⟨y, hy⟩ : ∃ y, ln[k]? = some y := ⟨_, List.getElem?_eq_getElem (by have := HN1.out.2.1; omega)⟩
     obtain ⟨gy, oy, cy', hu, hgy, hcy⟩ := (HN1.out.1.below hinv.out.1).get hy
     simp only [Value.slice.injEq, Option.some.injEq, Addr.mk.injEq] at hu
     obtain ⟨⟨rfl, rfl, -⟩, -, -⟩ := hu
     have cy0 : wr.cell? ⟨gx, ox + k, none⟩ = some (.int .i64 y) := by have h := hcy 0 _ rfl; simpa using h
     have wJ : IntKind.i64.wrap ((i : Int) - 1) = (k : Int) := by rw [IntKind.wrap_i64]; omega
     have hkm : (k : Int) < (m : Int) := by omega
     have hDy := Lib.hid (show ln.getD (i - 1) 0 = y by rw [hk]; exact get_D hy)
     clear hcy hy hgy hgx
     by_cases hxy : x ≤ y
     ·have hbb := HB2.out.1 (.inl (by rw [← HN1.out.2.2.1]; exact nums_no hDx.out.2 (fun h => by have := h.2 hg; rw [hDx.out.1, hDy.out] at this; omega)))
      subst hbb
      clear HN1 HA1 hall hDx hDy kG kS HB2 hk
      go_wp2_with fail
      go_ret
      exact ⟨rfl, hinv.out.1⟩
     ·have hnext := Lib.hid (show ∀ j, j < i + 1 → numJ sn ln j from fun j hj => by
       rcases Nat.lt_or_ge j i with h | h
       ·exact hall.out j h
       ·obtain rfl : j = i := by omega
        exact ⟨by rw [hDx.out.1]; exact ⟨hx1', hx2'⟩, fun h2 => by rw [hDx.out.1, hDy.out]; omega⟩)
      clear hall hDx hDy hk
      go_wp2_with fail
      go_roundg (gk - 1)
      case measure => omega
      case rel => exact ⟨i + 1, by omega, by go_num, hnext, hinv⟩
    ·obtain rfl : i = m := by omega
     have hlt : ¬ (i : Int) < (i : Int) := by omega
     have HB3 := Lib.hid (show (b4 = false → BB = false) ∧ (b4 = true → (if sc = true then b5 else b6) = BB) from ⟨fun h => HB2.out.1 (.inr h), HB2.out.2 (by rw [← HN1.out.2.2.1]; exact nums_yes (fun j hj => hall.out j (by have := HN1.out.2.1; omega)))⟩)
     have d3 := (hinv.out.2.1.cell 3).trans x3
     have HL := hinv
     clear hall HN1 HB2 hinv
     go_wp2_with fail
     clear d3
     go_loopg [117] nA (fun gg s117 wr => ∃ i : Nat, i + gg = nA ∧ s117 = .int .i64 (i : Int) ∧ Hid (∀ (j : Nat) (x : Nat), j < i → la[j]? = some x → okA x = true) ∧ Hid (Below w.heap.size w wr ∧ Row wr w.heap.size 116 ct ∧ Row wr lo6 118 (#[.int .i64 sn, .bool true, .int .i64 sa, .bool true, .int .i64 sh, .bool sc])))
     case atStart => exact ⟨0, by omega, rfl, Lib.hid (fun j e h => absurd h (Nat.not_lt_zero j)), HL⟩
     case round =>
      clear HL
      obtain ⟨i2, him2, rfl, hall, hinv⟩ := hrel
      by_cases hi2 : i2 < nA
      ·obtain ⟨x, hx⟩ : ∃ x, la[i2]? = some x := ⟨_, List.getElem?_eq_getElem (by have := HA1.out.2.2.1; omega)⟩
       obtain ⟨gx, ox, cx', hu, hgx, hcx⟩ := (HA1.out.1.below hinv.out.1).elem hx
       simp only [Value.slice.injEq] at hu
       obtain ⟨rfl, -, -⟩ := hu
       have ka := fun wx => refAmountU (HA1.out.2.1 x (List.mem_of_getElem? hx)) wx
       obtain ⟨bz, hbz⟩ : ∃ b, okA x = b := ⟨_, rfl⟩
       have hbz' : decide (x < M2) = bz := hbz
       simp only [hbz'] at ka
       obtain ⟨Y, hY⟩ : ∃ Y, W4 x = Y := ⟨_, rfl⟩
       have hYsz := W4_size x
       have hYone := W4_one_ x
       simp only [hY] at ka
       rw [hY] at hYsz hYone hcx
       have hinf := info31 hYsz
       replace ka := Lib.hid ka
       have HO := Lib.hid (show _ ∧ _ from ⟨hbz, hx⟩)
       clear hY hbz hbz' hx
       have hlt2 : (i2 : Int) < (nA : Int) := by omega
       go_upto_region 17 with (fail)
       let L : List Sp := [sA 2 31 [3] #[.int .u64 0, .int .u64 0, .int .u64 0, .int .u64 0], sT 3 2 31 [1] (fun g => aggOf g 1)]
       refine wp_region_six0 (shs L) (look6 L) (None_) (by kernel_rfl) (by kernel_rfl) (mk_St L [] [] (by kernel_rfl) (by kernel_rfl) ⟨ok_A, ok_T aggOf_congr, trivial⟩ (by simp)) ?_
       intro QQ hQ
       refine stepK rfl (by kernel_rfl) (fun K hK => ?_); go_simp
       apply Exists.intro; apply And.intro; (focus (intro wk hk; go_simp; exact ⟨rfl, rfl⟩)); refine hK _ _ ?_; clear hK K
       refine stepK rfl (by kernel_rfl) (fun K hK => ?_); go_simp
       apply Exists.intro; apply And.intro; (focus exact kLoadA rfl rfl aggT31 hcx hYsz hgx id); refine hK _ _ ?_; clear hK K
       refine stepS _ rfl (by kernel_rfl) (fun K hK => ?_); go_simp
       refine ⟨?_, ?_⟩
       ·intro wk hk hg hu; go_simp; exact left_A rfl rfl
       rintro ⟨v2, lo2, hi2⟩ hlo2 hhi2 ⟨e2, f2⟩
       replace e2 : v2 = .pointer (some ⟨lo2, 0, none⟩) := e2; replace f2 : hi2 = lo2 + 1 := f2; replace hlo2 : _ ≤ lo2 := hlo2; subst e2; subst f2
       refine hK _ _ ?_; clear hK K
       refine stepS _ rfl (by kernel_rfl) (fun K hK => ?_); go_simp
       refine ⟨?_, ?_⟩
       ·exact sStoreT rfl rfl rfl rfl rfl rfl rfl hinf hYsz.symm hYone (by decide) aggOf_congr
       rintro ⟨v3, lo3, hi3⟩ - - (rfl : v3 = undef)
       refine hK _ _ ?_; clear hK K
       refine stepN ?_
       refine hQ _ _ ?_
       intro w4 hT hG hF
       have hbw4 := hT.below
       have rY : Row w4 lo2 31 Y := (hF 3 _ rfl rfl (by decide)).2
       clear hT hG hF hQ QQ L hcx hgx
       have HL4 := Lib.hid (show Below w.heap.size w w4 ∧ Row w4 w.heap.size 116 ct ∧ Row w4 lo6 118 (#[.int .i64 sn, .bool true, .int .i64 sa, .bool true, .int .i64 sh, .bool sc]) from ⟨hinv.out.1.trans (hbw4.mono hinv.out.1.size), hinv.out.2.1.below hbw4 hinv.out.2.1.lt, hinv.out.2.2.below hbw4 hinv.out.2.2.lt⟩)
       clear hinv hbw4 hYone hinf
       go_upto_region 18 with (fail)
       let L : List Sp := [sV 1 [] [] (fun u => u = .bool bz)]
       refine wp_region_six0 (shs L) (look6 L) (None_) (by kernel_rfl) (by kernel_rfl) (mk_St L [] [] (by kernel_rfl) (by kernel_rfl) ⟨ok_V ⟨_, rfl⟩, trivial⟩ (by simp)) ?_
       intro QQ hQ
       refine stepK rfl (by kernel_rfl) (fun K hK => ?_); go_simp
       apply Exists.intro; apply And.intro; (focus exact kLoad rfl rfl aggT31 rY hYsz id); refine hK _ _ ?_; clear hK K
       refine stepS _ rfl (by kernel_rfl) (fun K hK => ?_); go_simp
       refine ⟨?_, ?_⟩
       ·intro wk hk hg hu; go_simp; refine upon_enter ((ka.out _).mono ?_); rintro e w' ⟨rfl, hb⟩; exact ⟨_, rfl, left_V (p := fun u => u = .bool bz) rfl (hb) rfl⟩
       rintro ⟨v1, lo1, hi1⟩ - - (rfl : v1 = _)
       refine hK _ _ ?_; clear hK K
       refine stepK rfl (by kernel_rfl) (fun K hK => ?_); go_simp
       apply Exists.intro; apply And.intro; (focus (intro wk hk; go_simp; exact ⟨rfl, rfl⟩)); refine hK _ _ ?_; clear hK K
       refine stepN ?_
       refine hQ _ _ ?_
       intro w5 hT hG hF
       have hb5 := hT.below
       have HL5 := Lib.hid (show Below w.heap.size w w5 ∧ Row w5 w.heap.size 116 ct ∧ Row w5 lo6 118 (#[.int .i64 sn, .bool true, .int .i64 sa, .bool true, .int .i64 sh, .bool sc]) from ⟨HL4.out.1.trans (hb5.mono HL4.out.1.size), HL4.out.2.1.below hb5 HL4.out.2.1.lt, HL4.out.2.2.below hb5 HL4.out.2.2.lt⟩)
       clear hT hG hF hQ QQ L HL4 rY hb5 ka hYsz
       cases bz
       ·have hbb := HB3.out.1 (by rw [← HA1.out.2.2.2]; exact all_not HO.out.2 HO.out.1)
        subst hbb
        clear hall HA1 HO kG kS HB3
        go_wp2_with fail
        go_ret
        exact ⟨rfl, HL5.out.1⟩
       ·go_wp2_with fail
        go_roundg (gk - 1)
        case measure => omega
        case rel =>
         refine ⟨i2 + 1, by omega, by go_num, Lib.hid fun j e hj hje => ?_, HL5⟩
         rcases Nat.lt_or_ge j i2 with h | h
         ·exact hall.out j e h hje
         ·obtain rfl : j = i2 := by omega
          have h1 := HO.out.2.symm.trans hje
          injection h1 with h1
          rw [← h1]
          exact HO.out.1
      ·obtain rfl : i2 = nA := by omega
       have hlt2 : ¬ (i2 : Int) < (i2 : Int) := by omega
       have hbx := Lib.hid (HB3.out.2 (by rw [← HA1.out.2.2.2]; exact all_all (fun j e hj hje => hall.out j e (by have := HA1.out.2.2.1; omega) hje)))
       clear hall HA1 HB3
       have e5 := hinv.out.2.2.cell 5
       cases sc
       ·have hbx' : b6 = BB := by have h := hbx.out; simpa using h
        subst hbx'
        clear hbx
        go_upto_region 23 with (fail)
        have hl := hinv.out.1
        have r1 := hinv.out.2.1
        clear hinv e5 kG
        let L : List Sp := [sV 3 [] [] (fun u => u = .bool b6)]
        refine wp_region_six0 (shs L) (look6 L) (None_) (by kernel_rfl) (by kernel_rfl) (mk_St L [] [] (by kernel_rfl) (by kernel_rfl) ⟨ok_V ⟨_, rfl⟩, trivial⟩ (by simp)) ?_
        intro QQ hQ
        refine stepK rfl (by kernel_rfl) (fun K hK => ?_); go_simp
        apply Exists.intro; apply And.intro; (focus (intro wk hk; go_simp; exact ⟨rfl, rfl⟩)); refine hK _ _ ?_; clear hK K
        refine stepK rfl (by kernel_rfl) (fun K hK => ?_); go_simp
        apply Exists.intro; apply And.intro; (focus exact kLoadMid rfl rfl aggT114 r1 hmid hcsz id); refine hK _ _ ?_; clear hK K
        refine stepK rfl (by kernel_rfl) (fun K hK => ?_); go_simp
        apply Exists.intro; apply And.intro; (focus (intro wk hk; go_simp; exact ⟨rfl, rfl⟩)); refine hK _ _ ?_; clear hK K
        refine stepS _ rfl (by kernel_rfl) (fun K hK => ?_); go_simp
        refine ⟨?_, ?_⟩
        ·intro wk hk hg hu; go_simp; refine upon_enter ((kS.out _ (hl.trans (hk.below.mono hl.size))).mono ?_); rintro e w' ⟨rfl, hb⟩; exact ⟨_, rfl, left_V (p := fun u => u = .bool b6) rfl (hb) rfl⟩
        rintro ⟨v3, lo3, hi3⟩ - - (rfl : v3 = _)
        refine hK _ _ ?_; clear hK K
        refine stepK rfl (by kernel_rfl) (fun K hK => ?_); go_simp
        apply Exists.intro; apply And.intro; (focus (intro wk hk; go_simp; exact ⟨rfl, rfl⟩)); refine hK _ _ ?_; clear hK K
        refine stepN ?_
        refine hQ _ _ ?_
        intro w9 hT hG hF
        have H9 := Lib.hid (hl.trans (hT.below.mono hl.size))
        clear hT hG hF hQ QQ L hl r1
        go_wp2_with fail
        go_ret
        exact ⟨by first | rfl | (simp; done), H9.out⟩
       ·have hbx' : b5 = BB := by have h := hbx.out; simpa using h
        subst hbx'
        clear hbx
        go_upto_region 22 with (fail)
        have hl := hinv.out.1
        have r1 := hinv.out.2.1
        clear hinv e5 kS
        let L : List Sp := [sV 2 [] [] (fun u => u = .bool b5)]
        refine wp_region_six0 (shs L) (look6 L) (None_) (by kernel_rfl) (by kernel_rfl) (mk_St L [] [] (by kernel_rfl) (by kernel_rfl) ⟨ok_V ⟨_, rfl⟩, trivial⟩ (by simp)) ?_
        intro QQ hQ
        refine stepK rfl (by kernel_rfl) (fun K hK => ?_); go_simp
        apply Exists.intro; apply And.intro; (focus (intro wk hk; go_simp; exact ⟨rfl, rfl⟩)); refine hK _ _ ?_; clear hK K
        refine stepK rfl (by kernel_rfl) (fun K hK => ?_); go_simp
        apply Exists.intro; apply And.intro; (focus exact kLoadMid rfl rfl aggT114 r1 hmid hcsz id); refine hK _ _ ?_; clear hK K
        refine stepS _ rfl (by kernel_rfl) (fun K hK => ?_); go_simp
        refine ⟨?_, ?_⟩
        ·intro wk hk hg hu; go_simp; refine upon_enter ((kG.out _ (hl.trans (hk.below.mono hl.size))).mono ?_); rintro e w' ⟨rfl, hb⟩; exact ⟨_, rfl, left_V (p := fun u => u = .bool b5) rfl (hb) rfl⟩
        rintro ⟨v2, lo2, hi2⟩ - - (rfl : v2 = _)
        refine hK _ _ ?_; clear hK K
        refine stepK rfl (by kernel_rfl) (fun K hK => ?_); go_simp
        apply Exists.intro; apply And.intro; (focus (intro wk hk; go_simp; exact ⟨rfl, rfl⟩)); refine hK _ _ ?_; clear hK K
        refine stepN ?_
        refine hQ _ _ ?_
        intro w9 hT hG hF
        have H9 := Lib.hid (hl.trans (hT.below.mono hl.size))
        clear hT hG hF hQ QQ L hl r1
        go_wp2_with fail
        go_ret
        exact ⟨by first | rfl | (simp; done), H9.out⟩
end Go.Proofs.Ytpdenhmkpiafiaa
