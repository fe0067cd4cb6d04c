/-
 What the statement rests on, part 10: TxRef2.
-/
import Derived.Test.YtpdenhmkpiafiaaQTR7
import Derived.Test.YtpdenhmkpiafiaaQTR8
namespace Go.Proofs.Ytpdenhmkpiafiaa
open Go Go.RowKit K6
set_option maxRecDepth 100000 in
set_option maxHeartbeats 64000000 in
theorem rgoodClaim_at (c : Cm) (w : World) (hc : CmOk w c) (hp : c.p.length ≤ 1000) (hlE : c.l.length ≤ 1000) (hlP : ∀ e ∈ c.l, e.p.length ≤ 1000) :
  Calls Try.prog 213 #[.agg c.cs.toArray] w fun r w' => r = .returned (.bool (goodCK c.key)) ∧ Below w.heap.size w w' := by
 have k0 := Lib.hid fun wx => rwithin_at c.r 0 4294967295 wx
 have k1 := Lib.hid fun wx => rwithin_at c.x 0 4294967295 wx
 have k2 := Lib.hid fun wx => rwithin_at c.e 1 4294967295 wx
 have k3 := Lib.hid fun wx => rwithin_at c.z 1 4294967295 wx
 have HLs := hc.l
 have hok : goodCK c.key = ((decide (0 ≤ c.r ∧ c.r ≤ 4294967295) && (decide (0 ≤ c.x ∧ c.x ≤ 4294967295) && (decide (1 ≤ c.e ∧ c.e ≤ 4294967295) && decide (1 ≤ c.z ∧ c.z ≤ 4294967295)))) && (decide (c.p.length ≤ 10) && (decide (1 ≤ (c.l.length : Int) ∧ (c.l.length : Int) ≤ 8) && c.l.all okLf))) := by
  rw [all_key]
  unfold goodCK headB Cm.key
  simp only [List.length_map]
 obtain ⟨b0, hb0⟩ : ∃ b, decide (0 ≤ c.r ∧ c.r ≤ 4294967295) = b := ⟨_, rfl⟩
 obtain ⟨b1, hb1⟩ : ∃ b, decide (0 ≤ c.x ∧ c.x ≤ 4294967295) = b := ⟨_, rfl⟩
 obtain ⟨b2, hb2⟩ : ∃ b, decide (1 ≤ c.e ∧ c.e ≤ 4294967295) = b := ⟨_, rfl⟩
 obtain ⟨b3, hb3⟩ : ∃ b, decide (1 ≤ c.z ∧ c.z ≤ 4294967295) = b := ⟨_, rfl⟩
 obtain ⟨b6, hb6⟩ : ∃ b, c.l.all okLf = b := ⟨_, rfl⟩
 rw [hb0] at k0
 rw [hb1] at k1
 rw [hb2] at k2
 rw [hb3] at k3
 rw [hb0, hb1, hb2, hb3, hb6] at hok
 have x0 := cA0 c
 have x1 := cA1 c
 have x2 := cA2 c
 have x4 := cA35 hc.tok
 have x5 := cA36 hc.tok
 have x6 := cA37 hc.tok
 unfold Cm.lv at HLs
 obtain ⟨np, hnp⟩ : ∃ n, c.p.length = n := ⟨_, rfl⟩
 obtain ⟨nl, hnl⟩ : ∃ n, c.l.length = n := ⟨_, rfl⟩
 obtain ⟨lq, hlq⟩ : ∃ n, c.lq = n := ⟨_, rfl⟩
 obtain ⟨lc, hlc⟩ : ∃ n, c.lc = n := ⟨_, rfl⟩
 obtain ⟨pq, hpq⟩ : ∃ n, c.pq = n := ⟨_, rfl⟩
 obtain ⟨pc, hpc⟩ : ∃ n, c.pc = n := ⟨_, rfl⟩
 rw [hnp] at hp hok
 rw [hnl] at hlE hok
 rw [hnp, hpq, hpc] at x4
 rw [hnl, hlq, hlc] at x5
 rw [hnl, hlq, hlc] at HLs
 have k5 := Lib.hid fun wx => rwithin_at (nl : Int) 1 8 wx
 obtain ⟨b5, hb5⟩ : ∃ b, decide (1 ≤ (nl : Int) ∧ (nl : Int) ≤ 8) = b := ⟨_, rfl⟩
 rw [hb5] at k5 hok
 obtain ⟨ll, hll⟩ : ∃ l, c.l = l := ⟨_, rfl⟩
 rw [hll] at HLs hb6 hlP hnl
 have HC := Lib.hid (show _ ∧ _ ∧ _ ∧ _ from ⟨HLs, hb6, hlP, hnl⟩)
 rw [hok]
 obtain ⟨cs, hcs⟩ : ∃ x, c.cs.toArray = x := ⟨_, rfl⟩
 rw [hcs] at x0 x1 x2 x4 x5 x6 ⊢
 have X := Lib.hid (show _ ∧ _ ∧ _ ∧ _ ∧ _ ∧ _ from ⟨x0, x1, x2, x4, x5, x6⟩)
 obtain ⟨cr, hcr⟩ : ∃ x, c.r = x := ⟨_, rfl⟩
 obtain ⟨cx, hcx⟩ : ∃ x, c.x = x := ⟨_, rfl⟩
 obtain ⟨ce, hce⟩ : ∃ x, c.e = x := ⟨_, rfl⟩
 obtain ⟨cz, hcz⟩ : ∃ x, c.z = x := ⟨_, rfl⟩
 rw [hcr] at k0 X
 rw [hcx] at k1 X
 rw [hce] at k2 X
 rw [hcz] at k3 X
 have hcase : ((np : Int) ≤ 10 ∧ decide (np ≤ 10) = true) ∨ (10 < (np : Int) ∧ decide (np ≤ 10) = false) := by
  by_cases h : np ≤ 10
  ·exact .inl ⟨by omega, decide_eq_true h⟩
  ·exact .inr ⟨by omega, decide_eq_false h⟩
 have hni : (np : Int) ≤ 1000 := by omega
 have hli : (nl : Int) ≤ 1000 := by omega
 clear hok hb0 hb1 hb2 hb3 hb5 hb6 x0 x1 x2 x4 x5 x6 hnp hnl hlq hlc hpq hpc hcs hcr hcx hce hcz hc hlP hp hlE hll HLs
 go_enter Try.func213, Try.ntmps213
 go_upto_region 1 with (fail)
 refine wp_abs (Mem w [(w.heap.size, 114, cs)]) ⟨by go_grown, by (repeat (first | (refine Row.new_at ?_; simp; done) | refine Row.alloc ?_ _)), trivial⟩ ?_
 intro w0 hM
 obtain ⟨hl, r1, -⟩ := hM
 have HL := Lib.hid (show _ ∧ _ from ⟨hl, r1⟩)
 have d0 := (r1.cell 0).trans X.out.1
 clear hl r1
 go_wp2_with fail
 refine (k0.out _).mono ?_
 rintro e w1 ⟨rfl, hb⟩
 have H1 := Lib.hid (show _ ∧ _ from ⟨HL.out.1.trans (hb.mono HL.out.1.size), HL.out.2.below hb HL.out.2.lt⟩)
 clear k0 hb HL d0
 cases b0
 ·clear k1 k2 k3 k5 HC hcase
  go_wp2_with fail
  go_ret
  exact ⟨rfl, H1.out.1⟩
 have d1 := (H1.out.2.cell 1).trans X.out.2.1
 go_wp2_with fail
 refine (k1.out _).mono ?_
 rintro e w2 ⟨rfl, hb⟩
 have H2 := Lib.hid (show _ ∧ _ from ⟨H1.out.1.trans (hb.mono H1.out.1.size), H1.out.2.below hb H1.out.2.lt⟩)
 clear k1 hb H1 d1
 cases b1
 ·clear k2 k3 k5 HC hcase
  go_wp2_with fail
  go_ret
  exact ⟨rfl, H2.out.1⟩
 have d2 := (H2.out.2.cell 2).trans X.out.2.2.1
 go_wp2_with fail
 refine (k2.out _).mono ?_
 rintro e w3 ⟨rfl, hb⟩
 have H3 := Lib.hid (show _ ∧ _ from ⟨H2.out.1.trans (hb.mono H2.out.1.size), H2.out.2.below hb H2.out.2.lt⟩)
 clear k2 hb H2 d2
 cases b2
 ·clear k3 k5 HC hcase
  go_wp2_with fail
  go_ret
  exact ⟨rfl, H3.out.1⟩
 have d6 := (H3.out.2.cell 37).trans X.out.2.2.2.2.2
 go_wp2_with fail
 refine (k3.out _).mono ?_
 rintro e w4 ⟨rfl, hb⟩
 have H4 := Lib.hid (show _ ∧ _ from ⟨H3.out.1.trans (hb.mono H3.out.1.size), H3.out.2.below hb H3.out.2.lt⟩)
 clear k3 hb H3 d6
 cases b3
 ·clear k5 HC hcase
  go_wp2_with fail
  go_ret
  exact ⟨rfl, H4.out.1⟩
 have d4 := (H4.out.2.cell 35).trans X.out.2.2.2.1
 rcases hcase with ⟨h10, hd⟩ | ⟨h10, hd⟩
 case inr =>
  have HD := Lib.hid hd
  clear hd k5 HC
  go_wp2_with fail
  go_ret
  exact ⟨by rw [HD.out]; rfl, H4.out.1⟩
 have HD := Lib.hid hd
 clear hd
 have d5 := (H4.out.2.cell 36).trans X.out.2.2.2.2.1
 go_wp2_with fail
 refine (k5.out _).mono ?_
 rintro e w5 ⟨rfl, hb⟩
 have H5 := Lib.hid (show _ ∧ _ from ⟨H4.out.1.trans (hb.mono H4.out.1.size), H4.out.2.below hb H4.out.2.lt⟩)
 clear k5 hb H4 d4 d5
 cases b5
 ·clear HC
  go_wp2_with fail
  go_ret
  exact ⟨by rw [HD.out]; rfl, H5.out.1⟩
 have d5 := (H5.out.2.cell 36).trans X.out.2.2.2.2.1
 have H5' := Lib.hid H5.out.1
 go_wp2_with fail
 go_loopg [43] nl (fun gg s43 wr => ∃ i : Nat, i + gg = nl ∧ s43 = .int .i64 (i : Int) ∧ Hid (∀ (j : Nat) (x : Lf), j < i → ll[j]? = some x → okLf x = true) ∧ Hid (Below w.heap.size w wr))
 case atStart => exact ⟨0, by omega, rfl, Lib.hid (fun j e h => absurd h (Nat.not_lt_zero j)), H5'⟩
 case round =>
  clear H5 H5' d5 X
  obtain ⟨i, him, rfl, hall, hinv⟩ := hrel
  by_cases hi : i < nl
  ·obtain ⟨x, hx⟩ : ∃ x, ll[i]? = some x := ⟨_, List.getElem?_eq_getElem (by have := HC.out.2.2.2; omega)⟩
   obtain ⟨gx, ox, cx', hu, hgx, hcx⟩ := (HC.out.1.below hinv.out).1.get hx
   simp only [Value.slice.injEq] at hu
   obtain ⟨rfl, -, -⟩ := hu
   have hxm := List.mem_of_getElem? hx
   have hxa := ((HC.out.1.below hinv.out).2 x hxm).a
   have hL := HC.out.2.2.1 x hxm
   have ka := fun wx => refAmountU hxa wx
   have q1 := fun wx => rwithin_at x.i 0 4294967295 wx
   have q2 := fun wx => rwithin_at x.t 0 4294967295 wx
   have hok : okLf x = (decide (0 ≤ x.i ∧ x.i ≤ 4294967295) && (decide (0 ≤ x.t ∧ x.t ≤ 4294967295) && (decide (x.p.length ≤ 10) && decide (x.a < M2)))) := rfl
   obtain ⟨z1, hz1⟩ : ∃ b, decide (0 ≤ x.i ∧ x.i ≤ 4294967295) = b := ⟨_, rfl⟩
   obtain ⟨z2, hz2⟩ : ∃ b, decide (0 ≤ x.t ∧ x.t ≤ 4294967295) = b := ⟨_, rfl⟩
   obtain ⟨z4, hz4⟩ : ∃ b, decide (x.a < M2) = b := ⟨_, rfl⟩
   simp only [hz1] at q1
   simp only [hz2] at q2
   simp only [hz4] at ka
   rw [hz1, hz2, hz4] at hok
   obtain ⟨y0, y1, y2, y3, hW⟩ : ∃ y0 y1 y2 y3 : Int, W4 x.a = #[.int .u64 y0, .int .u64 y1, .int .u64 y2, .int .u64 y3] := ⟨_, _, _, _, rfl⟩
   have hcsW : (lfc x).toArray = #[.int .i64 x.i, .int .i64 x.t, .int .u64 y0, .int .u64 y1, .int .u64 y2, .int .u64 y3, .slice x.pq x.p.length x.pc] := by unfold lfc Lf.pv; rw [hW]; rfl
   replace hcx : ∀ j v, (lfc x).toArray.toList[j]? = some v → wr.cell? ⟨gx, ox + i * 7 + j, none⟩ = some v := hcx
   simp only [hW] at ka
   rw [hcsW] at hcx
   obtain ⟨xi, hxi⟩ : ∃ n, x.i = n := ⟨_, rfl⟩
   obtain ⟨xt, hxt⟩ : ∃ n, x.t = n := ⟨_, rfl⟩
   obtain ⟨np', hnp⟩ : ∃ n, x.p.length = n := ⟨_, rfl⟩
   obtain ⟨xq, hxq⟩ : ∃ n, x.pq = n := ⟨_, rfl⟩
   obtain ⟨xc, hxc⟩ : ∃ n, x.pc = n := ⟨_, rfl⟩
   simp only [hxi] at q1
   simp only [hxt] at q2
   rw [hxi, hxt, hnp, hxq, hxc] at hcx
   rw [hnp] at hL hok
   have HO := Lib.hid (show _ ∧ _ from ⟨hok, hx⟩)
   replace ka := Lib.hid ka
   replace q1 := Lib.hid q1
   replace q2 := Lib.hid q2
   have hcase2 : ((np' : Int) ≤ 10 ∧ decide (np' ≤ 10) = true) ∨ (10 < (np' : Int) ∧ decide (np' ≤ 10) = false) := by
    by_cases h : np' ≤ 10
    ·exact .inl ⟨by omega, decide_eq_true h⟩
    ·exact .inr ⟨by omega, decide_eq_false h⟩
   have hni2 : (np' : Int) ≤ 1000 := by omega
   clear hxa hok hz1 hz2 hz4 hW hcsW hxi hxt hnp hxq hxc hL hx hxm
   have hlt : (i : Int) < (nl : Int) := by omega
   go_upto_region 5 with (fail)
   let L : List Sp := [sA 2 198 [3] #[.int .i64 0, .int .i64 0, .int .u64 0, .int .u64 0, .int .u64 0, .int .u64 0, .slice none 0 0], sT 3 2 198 [1] (fun g => aggOf g 1)]
   refine wp_region_six0 (shs L) (look6 L) (None_) (by kernel_rfl) (by kernel_rfl) (mk_St L [] [] (by kernel_rfl) (by kernel_rfl) ⟨ok_A, ok_T aggOf_congr, trivial⟩ (by simp)) ?_
   intro QQ hQ
   refine stepK rfl (by kernel_rfl) (fun K hK => ?_); go_simp
   apply Exists.intro; apply And.intro; (focus (intro wk hk; go_simp; exact ⟨rfl, rfl⟩)); refine hK _ _ ?_; clear hK K
   refine stepK rfl (by kernel_rfl) (fun K hK => ?_); go_simp
   apply Exists.intro; apply And.intro; (focus exact kLoadA rfl rfl aggT198 hcx rfl hgx id); refine hK _ _ ?_; clear hK K
   refine stepS _ rfl (by kernel_rfl) (fun K hK => ?_); go_simp
   refine ⟨?_, ?_⟩
   ·intro wk hk hg hu; go_simp; exact left_A rfl rfl
   rintro ⟨v2, lo2, hi2⟩ hlo2 hhi2 ⟨e2, f2⟩
   replace e2 : v2 = .pointer (some ⟨lo2, 0, none⟩) := e2; replace f2 : hi2 = lo2 + 1 := f2; replace hlo2 : _ ≤ lo2 := hlo2; subst e2; subst f2
   refine hK _ _ ?_; clear hK K
   refine stepS _ rfl (by kernel_rfl) (fun K hK => ?_); go_simp
   refine ⟨?_, ?_⟩
   ·exact sStoreT rfl rfl rfl rfl rfl rfl rfl (by kernel_rfl) rfl (by kernel_rfl) (by decide) aggOf_congr
   rintro ⟨v3, lo3, hi3⟩ - - (rfl : v3 = undef)
   refine hK _ _ ?_; clear hK K
   refine stepN ?_
   refine hQ _ _ ?_
   intro w4 hT hG hF
   have hbw4 := hT.below
   have rY : Row w4 lo2 198 (#[.int .i64 xi, .int .i64 xt, .int .u64 y0, .int .u64 y1, .int .u64 y2, .int .u64 y3, .slice xq np' xc]) := (hF 3 _ rfl rfl (by decide)).2
   clear hT hG hF hQ QQ L hcx hgx
   have HL := Lib.hid (show Below w.heap.size w w4 ∧ Row w4 lo2 198 (#[.int .i64 xi, .int .i64 xt, .int .u64 y0, .int .u64 y1, .int .u64 y2, .int .u64 y3, .slice xq np' xc]) from ⟨hinv.out.trans (hbw4.mono hinv.out.size), rY⟩)
   clear hbw4 hinv rY
   have d0 := HL.out.2.cell 0
   go_wp2_with fail
   refine (q1.out _).mono ?_
   rintro e w5 ⟨rfl, hb⟩
   have H5 := Lib.hid (show _ ∧ _ from ⟨HL.out.1.trans (hb.mono HL.out.1.size), HL.out.2.below hb HL.out.2.lt⟩)
   clear q1 hb HL d0
   cases z1
   ·have hbf : b6 = false := by rw [← HC.out.2.1]; exact all_not HO.out.2 (by rw [HO.out.1]; rfl)
    subst hbf
    clear hall HC HO ka q2 hcase2
    go_wp2_with fail
    go_ret
    exact ⟨by rw [HD.out]; rfl, H5.out.1⟩
   have d1 := H5.out.2.cell 1
   go_wp2_with fail
   refine (q2.out _).mono ?_
   rintro e w6 ⟨rfl, hb⟩
   have H6 := Lib.hid (show _ ∧ _ from ⟨H5.out.1.trans (hb.mono H5.out.1.size), H5.out.2.below hb H5.out.2.lt⟩)
   clear q2 hb H5 d1
   cases z2
   ·have hbf : b6 = false := by rw [← HC.out.2.1]; exact all_not HO.out.2 (by rw [HO.out.1]; rfl)
    subst hbf
    clear hall HC HO ka hcase2
    go_wp2_with fail
    go_ret
    exact ⟨by rw [HD.out]; rfl, H6.out.1⟩
   have d6 := H6.out.2.cell 6
   rcases hcase2 with ⟨h11, hd⟩ | ⟨h11, hd⟩
   case inr =>
    have HD2 := Lib.hid hd
    clear hd
    have hbf : b6 = false := by rw [← HC.out.2.1]; exact all_not HO.out.2 (by rw [HO.out.1, HD2.out]; rfl)
    subst hbf
    clear hall HC HO ka
    go_wp2_with fail
    go_ret
    exact ⟨by rw [HD.out]; rfl, H6.out.1⟩
   have HD2 := Lib.hid hd
   clear hd
   have d2 := H6.out.2.cell 2
   have d3 := H6.out.2.cell 3
   have d4 := H6.out.2.cell 4
   have d5 := H6.out.2.cell 5
   go_wp2_with fail
   refine (ka.out _).mono ?_
   rintro e w7 ⟨rfl, hb⟩
   have H7 := Lib.hid (H6.out.1.trans (hb.mono H6.out.1.size))
   clear ka hb H6 d2 d3 d4 d5 d6
   cases z4
   ·have hbf : b6 = false := by rw [← HC.out.2.1]; exact all_not HO.out.2 (by rw [HO.out.1, HD2.out]; rfl)
    subst hbf
    clear hall HC HO 
    go_wp2_with fail
    go_ret
    exact ⟨by rw [HD.out]; rfl, H7.out⟩
   ·go_wp2_with fail
    go_roundg (gk - 1)
    case measure => omega
    case rel =>
     refine ⟨i + 1, by omega, by go_num, Lib.hid fun j e hj hje => ?_, H7⟩
     rcases Nat.lt_or_ge j i with h | h
     ·exact hall.out j e h hje
     ·obtain rfl : j = i := by omega
      have h1 := HO.out.2.symm.trans hje
      injection h1 with h1
      rw [← h1, HO.out.1, HD2.out]
      rfl
  ·obtain rfl : i = nl := by omega
   have hlt : ¬ (i : Int) < (i : Int) := by omega
   have hbt : b6 = true := by rw [← HC.out.2.1]; exact all_all (fun j e hj hje => hall.out j e (by have := HC.out.2.2.2; omega) hje)
   subst hbt
   go_wp2_with fail
   go_ret
   exact ⟨by rw [HD.out]; rfl, hinv.out⟩
end Go.Proofs.Ytpdenhmkpiafiaa
