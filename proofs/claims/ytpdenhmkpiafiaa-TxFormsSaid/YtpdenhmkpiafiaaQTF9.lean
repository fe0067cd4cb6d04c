/-
  What the statement rests on, part 10: TxRef2 TxRef4 RefQuo RefForm2 OctPut TxPutR.
-/
import Derived.Deep.DeepCutAuto
import Derived.Laws.StructEq
import Derived.Deep.OwnRows
import Derived.Test.YtpdenhmkpiafiaaQTF1
import Derived.Test.YtpdenhmkpiafiaaQTF4
import Derived.Test.YtpdenhmkpiafiaaQTF5
import Derived.Test.YtpdenhmkpiafiaaQTF6
import Derived.Test.YtpdenhmkpiafiaaQTF8
namespace Go.Proofs.Ytpdenhmkpiafiaa
open Go Go.RowKit K6
set_option maxRecDepth 100000 in
set_option maxHeartbeats 64000000 in
theorem rgoodClaim_at (c : Cm) (w : World) (hc : CmOk w c) (hp : c.p.length ≤ 1000) (hlE : c.l.length ≤ 1000) (hlP : ∀ e ∈ c.l, e.p.length ≤ 1000) :
    Calls Try.prog 213 #[.agg c.cs.toArray] w fun r w' => r = .returned (.bool (goodCK c.key)) ∧ Below w.heap.size w w' := by
  have k0 := Lib.hid fun wx => rwithin_at c.r 0 4294967295 wx
  have k1 := Lib.hid fun wx => rwithin_at c.x 0 4294967295 wx
  have k2 := Lib.hid fun wx => rwithin_at c.e 1 4294967295 wx
  have k3 := Lib.hid fun wx => rwithin_at c.z 1 4294967295 wx
  have HLs := hc.l
  have hok : goodCK c.key = ((decide (0 ≤ c.r ∧ c.r ≤ 4294967295) && (decide (0 ≤ c.x ∧ c.x ≤ 4294967295) && (decide (1 ≤ c.e ∧ c.e ≤ 4294967295) && decide (1 ≤ c.z ∧ c.z ≤ 4294967295)))) && (decide (c.p.length ≤ 10) && (decide (1 ≤ (c.l.length : Int) ∧ (c.l.length : Int) ≤ 8) && c.l.all okLf))) := by
    rw [all_key]
    unfold goodCK headB Cm.key
    simp only [List.length_map]
  obtain ⟨b0, hb0⟩ : ∃ b, decide (0 ≤ c.r ∧ c.r ≤ 4294967295) = b := ⟨_, rfl⟩
  obtain ⟨b1, hb1⟩ : ∃ b, decide (0 ≤ c.x ∧ c.x ≤ 4294967295) = b := ⟨_, rfl⟩
  obtain ⟨b2, hb2⟩ : ∃ b, decide (1 ≤ c.e ∧ c.e ≤ 4294967295) = b := ⟨_, rfl⟩
  obtain ⟨b3, hb3⟩ : ∃ b, decide (1 ≤ c.z ∧ c.z ≤ 4294967295) = b := ⟨_, rfl⟩
  obtain ⟨b6, hb6⟩ : ∃ b, c.l.all okLf = b := ⟨_, rfl⟩
  rw [hb0] at k0
  rw [hb1] at k1
  rw [hb2] at k2
  rw [hb3] at k3
  rw [hb0, hb1, hb2, hb3, hb6] at hok
  have x0 := cA0 c
  have x1 := cA1 c
  have x2 := cA2 c
  have x4 := cA35 hc.tok
  have x5 := cA36 hc.tok
  have x6 := cA37 hc.tok
  unfold Cm.lv at HLs
  obtain ⟨np, hnp⟩ : ∃ n, c.p.length = n := ⟨_, rfl⟩
  obtain ⟨nl, hnl⟩ : ∃ n, c.l.length = n := ⟨_, rfl⟩
  obtain ⟨lq, hlq⟩ : ∃ n, c.lq = n := ⟨_, rfl⟩
  obtain ⟨lc, hlc⟩ : ∃ n, c.lc = n := ⟨_, rfl⟩
  obtain ⟨pq, hpq⟩ : ∃ n, c.pq = n := ⟨_, rfl⟩
  obtain ⟨pc, hpc⟩ : ∃ n, c.pc = n := ⟨_, rfl⟩
  rw [hnp] at hp hok
  rw [hnl] at hlE hok
  rw [hnp, hpq, hpc] at x4
  rw [hnl, hlq, hlc] at x5
  rw [hnl, hlq, hlc] at HLs
  have k5 := Lib.hid fun wx => rwithin_at (nl : Int) 1 8 wx
  obtain ⟨b5, hb5⟩ : ∃ b, decide (1 ≤ (nl : Int) ∧ (nl : Int) ≤ 8) = b := ⟨_, rfl⟩
  rw [hb5] at k5 hok
  obtain ⟨ll, hll⟩ : ∃ l, c.l = l := ⟨_, rfl⟩
  rw [hll] at HLs hb6 hlP hnl
  have HC := Lib.hid (show _ ∧ _ ∧ _ ∧ _ from ⟨HLs, hb6, hlP, hnl⟩)
  rw [hok]
  obtain ⟨cs, hcs⟩ : ∃ x, c.cs.toArray = x := ⟨_, rfl⟩
  rw [hcs] at x0 x1 x2 x4 x5 x6 ⊢
  have X := Lib.hid (show _ ∧ _ ∧ _ ∧ _ ∧ _ ∧ _ from ⟨x0, x1, x2, x4, x5, x6⟩)
  obtain ⟨cr, hcr⟩ : ∃ x, c.r = x := ⟨_, rfl⟩
  obtain ⟨cx, hcx⟩ : ∃ x, c.x = x := ⟨_, rfl⟩
  obtain ⟨ce, hce⟩ : ∃ x, c.e = x := ⟨_, rfl⟩
  obtain ⟨cz, hcz⟩ : ∃ x, c.z = x := ⟨_, rfl⟩
  rw [hcr] at k0 X
  rw [hcx] at k1 X
  rw [hce] at k2 X
  rw [hcz] at k3 X
  have hcase : ((np : Int) ≤ 10 ∧ decide (np ≤ 10) = true) ∨ (10 < (np : Int) ∧ decide (np ≤ 10) = false) := by
    by_cases h : np ≤ 10
    · exact .inl ⟨by omega, decide_eq_true h⟩
    · exact .inr ⟨by omega, decide_eq_false h⟩
  have hni : (np : Int) ≤ 1000 := by omega
  have hli : (nl : Int) ≤ 1000 := by omega
  clear hok hb0 hb1 hb2 hb3 hb5 hb6 x0 x1 x2 x4 x5 x6 hnp hnl hlq hlc hpq hpc hcs hcr hcx hce hcz hc hlP hp hlE hll HLs
  go_enter Try.func213, Try.ntmps213
  go_upto_region 1 with (fail)
  refine wp_abs (Mem w [(w.heap.size, 114, cs)]) ⟨by go_grown, by (repeat (first | (refine Row.new_at ?_; simp; done) | refine Row.alloc ?_ _)), trivial⟩ ?_
  intro w0 hM
  obtain ⟨hl, r1, -⟩ := hM
  have HL := Lib.hid (show _ ∧ _ from ⟨hl, r1⟩)
  have d0 := (r1.cell 0).trans X.out.1
  clear hl r1
  go_wp2_with fail
  refine (k0.out _).mono ?_
  rintro e w1 ⟨rfl, hb⟩
  have H1 := Lib.hid (show _ ∧ _ from ⟨HL.out.1.trans (hb.mono HL.out.1.size), HL.out.2.below hb HL.out.2.lt⟩)
  clear k0 hb HL d0
  cases b0
  · clear k1 k2 k3 k5 HC hcase
    go_wp2_with fail
    go_ret
    exact ⟨rfl, H1.out.1⟩
  have d1 := (H1.out.2.cell 1).trans X.out.2.1
  go_wp2_with fail
  refine (k1.out _).mono ?_
  rintro e w2 ⟨rfl, hb⟩
  have H2 := Lib.hid (show _ ∧ _ from ⟨H1.out.1.trans (hb.mono H1.out.1.size), H1.out.2.below hb H1.out.2.lt⟩)
  clear k1 hb H1 d1
  cases b1
  · clear k2 k3 k5 HC hcase
    go_wp2_with fail
    go_ret
    exact ⟨rfl, H2.out.1⟩
  have d2 := (H2.out.2.cell 2).trans X.out.2.2.1
  go_wp2_with fail
  refine (k2.out _).mono ?_
  rintro e w3 ⟨rfl, hb⟩
  have H3 := Lib.hid (show _ ∧ _ from ⟨H2.out.1.trans (hb.mono H2.out.1.size), H2.out.2.below hb H2.out.2.lt⟩)
  clear k2 hb H2 d2
  cases b2
  · clear k3 k5 HC hcase
    go_wp2_with fail
    go_ret
    exact ⟨rfl, H3.out.1⟩
  have d6 := (H3.out.2.cell 37).trans X.out.2.2.2.2.2
  go_wp2_with fail
  refine (k3.out _).mono ?_
  rintro e w4 ⟨rfl, hb⟩
  have H4 := Lib.hid (show _ ∧ _ from ⟨H3.out.1.trans (hb.mono H3.out.1.size), H3.out.2.below hb H3.out.2.lt⟩)
  clear k3 hb H3 d6
  cases b3
  · clear k5 HC hcase
    go_wp2_with fail
    go_ret
    exact ⟨rfl, H4.out.1⟩
  have d4 := (H4.out.2.cell 35).trans X.out.2.2.2.1
  rcases hcase with ⟨h10, hd⟩ | ⟨h10, hd⟩
  case inr =>
    have HD := Lib.hid hd
    clear hd k5 HC
    go_wp2_with fail
    go_ret
    exact ⟨by rw [HD.out]; rfl, H4.out.1⟩
  have HD := Lib.hid hd
  clear hd
  have d5 := (H4.out.2.cell 36).trans X.out.2.2.2.2.1
  go_wp2_with fail
  refine (k5.out _).mono ?_
  rintro e w5 ⟨rfl, hb⟩
  have H5 := Lib.hid (show _ ∧ _ from ⟨H4.out.1.trans (hb.mono H4.out.1.size), H4.out.2.below hb H4.out.2.lt⟩)
  clear k5 hb H4 d4 d5
  cases b5
  · clear HC
    go_wp2_with fail
    go_ret
    exact ⟨by rw [HD.out]; rfl, H5.out.1⟩
  have d5 := (H5.out.2.cell 36).trans X.out.2.2.2.2.1
  have H5' := Lib.hid H5.out.1
  go_wp2_with fail
  go_loopg [43] nl (fun gg s43 wr => ∃ i : Nat, i + gg = nl ∧ s43 = .int .i64 (i : Int) ∧ Hid (∀ (j : Nat) (x : Lf), j < i → ll[j]? = some x → okLf x = true) ∧ Hid (Below w.heap.size w wr))
  case atStart => exact ⟨0, by omega, rfl, Lib.hid (fun j e h => absurd h (Nat.not_lt_zero j)), H5'⟩
  case round =>
    clear H5 H5' d5 X
    obtain ⟨i, him, rfl, hall, hinv⟩ := hrel
    by_cases hi : i < nl
    · obtain ⟨x, hx⟩ : ∃ x, ll[i]? = some x := ⟨_, List.getElem?_eq_getElem (by have := HC.out.2.2.2; omega)⟩
      obtain ⟨gx, ox, cx', hu, hgx, hcx⟩ := (HC.out.1.below hinv.out).1.get hx
      simp only [Value.slice.injEq] at hu
      obtain ⟨rfl, -, -⟩ := hu
      have hxm := List.mem_of_getElem? hx
      have hxa := ((HC.out.1.below hinv.out).2 x hxm).a
      have hL := HC.out.2.2.1 x hxm
      have ka := fun wx => refAmountU hxa wx
      have q1 := fun wx => rwithin_at x.i 0 4294967295 wx
      have q2 := fun wx => rwithin_at x.t 0 4294967295 wx
      have hok : okLf x = (decide (0 ≤ x.i ∧ x.i ≤ 4294967295) && (decide (0 ≤ x.t ∧ x.t ≤ 4294967295) && (decide (x.p.length ≤ 10) && decide (x.a < M2)))) := rfl
      obtain ⟨z1, hz1⟩ : ∃ b, decide (0 ≤ x.i ∧ x.i ≤ 4294967295) = b := ⟨_, rfl⟩
      obtain ⟨z2, hz2⟩ : ∃ b, decide (0 ≤ x.t ∧ x.t ≤ 4294967295) = b := ⟨_, rfl⟩
      obtain ⟨z4, hz4⟩ : ∃ b, decide (x.a < M2) = b := ⟨_, rfl⟩
      simp only [hz1] at q1
      simp only [hz2] at q2
      simp only [hz4] at ka
      rw [hz1, hz2, hz4] at hok
      obtain ⟨y0, y1, y2, y3, hW⟩ : ∃ y0 y1 y2 y3 : Int, W4 x.a = #[.int .u64 y0, .int .u64 y1, .int .u64 y2, .int .u64 y3] := ⟨_, _, _, _, rfl⟩
      have hcsW : (lfc x).toArray = #[.int .i64 x.i, .int .i64 x.t, .int .u64 y0, .int .u64 y1, .int .u64 y2, .int .u64 y3, .slice x.pq x.p.length x.pc] := by unfold lfc Lf.pv; rw [hW]; rfl
      replace hcx : ∀ j v, (lfc x).toArray.toList[j]? = some v → wr.cell? ⟨gx, ox + i * 7 + j, none⟩ = some v := hcx
      simp only [hW] at ka
      rw [hcsW] at hcx
      obtain ⟨xi, hxi⟩ : ∃ n, x.i = n := ⟨_, rfl⟩
      obtain ⟨xt, hxt⟩ : ∃ n, x.t = n := ⟨_, rfl⟩
      obtain ⟨np', hnp⟩ : ∃ n, x.p.length = n := ⟨_, rfl⟩
      obtain ⟨xq, hxq⟩ : ∃ n, x.pq = n := ⟨_, rfl⟩
      obtain ⟨xc, hxc⟩ : ∃ n, x.pc = n := ⟨_, rfl⟩
      simp only [hxi] at q1
      simp only [hxt] at q2
      rw [hxi, hxt, hnp, hxq, hxc] at hcx
      rw [hnp] at hL hok
      have HO := Lib.hid (show _ ∧ _ from ⟨hok, hx⟩)
      replace ka := Lib.hid ka
      replace q1 := Lib.hid q1
      replace q2 := Lib.hid q2
      have hcase2 : ((np' : Int) ≤ 10 ∧ decide (np' ≤ 10) = true) ∨ (10 < (np' : Int) ∧ decide (np' ≤ 10) = false) := by
        by_cases h : np' ≤ 10
        · exact .inl ⟨by omega, decide_eq_true h⟩
        · exact .inr ⟨by omega, decide_eq_false h⟩
      have hni2 : (np' : Int) ≤ 1000 := by omega
      clear hxa hok hz1 hz2 hz4 hW hcsW hxi hxt hnp hxq hxc hL hx hxm
      have hlt : (i : Int) < (nl : Int) := by omega
      go_upto_region 5 with (fail)
      let L : List Sp := [sA 2 198 [3] #[.int .i64 0, .int .i64 0, .int .u64 0, .int .u64 0, .int .u64 0, .int .u64 0, .slice none 0 0], sT 3 2 198 [1] (fun g => aggOf g 1)]
      refine wp_region_six0 (shs L) (look6 L) (None_) (by kernel_rfl) (by kernel_rfl) (mk_St L [] [] (by kernel_rfl) (by kernel_rfl) ⟨ok_A, ok_T aggOf_congr, trivial⟩ (by simp)) ?_
      intro QQ hQ
      refine stepK rfl (by kernel_rfl) (fun K hK => ?_); go_simp
      apply Exists.intro; apply And.intro; (focus (intro wk hk; go_simp; exact ⟨rfl, rfl⟩)); refine hK _ _ ?_; clear hK K
      refine stepK rfl (by kernel_rfl) (fun K hK => ?_); go_simp
      apply Exists.intro; apply And.intro; (focus exact kLoadA rfl rfl aggT198 hcx rfl hgx id); refine hK _ _ ?_; clear hK K
      refine stepS _ rfl (by kernel_rfl) (fun K hK => ?_); go_simp
      refine ⟨?_, ?_⟩
      · intro wk hk hg hu; go_simp; exact left_A rfl rfl
      rintro ⟨v2, lo2, hi2⟩ hlo2 hhi2 ⟨e2, f2⟩
      replace e2 : v2 = .pointer (some ⟨lo2, 0, none⟩) := e2; replace f2 : hi2 = lo2 + 1 := f2; replace hlo2 : _ ≤ lo2 := hlo2; subst e2; subst f2
      refine hK _ _ ?_; clear hK K
      refine stepS _ rfl (by kernel_rfl) (fun K hK => ?_); go_simp
      refine ⟨?_, ?_⟩
      · exact sStoreT rfl rfl rfl rfl rfl rfl rfl (by kernel_rfl) rfl (by kernel_rfl) (by decide) aggOf_congr
      rintro ⟨v3, lo3, hi3⟩ - - (rfl : v3 = undef)
      refine hK _ _ ?_; clear hK K
      refine stepN ?_
      refine hQ _ _ ?_
      intro w4 hT hG hF
      have hbw4 := hT.below
      have rY : Row w4 lo2 198 (#[.int .i64 xi, .int .i64 xt, .int .u64 y0, .int .u64 y1, .int .u64 y2, .int .u64 y3, .slice xq np' xc]) := (hF 3 _ rfl rfl (by decide)).2
      clear hT hG hF hQ QQ L hcx hgx
      have HL := Lib.hid (show Below w.heap.size w w4 ∧ Row w4 lo2 198 (#[.int .i64 xi, .int .i64 xt, .int .u64 y0, .int .u64 y1, .int .u64 y2, .int .u64 y3, .slice xq np' xc]) from ⟨hinv.out.trans (hbw4.mono hinv.out.size), rY⟩)
      clear hbw4 hinv rY
      have d0 := HL.out.2.cell 0
      go_wp2_with fail
      refine (q1.out _).mono ?_
      rintro e w5 ⟨rfl, hb⟩
      have H5 := Lib.hid (show _ ∧ _ from ⟨HL.out.1.trans (hb.mono HL.out.1.size), HL.out.2.below hb HL.out.2.lt⟩)
      clear q1 hb HL d0
      cases z1
      · have hbf : b6 = false := by rw [← HC.out.2.1]; exact all_not HO.out.2 (by rw [HO.out.1]; rfl)
        subst hbf
        clear hall HC HO ka q2 hcase2
        go_wp2_with fail
        go_ret
        exact ⟨by rw [HD.out]; rfl, H5.out.1⟩
      have d1 := H5.out.2.cell 1
      go_wp2_with fail
      refine (q2.out _).mono ?_
      rintro e w6 ⟨rfl, hb⟩
      have H6 := Lib.hid (show _ ∧ _ from ⟨H5.out.1.trans (hb.mono H5.out.1.size), H5.out.2.below hb H5.out.2.lt⟩)
      clear q2 hb H5 d1
      cases z2
      · have hbf : b6 = false := by rw [← HC.out.2.1]; exact all_not HO.out.2 (by rw [HO.out.1]; rfl)
        subst hbf
        clear hall HC HO ka hcase2
        go_wp2_with fail
        go_ret
        exact ⟨by rw [HD.out]; rfl, H6.out.1⟩
      have d6 := H6.out.2.cell 6
      rcases hcase2 with ⟨h11, hd⟩ | ⟨h11, hd⟩
      case inr =>
        have HD2 := Lib.hid hd
        clear hd
        have hbf : b6 = false := by rw [← HC.out.2.1]; exact all_not HO.out.2 (by rw [HO.out.1, HD2.out]; rfl)
        subst hbf
        clear hall HC HO ka
        go_wp2_with fail
        go_ret
        exact ⟨by rw [HD.out]; rfl, H6.out.1⟩
      have HD2 := Lib.hid hd
      clear hd
      have d2 := H6.out.2.cell 2
      have d3 := H6.out.2.cell 3
      have d4 := H6.out.2.cell 4
      have d5 := H6.out.2.cell 5
      go_wp2_with fail
      refine (ka.out _).mono ?_
      rintro e w7 ⟨rfl, hb⟩
      have H7 := Lib.hid (H6.out.1.trans (hb.mono H6.out.1.size))
      clear ka hb H6 d2 d3 d4 d5 d6
      cases z4
      · have hbf : b6 = false := by rw [← HC.out.2.1]; exact all_not HO.out.2 (by rw [HO.out.1, HD2.out]; rfl)
        subst hbf
        clear hall HC HO 
        go_wp2_with fail
        go_ret
        exact ⟨by rw [HD.out]; rfl, H7.out⟩
      · go_wp2_with fail
        go_roundg (gk - 1)
        case measure => omega
        case rel =>
          refine ⟨i + 1, by omega, by go_num, Lib.hid fun j e hj hje => ?_, H7⟩
          rcases Nat.lt_or_ge j i with h | h
          · exact hall.out j e h hje
          · obtain rfl : j = i := by omega
            have h1 := HO.out.2.symm.trans hje
            injection h1 with h1
            rw [← h1, HO.out.1, HD2.out]
            rfl
    · obtain rfl : i = nl := by omega
      have hlt : ¬ (i : Int) < (i : Int) := by omega
      have hbt : b6 = true := by rw [← HC.out.2.1]; exact all_all (fun j e hj hje => hall.out j e (by have := HC.out.2.2.2; omega) hje)
      subst hbt
      go_wp2_with fail
      go_ret
      exact ⟨by rw [HD.out]; rfl, hinv.out⟩
end Go.Proofs.Ytpdenhmkpiafiaa
namespace Go.Proofs.Ytpdenhmkpiafiaa
open Go Go.RowKit K6
theorem shp_et (k : Int) : (shpOf k).e = true → (shpOf k).t = true := by
  unfold shpOf
  split
  · rename_i h
    have h2 : k = 1 ∨ k = 2 ∨ k = 3 ∨ k = 4 ∨ k = 5 ∨ k = 6 ∨ k = 7 ∨ k = 8 ∨ k = 9 ∨ k = 10 ∨ k = 11 ∨ k = 12 ∨ k = 13 ∨ k = 14 ∨ k = 15 ∨ k = 16 ∨ k = 17 ∨ k = 18 ∨ k = 19 ∨ k = 20 ∨ k = 21 ∨ k = 22 ∨ k = 23 ∨ k = 24 ∨ k = 25 ∨ k = 26 ∨ k = 27 ∨ k = 28 := by omega
    rcases h2 with rfl | rfl | rfl | rfl | rfl | rfl | rfl | rfl | rfl | rfl | rfl | rfl | rfl | rfl | rfl | rfl | rfl | rfl | rfl | rfl | rfl | rfl | rfl | rfl | rfl | rfl | rfl | rfl <;> decide
  · decide
set_option maxRecDepth 100000 in
set_option maxHeartbeats 64000000 in
theorem rgood_at (t : Txv) (w : World) (ht : TxOk w t) (hl : LightT t) :
    Calls Try.prog 137 #[.agg t.cs.toArray] w fun r w' => r = .returned (.bool (goodK t.key)) ∧ Below w.heap.size w w' := by
  have hsn := shp_n t.k
  have het := shp_et t.k
  have kO := fun wx => rof15_at t.k wx
  have kG := fun wx (hb : Below w.heap.size w wx) => rgoodClaim_at t.c wx (ht.c.below hb) (by have := hl.p; omega) (by have := hl.l; omega) (fun e he => by have := hl.q e he; omega)
  have kS := fun wx (hb : Below w.heap.size w wx) => rsameClaim_at t.c cm0 wx (ht.c.below hb) (cm0_ok wx) (by have := hl.p; omega) (by have := hl.l; omega) (fun e he => by have := hl.q e he; omega)
  have hok : goodK t.key = (okK t.k && (decide (1 ≤ t.f ∧ t.f ≤ 4294967295) && (cntB (shpOf t.k) t.n.length t.a.length t.h.length && (numsB (shpOf t.k).n t.n && (t.a.all okA && (if (shpOf t.k).c = true then goodCK t.c.key else decide (t.c.key = cm0.key))))))) := rfl
  obtain ⟨S, hS⟩ : ∃ S, shpOf t.k = S := ⟨_, rfl⟩
  unfold OfP at kO
  rw [hS] at kO hok hsn het
  obtain ⟨sn, st, sa, se, sh, sc⟩ := S
  simp only [Shp.cs] at kO hok hsn het
  obtain ⟨b0, hb0⟩ : ∃ b, okK t.k = b := ⟨_, rfl⟩
  obtain ⟨b3, hb3⟩ : ∃ b, numsB sn t.n = b := ⟨_, rfl⟩
  obtain ⟨b4, hb4⟩ : ∃ b, t.a.all okA = b := ⟨_, rfl⟩
  obtain ⟨b5, hb5⟩ : ∃ b, goodCK t.c.key = b := ⟨_, rfl⟩
  obtain ⟨b6, hb6⟩ : ∃ b, decide (t.c.key = cm0.key) = b := ⟨_, rfl⟩
  rw [hb0] at kO
  rw [hb5] at kG
  rw [hb6] at kS
  rw [hb0, hb3, hb4, hb5, hb6] at hok
  have x0 := tA0 t
  have x1 := tA1 t
  have x2 := tA2 t
  have x3 := tA3 t
  have x4 := tA4 t
  have hcsz : t.c.cs.toArray.size = 38 := by rw [List.size_toArray]; exact Cm.len ht.c.tok
  have hmid := Txv.c_ t
  have HN := ht.n
  have HA := ht.a
  have hab := ht.ab
  unfold Txv.nv at HN
  unfold Txv.av at HA
  obtain ⟨m, hm⟩ : ∃ m, t.n.length = m := ⟨_, rfl⟩
  obtain ⟨nA, hnA⟩ : ∃ m, t.a.length = m := ⟨_, rfl⟩
  obtain ⟨nH, hnH⟩ : ∃ m, t.h.length = m := ⟨_, rfl⟩
  obtain ⟨nq, hnq⟩ : ∃ q, t.nq = q := ⟨_, rfl⟩
  obtain ⟨nc, hnc⟩ : ∃ q, t.nc = q := ⟨_, rfl⟩
  obtain ⟨aq, haq⟩ : ∃ q, t.aq = q := ⟨_, rfl⟩
  obtain ⟨ac, hac⟩ : ∃ q, t.ac = q := ⟨_, rfl⟩
  obtain ⟨hq, hhq⟩ : ∃ q, t.hq = q := ⟨_, rfl⟩
  obtain ⟨hc, hhc⟩ : ∃ q, t.hc = q := ⟨_, rfl⟩
  have hm50 : m ≤ 50 := by have := hl.n; omega
  have hA50 : nA ≤ 50 := by have := hl.a; omega
  have hH50 : nH ≤ 50 := by have := hl.h; omega
  rw [hm, hnq, hnc] at x2 HN
  rw [hnA, haq, hac] at x3 HA
  rw [hnH, hhq, hhc] at x4
  rw [hm, hnA, hnH] at hok
  obtain ⟨ct, hct⟩ : ∃ c, t.cs.toArray = c := ⟨_, rfl⟩
  obtain ⟨cc5, hcc⟩ : ∃ c, t.c.cs.toArray = c := ⟨_, rfl⟩
  rw [hct] at x0 x1 x2 x3 x4 hmid ⊢
  rw [hcc] at hcsz hmid kG kS
  obtain ⟨tk, htk⟩ : ∃ k, t.k = k := ⟨_, rfl⟩
  obtain ⟨tf, htf⟩ : ∃ k, t.f = k := ⟨_, rfl⟩
  rw [htk] at x0 kO
  rw [htf] at x1 hok
  obtain ⟨ln, hln⟩ : ∃ l, t.n = l := ⟨_, rfl⟩
  obtain ⟨la, hla⟩ : ∃ l, t.a = l := ⟨_, rfl⟩
  rw [hln] at HN hm hb3
  rw [hla] at HA hnA hb4 hab
  obtain ⟨BB, hBB⟩ : ∃ b, goodK t.key = b := ⟨_, rfl⟩
  rw [hBB] at hok ⊢
  obtain ⟨T, hT⟩ : ∃ T, (m : Int) - sn = T := ⟨_, rfl⟩
  have wT : IntKind.i64.wrap ((m : Int) - sn) = T := by rw [IntKind.wrap_i64]; omega
  unfold cntB at hok
  simp only [hT] at hok
  have HB := Lib.hid (show ((b0 = false ∨ tf < 1 ∨ 4294967295 < tf ∨ (nH : Int) ≠ sh ∨ (st = false ∧ T ≠ 0) ∨ (st = true ∧ (T < 1 ∨ 8 < T)) ∨ (se = true ∧ (nA : Int) ≠ T) ∨ (se = false ∧ (nA : Int) ≠ sa) ∨ b3 = false ∨ b4 = false) → BB = false) ∧
      (b0 = true → 1 ≤ tf → tf ≤ 4294967295 → (nH : Int) = sh → (st = false → T = 0) → (st = true → 1 ≤ T ∧ T ≤ 8) → (se = true → (nA : Int) = T) → (se = false → (nA : Int) = sa) → b3 = true → b4 = true → (if sc = true then b5 else b6) = BB) from by
    rw [hok]
    constructor
    · intro h
      rcases h with h | h | h | h | ⟨h, h'⟩ | ⟨h, h'⟩ | ⟨h, h'⟩ | ⟨h, h'⟩ | h | h
      · simp [h]
      · simp only [decide_eq_false (show ¬ (1 ≤ tf ∧ tf ≤ 4294967295) by omega), Bool.false_and, Bool.and_false]
      · simp only [decide_eq_false (show ¬ (1 ≤ tf ∧ tf ≤ 4294967295) by omega), Bool.false_and, Bool.and_false]
      · simp only [decide_eq_false h, Bool.false_and, Bool.and_false]
      · subst h
        simp only [if_neg (show ¬ (false = true) by decide), decide_eq_false h', Bool.false_and, Bool.and_false]
      · subst h
        simp only [if_pos trivial, decide_eq_false (show ¬ (1 ≤ T ∧ T ≤ 8) by omega), Bool.false_and, Bool.and_false]
      · subst h
        simp only [if_pos trivial, decide_eq_false h', Bool.false_and, Bool.and_false]
      · subst h
        simp only [if_neg (show ¬ (false = true) by decide), decide_eq_false h', Bool.false_and, Bool.and_false]
      · simp [h]
      · simp [h]
    · intro h1 h2 h3 h4 h5 h6 h7 h8 h9 h10
      have e1 : (if st = true then decide (1 ≤ T ∧ T ≤ 8) else decide (T = 0)) = true := by
        cases st
        · exact decide_eq_true (h5 rfl)
        · exact decide_eq_true (h6 rfl)
      have e2 : decide ((nA : Int) = if se = true then T else sa) = true := by
        cases se
        · exact decide_eq_true (h8 rfl)
        · exact decide_eq_true (h7 rfl)
      rw [h1, decide_eq_true (show 1 ≤ tf ∧ tf ≤ 4294967295 from ⟨h2, h3⟩), e1, e2, decide_eq_true h4, h9, h10]
      simp)
  have HN1 := Lib.hid (show _ ∧ _ ∧ _ ∧ _ from ⟨HN, hm, hb3, hsn⟩)
  have HA1 := Lib.hid (show _ ∧ _ ∧ _ ∧ _ from ⟨HA, hab, hnA, hb4⟩)
  have HET := Lib.hid het
  replace kO := Lib.hid kO
  replace kG := Lib.hid kG
  replace kS := Lib.hid kS
  have hmi : (m : Int) ≤ 50 := by omega
  have hAi : (nA : Int) ≤ 50 := by omega
  have hHi : (nH : Int) ≤ 50 := by omega
  clear hS hok hb0 hb3 hb4 hb5 hb6 hm hnA hnH hnq hnc haq hac hhq hhc hct hcc htk htf hln hla ht hl hm50 hA50 hH50 hsn het HN HA hab hBB hT
  go_enter Try.func137, Try.ntmps137
  go_upto_region 1 with (fail)
  refine wp_abs (Mem w [(w.heap.size, 116, ct)]) ⟨by go_grown, by (repeat (first | (refine Row.new_at ?_; simp; done) | refine Row.alloc ?_ _)), trivial⟩ ?_
  intro w0 hM
  obtain ⟨hl, r1, -⟩ := hM
  let L : List Sp := [sV 2 [] [] (fun u => u = .tuple #[.agg #[.int .i64 sn, .bool st, .int .i64 sa, .bool se, .int .i64 sh, .bool sc], .bool b0]), sA 6 118 [7] #[.int .i64 0, .bool false, .int .i64 0, .bool false, .int .i64 0, .bool false], sT 7 6 118 [4] (fun g => aggOf g 4)]
  refine wp_region_six0 (shs L) (look6 L) (None_) (by kernel_rfl) (by kernel_rfl) (mk_St L [] [] (by kernel_rfl) (by kernel_rfl) ⟨ok_V ⟨_, rfl⟩, ok_A, ok_T aggOf_congr, trivial⟩ (by simp)) ?_
  intro QQ hQ
  refine stepK rfl (by kernel_rfl) (fun K hK => ?_); go_simp
  apply Exists.intro; apply And.intro; (focus (intro wk hk; go_simp; exact ⟨rfl, rfl⟩)); refine hK _ _ ?_; clear hK K
  refine stepK rfl (by kernel_rfl) (fun K hK => ?_); go_simp
  apply Exists.intro; apply And.intro; (focus (intro wk hk; have cc : wk.cell? ⟨w.heap.size, 0, none⟩ = some (.int .i64 tk) := ((K6.Row.tr r1 hk id).cell 0).trans x0; go_simp; exact ⟨rfl, rfl⟩)); refine hK _ _ ?_; clear hK K
  refine stepS _ rfl (by kernel_rfl) (fun K hK => ?_); go_simp
  refine ⟨?_, ?_⟩
  · intro wk hk hg hu; go_simp; refine upon_enter ((kO.out _).mono ?_); rintro e w' ⟨rfl, hb⟩; exact ⟨_, rfl, left_V (p := fun u => u = .tuple #[.agg #[.int .i64 sn, .bool st, .int .i64 sa, .bool se, .int .i64 sh, .bool sc], .bool b0]) rfl (hb) rfl⟩
  rintro ⟨v2, lo2, hi2⟩ - - (rfl : v2 = _)
  refine hK _ _ ?_; clear hK K
  refine stepK rfl (by kernel_rfl) (fun K hK => ?_); go_simp
  apply Exists.intro; apply And.intro; (focus (intro wk hk; go_simp; exact ⟨rfl, rfl⟩)); refine hK _ _ ?_; clear hK K
  refine stepK rfl (by kernel_rfl) (fun K hK => ?_); go_simp
  apply Exists.intro; apply And.intro; (focus (intro wk hk; go_simp; exact ⟨rfl, rfl⟩)); refine hK _ _ ?_; clear hK K
  refine stepK rfl (by kernel_rfl) (fun K hK => ?_); go_simp
  apply Exists.intro; apply And.intro; (focus (intro wk hk; go_simp; exact ⟨rfl, rfl⟩)); refine hK _ _ ?_; clear hK K
  refine stepS _ rfl (by kernel_rfl) (fun K hK => ?_); go_simp
  refine ⟨?_, ?_⟩
  · intro wk hk hg hu; go_simp; exact left_A rfl rfl
  rintro ⟨v6, lo6, hi6⟩ hlo6 hhi6 ⟨e6, f6⟩
  replace e6 : v6 = .pointer (some ⟨lo6, 0, none⟩) := e6; replace f6 : hi6 = lo6 + 1 := f6; replace hlo6 : _ ≤ lo6 := hlo6; subst e6; subst f6
  refine hK _ _ ?_; clear hK K
  refine stepS _ rfl (by kernel_rfl) (fun K hK => ?_); go_simp
  refine ⟨?_, ?_⟩
  · exact sStoreT rfl rfl rfl rfl rfl rfl rfl (by kernel_rfl) rfl (by kernel_rfl) (by decide) aggOf_congr
  rintro ⟨v7, lo7, hi7⟩ - - (rfl : v7 = undef)
  refine hK _ _ ?_; clear hK K
  refine stepK rfl (by kernel_rfl) (fun K hK => ?_); go_simp
  apply Exists.intro; apply And.intro; (focus (intro wk hk; go_simp; exact ⟨rfl, rfl⟩)); refine hK _ _ ?_; clear hK K
  refine stepN ?_
  refine hQ _ _ ?_
  intro w1 hT hG hF
  have hb1 := hT.below
  have r3 : Row w1 lo6 118 (#[.int .i64 sn, .bool st, .int .i64 sa, .bool se, .int .i64 sh, .bool sc]) := (hF 7 _ rfl rfl (by decide)).2
  have hl := hl.trans (hb1.mono hl.size)
  have r1 := r1.below hb1 r1.lt
  clear hT hG hF hQ QQ L hb1 kO hhi6 hlo6
  have HL := Lib.hid (show Below w.heap.size w w1 ∧ Row w1 w.heap.size 116 ct ∧ Row w1 lo6 118 (#[.int .i64 sn, .bool st, .int .i64 sa, .bool se, .int .i64 sh, .bool sc]) from ⟨hl, r1, r3⟩)
  have d1 := (r1.cell 1).trans x1
  have d2 := (r1.cell 2).trans x2
  have d3 := (r1.cell 3).trans x3
  have d4 := (r1.cell 4).trans x4
  have e0 := r3.cell 0
  have e1 := r3.cell 1
  have e2 := r3.cell 2
  have e3 := r3.cell 3
  have e4 := r3.cell 4
  clear hl r1 r3
  cases b0
  · have hbb := HB.out.1 (.inl rfl)
    subst hbb
    clear HB HN1 HA1 HET kG kS
    go_wp2_with fail
    go_ret
    exact ⟨rfl, HL.out.1⟩
  by_cases hf1 : tf < 1
  · have hbb := HB.out.1 (.inr (.inl hf1))
    subst hbb
    clear HB HN1 HA1 HET kG kS
    go_wp2_with fail
    go_ret
    exact ⟨rfl, HL.out.1⟩
  have hf1' : 1 ≤ tf := by omega
  clear hf1
  by_cases hf2 : 4294967295 < tf
  · have hbb := HB.out.1 (.inr (.inr (.inl hf2)))
    subst hbb
    clear HB HN1 HA1 HET kG kS
    go_wp2_with fail
    go_ret
    exact ⟨rfl, HL.out.1⟩
  have hf2' : tf ≤ 4294967295 := by omega
  clear hf2
  by_cases hh : (nH : Int) = sh
  case neg =>
    have qh : ((nH : Int) != sh) = true := by rw [bne_iff_ne]; exact hh
    have hbb := HB.out.1 (.inr (.inr (.inr (.inl hh))))
    subst hbb
    clear HB HN1 HA1 HET kG kS hh
    go_wp2_with fail
    go_ret
    exact ⟨rfl, HL.out.1⟩
  have qh : ((nH : Int) != sh) = false := by rw [hh]; exact bne_self_eq_false _
  have HH := Lib.hid hh
  clear hh
  cases st
  · -- no tail
    have hse : se = false := by cases se; rfl; exact absurd (HET.out rfl) (by decide)
    subst hse
    by_cases hT0 : T = 0
    case neg =>
      have qT : (T != 0) = true := by rw [bne_iff_ne]; exact hT0
      have hbb := HB.out.1 (.inr (.inr (.inr (.inr (.inl ⟨rfl, hT0⟩)))))
      subst hbb
      clear HB HN1 HA1 HET kG kS hT0 HH
      go_wp2_with fail
      go_ret
      exact ⟨rfl, HL.out.1⟩
    have qT : (T != 0) = false := by rw [hT0]; rfl
    have HT0 := Lib.hid hT0
    clear hT0
    by_cases hA : (nA : Int) = sa
    case neg =>
      have qA : ((nA : Int) != sa) = true := by rw [bne_iff_ne]; exact hA
      have hbb := HB.out.1 (.inr (.inr (.inr (.inr (.inr (.inr (.inr (.inl ⟨rfl, hA⟩))))))))
      subst hbb
      clear HB HN1 HA1 HET kG kS hA HH HT0
      go_wp2_with fail
      go_ret
      exact ⟨rfl, HL.out.1⟩
    have qA : ((nA : Int) != sa) = false := by rw [hA]; exact bne_self_eq_false _
    have HAs := Lib.hid hA
    clear hA
    have HB2 := Lib.hid (show (b3 = false ∨ b4 = false → BB = false) ∧ (b3 = true → b4 = true → (if sc = true then b5 else b6) = BB) from ⟨fun h => HB.out.1 (.inr (.inr (.inr (.inr (.inr (.inr (.inr (.inr h)))))))), fun h3 h4 => HB.out.2 rfl hf1' hf2' HH.out (fun _ => HT0.out) (fun h => (by cases h)) (fun h => (by cases h)) (fun _ => HAs.out) h3 h4⟩)
    clear HB HET
    go_wp2_with fail
    clear d1 d2 d3 d4 e0 e1 e2 e3 e4
    go_loopg [6, 7, 86] m (fun gg s6 s7 s86 wr => ∃ i : Nat, i + gg = m ∧ s86 = .int .i64 (i : Int) ∧ Hid (∀ j, j < i → numJ sn ln j) ∧ Hid (Below w.heap.size w wr ∧ Row wr w.heap.size 116 ct ∧ Row wr lo6 118 (#[.int .i64 sn, .bool false, .int .i64 sa, .bool false, .int .i64 sh, .bool sc])))
    case atStart => exact ⟨0, by omega, rfl, Lib.hid (fun j h => absurd h (Nat.not_lt_zero j)), HL⟩
    case round =>
      clear HL
      obtain ⟨i, him, rfl, hall, hinv⟩ := hrel
      by_cases hi : i < m
      · obtain ⟨x, hx⟩ : ∃ x, ln[i]? = some x := ⟨_, List.getElem?_eq_getElem (by have := HN1.out.2.1; omega)⟩
        have hiln : i < ln.length := (List.getElem?_eq_some_iff.1 hx).1
        obtain ⟨gx, ox, cx', hu, hgx, hcx⟩ := (HN1.out.1.below hinv.out.1).get hx
        simp only [Value.slice.injEq] at hu
        obtain ⟨rfl, -, -⟩ := hu
        have cx0 : wr.cell? ⟨gx, ox + i, none⟩ = some (.int .i64 x) := by have h := hcx 0 _ rfl; simpa using h
        have hDx := Lib.hid (show ln.getD i 0 = x ∧ i < ln.length from ⟨get_D hx, hiln⟩)
        have hlt : (i : Int) < (m : Int) := by omega
        have d2 := (hinv.out.2.1.cell 2).trans x2
        have e0 := hinv.out.2.2.cell 0
        clear hcx hiln hx
        by_cases hx1 : x < 0
        · have hbb := HB2.out.1 (.inl (by rw [← HN1.out.2.2.1]; exact nums_no hDx.out.2 (fun h => by have := h.1; rw [hDx.out.1] at this; omega)))
          subst hbb
          clear HN1 HA1 hall hDx kG kS HB2 hgx
          go_wp2_with fail
          go_ret
          exact ⟨rfl, hinv.out.1⟩
        have hx1' : 0 ≤ x := by omega
        clear hx1
        by_cases hx2 : 1099511627776 < x
        · have hbb := HB2.out.1 (.inl (by rw [← HN1.out.2.2.1]; exact nums_no hDx.out.2 (fun h => by have := h.1; rw [hDx.out.1] at this; omega)))
          subst hbb
          clear HN1 HA1 hall hDx kG kS HB2 hgx
          go_wp2_with fail
          go_ret
          exact ⟨rfl, hinv.out.1⟩
        have hx2' : x ≤ 1099511627776 := by omega
        clear hx2
        by_cases hg : sn < (i : Int)
        case neg =>
          have hnext := Lib.hid (show ∀ j, j < i + 1 → numJ sn ln j from fun j hj => by
            rcases Nat.lt_or_ge j i with h | h
            · exact hall.out j h
            · obtain rfl : j = i := by omega
              exact ⟨by rw [hDx.out.1]; exact ⟨hx1', hx2'⟩, fun h2 => absurd h2 hg⟩)
          clear hall hDx hgx
          go_wp2_with fail
          go_roundg (gk - 1)
          case measure => omega
          case rel => exact ⟨i + 1, by omega, by go_num, hnext, hinv⟩
        obtain ⟨k, hk⟩ : ∃ k, i = k + 1 := ⟨i - 1, by have := HN1.out.2.2.2; omega⟩
        obtain ⟨y, hy⟩ : ∃ y, ln[k]? = some y := ⟨_, List.getElem?_eq_getElem (by have := HN1.out.2.1; omega)⟩
        obtain ⟨gy, oy, cy', hu, hgy, hcy⟩ := (HN1.out.1.below hinv.out.1).get hy
        simp only [Value.slice.injEq, Option.some.injEq, Addr.mk.injEq] at hu
        obtain ⟨⟨rfl, rfl, -⟩, -, -⟩ := hu
        have cy0 : wr.cell? ⟨gx, ox + k, none⟩ = some (.int .i64 y) := by have h := hcy 0 _ rfl; simpa using h
        have wJ : IntKind.i64.wrap ((i : Int) - 1) = (k : Int) := by rw [IntKind.wrap_i64]; omega
        have hkm : (k : Int) < (m : Int) := by omega
        have hDy := Lib.hid (show ln.getD (i - 1) 0 = y by rw [hk]; exact get_D hy)
        clear hcy hy hgy hgx
        by_cases hxy : x ≤ y
        · have hbb := HB2.out.1 (.inl (by rw [← HN1.out.2.2.1]; exact nums_no hDx.out.2 (fun h => by have := h.2 hg; rw [hDx.out.1, hDy.out] at this; omega)))
          subst hbb
          clear HN1 HA1 hall hDx hDy kG kS HB2 hk
          go_wp2_with fail
          go_ret
          exact ⟨rfl, hinv.out.1⟩
        · have hnext := Lib.hid (show ∀ j, j < i + 1 → numJ sn ln j from fun j hj => by
            rcases Nat.lt_or_ge j i with h | h
            · exact hall.out j h
            · obtain rfl : j = i := by omega
              exact ⟨by rw [hDx.out.1]; exact ⟨hx1', hx2'⟩, fun h2 => by rw [hDx.out.1, hDy.out]; omega⟩)
          clear hall hDx hDy hk
          go_wp2_with fail
          go_roundg (gk - 1)
          case measure => omega
          case rel => exact ⟨i + 1, by omega, by go_num, hnext, hinv⟩
      · obtain rfl : i = m := by omega
        have hlt : ¬ (i : Int) < (i : Int) := by omega
        have HB3 := Lib.hid (show (b4 = false → BB = false) ∧ (b4 = true → (if sc = true then b5 else b6) = BB) from ⟨fun h => HB2.out.1 (.inr h), HB2.out.2 (by rw [← HN1.out.2.2.1]; exact nums_yes (fun j hj => hall.out j (by have := HN1.out.2.1; omega)))⟩)
        have d3 := (hinv.out.2.1.cell 3).trans x3
        have HL := hinv
        clear hall HN1 HB2 hinv
        go_wp2_with fail
        clear d3
        go_loopg [117] nA (fun gg s117 wr => ∃ i : Nat, i + gg = nA ∧ s117 = .int .i64 (i : Int) ∧ Hid (∀ (j : Nat) (x : Nat), j < i → la[j]? = some x → okA x = true) ∧ Hid (Below w.heap.size w wr ∧ Row wr w.heap.size 116 ct ∧ Row wr lo6 118 (#[.int .i64 sn, .bool false, .int .i64 sa, .bool false, .int .i64 sh, .bool sc])))
        case atStart => exact ⟨0, by omega, rfl, Lib.hid (fun j e h => absurd h (Nat.not_lt_zero j)), HL⟩
        case round =>
          clear HL
          obtain ⟨i2, him2, rfl, hall, hinv⟩ := hrel
          by_cases hi2 : i2 < nA
          · obtain ⟨x, hx⟩ : ∃ x, la[i2]? = some x := ⟨_, List.getElem?_eq_getElem (by have := HA1.out.2.2.1; omega)⟩
            obtain ⟨gx, ox, cx', hu, hgx, hcx⟩ := (HA1.out.1.below hinv.out.1).elem hx
            simp only [Value.slice.injEq] at hu
            obtain ⟨rfl, -, -⟩ := hu
            have ka := fun wx => refAmountU (HA1.out.2.1 x (List.mem_of_getElem? hx)) wx
            obtain ⟨bz, hbz⟩ : ∃ b, okA x = b := ⟨_, rfl⟩
            have hbz' : decide (x < M2) = bz := hbz
            simp only [hbz'] at ka
            obtain ⟨Y, hY⟩ : ∃ Y, W4 x = Y := ⟨_, rfl⟩
            have hYsz := W4_size x
            have hYone := W4_one_ x
            simp only [hY] at ka
            rw [hY] at hYsz hYone hcx
            have hinf := info31 hYsz
            replace ka := Lib.hid ka
            have HO := Lib.hid (show _ ∧ _ from ⟨hbz, hx⟩)
            clear hY hbz hbz' hx
            have hlt2 : (i2 : Int) < (nA : Int) := by omega
            go_upto_region 17 with (fail)
            let L : List Sp := [sA 2 31 [3] #[.int .u64 0, .int .u64 0, .int .u64 0, .int .u64 0], sT 3 2 31 [1] (fun g => aggOf g 1)]
            refine wp_region_six0 (shs L) (look6 L) (None_) (by kernel_rfl) (by kernel_rfl) (mk_St L [] [] (by kernel_rfl) (by kernel_rfl) ⟨ok_A, ok_T aggOf_congr, trivial⟩ (by simp)) ?_
            intro QQ hQ
            refine stepK rfl (by kernel_rfl) (fun K hK => ?_); go_simp
            apply Exists.intro; apply And.intro; (focus (intro wk hk; go_simp; exact ⟨rfl, rfl⟩)); refine hK _ _ ?_; clear hK K
            refine stepK rfl (by kernel_rfl) (fun K hK => ?_); go_simp
            apply Exists.intro; apply And.intro; (focus exact kLoadA rfl rfl aggT31 hcx hYsz hgx id); refine hK _ _ ?_; clear hK K
            refine stepS _ rfl (by kernel_rfl) (fun K hK => ?_); go_simp
            refine ⟨?_, ?_⟩
            · intro wk hk hg hu; go_simp; exact left_A rfl rfl
            rintro ⟨v2, lo2, hi2⟩ hlo2 hhi2 ⟨e2, f2⟩
            replace e2 : v2 = .pointer (some ⟨lo2, 0, none⟩) := e2; replace f2 : hi2 = lo2 + 1 := f2; replace hlo2 : _ ≤ lo2 := hlo2; subst e2; subst f2
            refine hK _ _ ?_; clear hK K
            refine stepS _ rfl (by kernel_rfl) (fun K hK => ?_); go_simp
            refine ⟨?_, ?_⟩
            · exact sStoreT rfl rfl rfl rfl rfl rfl rfl hinf hYsz.symm hYone (by decide) aggOf_congr
            rintro ⟨v3, lo3, hi3⟩ - - (rfl : v3 = undef)
            refine hK _ _ ?_; clear hK K
            refine stepN ?_
            refine hQ _ _ ?_
            intro w4 hT hG hF
            have hbw4 := hT.below
            have rY : Row w4 lo2 31 Y := (hF 3 _ rfl rfl (by decide)).2
            clear hT hG hF hQ QQ L hcx hgx
            have HL4 := Lib.hid (show Below w.heap.size w w4 ∧ Row w4 w.heap.size 116 ct ∧ Row w4 lo6 118 (#[.int .i64 sn, .bool false, .int .i64 sa, .bool false, .int .i64 sh, .bool sc]) from ⟨hinv.out.1.trans (hbw4.mono hinv.out.1.size), hinv.out.2.1.below hbw4 hinv.out.2.1.lt, hinv.out.2.2.below hbw4 hinv.out.2.2.lt⟩)
            clear hinv hbw4 hYone hinf
            go_upto_region 18 with (fail)
            let L : List Sp := [sV 1 [] [] (fun u => u = .bool bz)]
            refine wp_region_six0 (shs L) (look6 L) (None_) (by kernel_rfl) (by kernel_rfl) (mk_St L [] [] (by kernel_rfl) (by kernel_rfl) ⟨ok_V ⟨_, rfl⟩, trivial⟩ (by simp)) ?_
            intro QQ hQ
            refine stepK rfl (by kernel_rfl) (fun K hK => ?_); go_simp
            apply Exists.intro; apply And.intro; (focus exact kLoad rfl rfl aggT31 rY hYsz id); refine hK _ _ ?_; clear hK K
            refine stepS _ rfl (by kernel_rfl) (fun K hK => ?_); go_simp
            refine ⟨?_, ?_⟩
            · intro wk hk hg hu; go_simp; refine upon_enter ((ka.out _).mono ?_); rintro e w' ⟨rfl, hb⟩; exact ⟨_, rfl, left_V (p := fun u => u = .bool bz) rfl (hb) rfl⟩
            rintro ⟨v1, lo1, hi1⟩ - - (rfl : v1 = _)
            refine hK _ _ ?_; clear hK K
            refine stepK rfl (by kernel_rfl) (fun K hK => ?_); go_simp
            apply Exists.intro; apply And.intro; (focus (intro wk hk; go_simp; exact ⟨rfl, rfl⟩)); refine hK _ _ ?_; clear hK K
            refine stepN ?_
            refine hQ _ _ ?_
            intro w5 hT hG hF
            have hb5 := hT.below
            have HL5 := Lib.hid (show Below w.heap.size w w5 ∧ Row w5 w.heap.size 116 ct ∧ Row w5 lo6 118 (#[.int .i64 sn, .bool false, .int .i64 sa, .bool false, .int .i64 sh, .bool sc]) from ⟨HL4.out.1.trans (hb5.mono HL4.out.1.size), HL4.out.2.1.below hb5 HL4.out.2.1.lt, HL4.out.2.2.below hb5 HL4.out.2.2.lt⟩)
            clear hT hG hF hQ QQ L HL4 rY hb5 ka hYsz
            cases bz
            · have hbb := HB3.out.1 (by rw [← HA1.out.2.2.2]; exact all_not HO.out.2 HO.out.1)
              subst hbb
              clear hall HA1 HO kG kS HB3
              go_wp2_with fail
              go_ret
              exact ⟨rfl, HL5.out.1⟩
            · go_wp2_with fail
              go_roundg (gk - 1)
              case measure => omega
              case rel =>
                refine ⟨i2 + 1, by omega, by go_num, Lib.hid fun j e hj hje => ?_, HL5⟩
                rcases Nat.lt_or_ge j i2 with h | h
                · exact hall.out j e h hje
                · obtain rfl : j = i2 := by omega
                  have h1 := HO.out.2.symm.trans hje
                  injection h1 with h1
                  rw [← h1]
                  exact HO.out.1
          · obtain rfl : i2 = nA := by omega
            have hlt2 : ¬ (i2 : Int) < (i2 : Int) := by omega
            have hbx := Lib.hid (HB3.out.2 (by rw [← HA1.out.2.2.2]; exact all_all (fun j e hj hje => hall.out j e (by have := HA1.out.2.2.1; omega) hje)))
            clear hall HA1 HB3
            have e5 := hinv.out.2.2.cell 5
            cases sc
            · have hbx' : b6 = BB := by have h := hbx.out; simpa using h
              subst hbx'
              clear hbx
              go_upto_region 23 with (fail)
              have hl := hinv.out.1
              have r1 := hinv.out.2.1
              clear hinv e5 kG
              let L : List Sp := [sV 3 [] [] (fun u => u = .bool b6)]
              refine wp_region_six0 (shs L) (look6 L) (None_) (by kernel_rfl) (by kernel_rfl) (mk_St L [] [] (by kernel_rfl) (by kernel_rfl) ⟨ok_V ⟨_, rfl⟩, trivial⟩ (by simp)) ?_
              intro QQ hQ
              refine stepK rfl (by kernel_rfl) (fun K hK => ?_); go_simp
              apply Exists.intro; apply And.intro; (focus (intro wk hk; go_simp; exact ⟨rfl, rfl⟩)); refine hK _ _ ?_; clear hK K
              refine stepK rfl (by kernel_rfl) (fun K hK => ?_); go_simp
              apply Exists.intro; apply And.intro; (focus exact kLoadMid rfl rfl aggT114 r1 hmid hcsz id); refine hK _ _ ?_; clear hK K
              refine stepK rfl (by kernel_rfl) (fun K hK => ?_); go_simp
              apply Exists.intro; apply And.intro; (focus (intro wk hk; go_simp; exact ⟨rfl, rfl⟩)); refine hK _ _ ?_; clear hK K
              refine stepS _ rfl (by kernel_rfl) (fun K hK => ?_); go_simp
              refine ⟨?_, ?_⟩
              · intro wk hk hg hu; go_simp; refine upon_enter ((kS.out _ (hl.trans (hk.below.mono hl.size))).mono ?_); rintro e w' ⟨rfl, hb⟩; exact ⟨_, rfl, left_V (p := fun u => u = .bool b6) rfl (hb) rfl⟩
              rintro ⟨v3, lo3, hi3⟩ - - (rfl : v3 = _)
              refine hK _ _ ?_; clear hK K
              refine stepK rfl (by kernel_rfl) (fun K hK => ?_); go_simp
              apply Exists.intro; apply And.intro; (focus (intro wk hk; go_simp; exact ⟨rfl, rfl⟩)); refine hK _ _ ?_; clear hK K
              refine stepN ?_
              refine hQ _ _ ?_
              intro w9 hT hG hF
              have H9 := Lib.hid (hl.trans (hT.below.mono hl.size))
              clear hT hG hF hQ QQ L hl r1
              go_wp2_with fail
              go_ret
              exact ⟨by first | rfl | (simp; done), H9.out⟩
            · have hbx' : b5 = BB := by have h := hbx.out; simpa using h
              subst hbx'
              clear hbx
              go_upto_region 22 with (fail)
              have hl := hinv.out.1
              have r1 := hinv.out.2.1
              clear hinv e5 kS
              let L : List Sp := [sV 2 [] [] (fun u => u = .bool b5)]
              refine wp_region_six0 (shs L) (look6 L) (None_) (by kernel_rfl) (by kernel_rfl) (mk_St L [] [] (by kernel_rfl) (by kernel_rfl) ⟨ok_V ⟨_, rfl⟩, trivial⟩ (by simp)) ?_
              intro QQ hQ
              refine stepK rfl (by kernel_rfl) (fun K hK => ?_); go_simp
              apply Exists.intro; apply And.intro; (focus (intro wk hk; go_simp; exact ⟨rfl, rfl⟩)); refine hK _ _ ?_; clear hK K
              refine stepK rfl (by kernel_rfl) (fun K hK => ?_); go_simp
              apply Exists.intro; apply And.intro; (focus exact kLoadMid rfl rfl aggT114 r1 hmid hcsz id); refine hK _ _ ?_; clear hK K
              refine stepS _ rfl (by kernel_rfl) (fun K hK => ?_); go_simp
              refine ⟨?_, ?_⟩
              · intro wk hk hg hu; go_simp; refine upon_enter ((kG.out _ (hl.trans (hk.below.mono hl.size))).mono ?_); rintro e w' ⟨rfl, hb⟩; exact ⟨_, rfl, left_V (p := fun u => u = .bool b5) rfl (hb) rfl⟩
              rintro ⟨v2, lo2, hi2⟩ - - (rfl : v2 = _)
              refine hK _ _ ?_; clear hK K
              refine stepK rfl (by kernel_rfl) (fun K hK => ?_); go_simp
              apply Exists.intro; apply And.intro; (focus (intro wk hk; go_simp; exact ⟨rfl, rfl⟩)); refine hK _ _ ?_; clear hK K
              refine stepN ?_
              refine hQ _ _ ?_
              intro w9 hT hG hF
              have H9 := Lib.hid (hl.trans (hT.below.mono hl.size))
              clear hT hG hF hQ QQ L hl r1
              go_wp2_with fail
              go_ret
              exact ⟨by first | rfl | (simp; done), H9.out⟩
  · by_cases hT1 : T < 1
    · have hbb := HB.out.1 (.inr (.inr (.inr (.inr (.inr (.inl ⟨rfl, .inl hT1⟩))))))
      subst hbb
      clear HB HN1 HA1 HET kG kS HH
      go_wp2_with fail
      go_ret
      exact ⟨rfl, HL.out.1⟩
    have hT1' : 1 ≤ T := by omega
    clear hT1
    by_cases hT8 : 8 < T
    · have hbb := HB.out.1 (.inr (.inr (.inr (.inr (.inr (.inl ⟨rfl, .inr hT8⟩))))))
      subst hbb
      clear HB HN1 HA1 HET kG kS HH
      go_wp2_with fail
      go_ret
      exact ⟨rfl, HL.out.1⟩
    have hT8' : T ≤ 8 := by omega
    clear hT8
    cases se
    · by_cases hA : (nA : Int) = sa
      case neg =>
        have qA : ((nA : Int) != sa) = true := by rw [bne_iff_ne]; exact hA
        have hbb := HB.out.1 (.inr (.inr (.inr (.inr (.inr (.inr (.inr (.inl ⟨rfl, hA⟩))))))))
        subst hbb
        clear HB HN1 HA1 HET kG kS hA HH
        go_wp2_with fail
        go_ret
        exact ⟨rfl, HL.out.1⟩
      have qA : ((nA : Int) != sa) = false := by rw [hA]; exact bne_self_eq_false _
      have HAs := Lib.hid hA
      clear hA
      have HB2 := Lib.hid (show (b3 = false ∨ b4 = false → BB = false) ∧ (b3 = true → b4 = true → (if sc = true then b5 else b6) = BB) from ⟨fun h => HB.out.1 (.inr (.inr (.inr (.inr (.inr (.inr (.inr (.inr h)))))))), fun h3 h4 => HB.out.2 rfl hf1' hf2' HH.out (fun h => (by cases h)) (fun _ => ⟨hT1', hT8'⟩) (fun h => (by cases h)) (fun _ => HAs.out) h3 h4⟩)
      clear HB HET
      go_wp2_with fail
      clear d1 d2 d3 d4 e0 e1 e2 e3 e4
      go_loopg [6, 7, 86] m (fun gg s6 s7 s86 wr => ∃ i : Nat, i + gg = m ∧ s86 = .int .i64 (i : Int) ∧ Hid (∀ j, j < i → numJ sn ln j) ∧ Hid (Below w.heap.size w wr ∧ Row wr w.heap.size 116 ct ∧ Row wr lo6 118 (#[.int .i64 sn, .bool true, .int .i64 sa, .bool false, .int .i64 sh, .bool sc])))
      case atStart => exact ⟨0, by omega, rfl, Lib.hid (fun j h => absurd h (Nat.not_lt_zero j)), HL⟩
      case round =>
        clear HL
        obtain ⟨i, him, rfl, hall, hinv⟩ := hrel
        by_cases hi : i < m
        · obtain ⟨x, hx⟩ : ∃ x, ln[i]? = some x := ⟨_, List.getElem?_eq_getElem (by have := HN1.out.2.1; omega)⟩
          have hiln : i < ln.length := (List.getElem?_eq_some_iff.1 hx).1
          obtain ⟨gx, ox, cx', hu, hgx, hcx⟩ := (HN1.out.1.below hinv.out.1).get hx
          simp only [Value.slice.injEq] at hu
          obtain ⟨rfl, -, -⟩ := hu
          have cx0 : wr.cell? ⟨gx, ox + i, none⟩ = some (.int .i64 x) := by have h := hcx 0 _ rfl; simpa using h
          have hDx := Lib.hid (show ln.getD i 0 = x ∧ i < ln.length from ⟨get_D hx, hiln⟩)
          have hlt : (i : Int) < (m : Int) := by omega
          have d2 := (hinv.out.2.1.cell 2).trans x2
          have e0 := hinv.out.2.2.cell 0
          clear hcx hiln hx
          by_cases hx1 : x < 0
          · have hbb := HB2.out.1 (.inl (by rw [← HN1.out.2.2.1]; exact nums_no hDx.out.2 (fun h => by have := h.1; rw [hDx.out.1] at this; omega)))
            subst hbb
            clear HN1 HA1 hall hDx kG kS HB2 hgx
            go_wp2_with fail
            go_ret
            exact ⟨rfl, hinv.out.1⟩
          have hx1' : 0 ≤ x := by omega
          clear hx1
          by_cases hx2 : 1099511627776 < x
          · have hbb := HB2.out.1 (.inl (by rw [← HN1.out.2.2.1]; exact nums_no hDx.out.2 (fun h => by have := h.1; rw [hDx.out.1] at this; omega)))
            subst hbb
            clear HN1 HA1 hall hDx kG kS HB2 hgx
            go_wp2_with fail
            go_ret
            exact ⟨rfl, hinv.out.1⟩
          have hx2' : x ≤ 1099511627776 := by omega
          clear hx2
          by_cases hg : sn < (i : Int)
          case neg =>
            have hnext := Lib.hid (show ∀ j, j < i + 1 → numJ sn ln j from fun j hj => by
              rcases Nat.lt_or_ge j i with h | h
              · exact hall.out j h
              · obtain rfl : j = i := by omega
                exact ⟨by rw [hDx.out.1]; exact ⟨hx1', hx2'⟩, fun h2 => absurd h2 hg⟩)
            clear hall hDx hgx
            go_wp2_with fail
            go_roundg (gk - 1)
            case measure => omega
            case rel => exact ⟨i + 1, by omega, by go_num, hnext, hinv⟩
          obtain ⟨k, hk⟩ : ∃ k, i = k + 1 := ⟨i - 1, by have := HN1.out.2.2.2; omega⟩
          obtain ⟨y, hy⟩ : ∃ y, ln[k]? = some y := ⟨_, List.getElem?_eq_getElem (by have := HN1.out.2.1; omega)⟩
          obtain ⟨gy, oy, cy', hu, hgy, hcy⟩ := (HN1.out.1.below hinv.out.1).get hy
          simp only [Value.slice.injEq, Option.some.injEq, Addr.mk.injEq] at hu
          obtain ⟨⟨rfl, rfl, -⟩, -, -⟩ := hu
          have cy0 : wr.cell? ⟨gx, ox + k, none⟩ = some (.int .i64 y) := by have h := hcy 0 _ rfl; simpa using h
          have wJ : IntKind.i64.wrap ((i : Int) - 1) = (k : Int) := by rw [IntKind.wrap_i64]; omega
          have hkm : (k : Int) < (m : Int) := by omega
          have hDy := Lib.hid (show ln.getD (i - 1) 0 = y by rw [hk]; exact get_D hy)
          clear hcy hy hgy hgx
          by_cases hxy : x ≤ y
          · have hbb := HB2.out.1 (.inl (by rw [← HN1.out.2.2.1]; exact nums_no hDx.out.2 (fun h => by have := h.2 hg; rw [hDx.out.1, hDy.out] at this; omega)))
            subst hbb
            clear HN1 HA1 hall hDx hDy kG kS HB2 hk
            go_wp2_with fail
            go_ret
            exact ⟨rfl, hinv.out.1⟩
          · have hnext := Lib.hid (show ∀ j, j < i + 1 → numJ sn ln j from fun j hj => by
              rcases Nat.lt_or_ge j i with h | h
              · exact hall.out j h
              · obtain rfl : j = i := by omega
                exact ⟨by rw [hDx.out.1]; exact ⟨hx1', hx2'⟩, fun h2 => by rw [hDx.out.1, hDy.out]; omega⟩)
            clear hall hDx hDy hk
            go_wp2_with fail
            go_roundg (gk - 1)
            case measure => omega
            case rel => exact ⟨i + 1, by omega, by go_num, hnext, hinv⟩
        · obtain rfl : i = m := by omega
          have hlt : ¬ (i : Int) < (i : Int) := by omega
          have HB3 := Lib.hid (show (b4 = false → BB = false) ∧ (b4 = true → (if sc = true then b5 else b6) = BB) from ⟨fun h => HB2.out.1 (.inr h), HB2.out.2 (by rw [← HN1.out.2.2.1]; exact nums_yes (fun j hj => hall.out j (by have := HN1.out.2.1; omega)))⟩)
          have d3 := (hinv.out.2.1.cell 3).trans x3
          have HL := hinv
          clear hall HN1 HB2 hinv
          go_wp2_with fail
          clear d3
          go_loopg [117] nA (fun gg s117 wr => ∃ i : Nat, i + gg = nA ∧ s117 = .int .i64 (i : Int) ∧ Hid (∀ (j : Nat) (x : Nat), j < i → la[j]? = some x → okA x = true) ∧ Hid (Below w.heap.size w wr ∧ Row wr w.heap.size 116 ct ∧ Row wr lo6 118 (#[.int .i64 sn, .bool true, .int .i64 sa, .bool false, .int .i64 sh, .bool sc])))
          case atStart => exact ⟨0, by omega, rfl, Lib.hid (fun j e h => absurd h (Nat.not_lt_zero j)), HL⟩
          case round =>
            clear HL
            obtain ⟨i2, him2, rfl, hall, hinv⟩ := hrel
            by_cases hi2 : i2 < nA
            · obtain ⟨x, hx⟩ : ∃ x, la[i2]? = some x := ⟨_, List.getElem?_eq_getElem (by have := HA1.out.2.2.1; omega)⟩
              obtain ⟨gx, ox, cx', hu, hgx, hcx⟩ := (HA1.out.1.below hinv.out.1).elem hx
              simp only [Value.slice.injEq] at hu
              obtain ⟨rfl, -, -⟩ := hu
              have ka := fun wx => refAmountU (HA1.out.2.1 x (List.mem_of_getElem? hx)) wx
              obtain ⟨bz, hbz⟩ : ∃ b, okA x = b := ⟨_, rfl⟩
              have hbz' : decide (x < M2) = bz := hbz
              simp only [hbz'] at ka
              obtain ⟨Y, hY⟩ : ∃ Y, W4 x = Y := ⟨_, rfl⟩
              have hYsz := W4_size x
              have hYone := W4_one_ x
              simp only [hY] at ka
              rw [hY] at hYsz hYone hcx
              have hinf := info31 hYsz
              replace ka := Lib.hid ka
              have HO := Lib.hid (show _ ∧ _ from ⟨hbz, hx⟩)
              clear hY hbz hbz' hx
              have hlt2 : (i2 : Int) < (nA : Int) := by omega
              go_upto_region 17 with (fail)
              let L : List Sp := [sA 2 31 [3] #[.int .u64 0, .int .u64 0, .int .u64 0, .int .u64 0], sT 3 2 31 [1] (fun g => aggOf g 1)]
              refine wp_region_six0 (shs L) (look6 L) (None_) (by kernel_rfl) (by kernel_rfl) (mk_St L [] [] (by kernel_rfl) (by kernel_rfl) ⟨ok_A, ok_T aggOf_congr, trivial⟩ (by simp)) ?_
              intro QQ hQ
              refine stepK rfl (by kernel_rfl) (fun K hK => ?_); go_simp
              apply Exists.intro; apply And.intro; (focus (intro wk hk; go_simp; exact ⟨rfl, rfl⟩)); refine hK _ _ ?_; clear hK K
              refine stepK rfl (by kernel_rfl) (fun K hK => ?_); go_simp
              apply Exists.intro; apply And.intro; (focus exact kLoadA rfl rfl aggT31 hcx hYsz hgx id); refine hK _ _ ?_; clear hK K
              refine stepS _ rfl (by kernel_rfl) (fun K hK => ?_); go_simp
              refine ⟨?_, ?_⟩
              · intro wk hk hg hu; go_simp; exact left_A rfl rfl
              rintro ⟨v2, lo2, hi2⟩ hlo2 hhi2 ⟨e2, f2⟩
              replace e2 : v2 = .pointer (some ⟨lo2, 0, none⟩) := e2; replace f2 : hi2 = lo2 + 1 := f2; replace hlo2 : _ ≤ lo2 := hlo2; subst e2; subst f2
              refine hK _ _ ?_; clear hK K
              refine stepS _ rfl (by kernel_rfl) (fun K hK => ?_); go_simp
              refine ⟨?_, ?_⟩
              · exact sStoreT rfl rfl rfl rfl rfl rfl rfl hinf hYsz.symm hYone (by decide) aggOf_congr
              rintro ⟨v3, lo3, hi3⟩ - - (rfl : v3 = undef)
              refine hK _ _ ?_; clear hK K
              refine stepN ?_
              refine hQ _ _ ?_
              intro w4 hT hG hF
              have hbw4 := hT.below
              have rY : Row w4 lo2 31 Y := (hF 3 _ rfl rfl (by decide)).2
              clear hT hG hF hQ QQ L hcx hgx
              have HL4 := Lib.hid (show Below w.heap.size w w4 ∧ Row w4 w.heap.size 116 ct ∧ Row w4 lo6 118 (#[.int .i64 sn, .bool true, .int .i64 sa, .bool false, .int .i64 sh, .bool sc]) from ⟨hinv.out.1.trans (hbw4.mono hinv.out.1.size), hinv.out.2.1.below hbw4 hinv.out.2.1.lt, hinv.out.2.2.below hbw4 hinv.out.2.2.lt⟩)
              clear hinv hbw4 hYone hinf
              go_upto_region 18 with (fail)
              let L : List Sp := [sV 1 [] [] (fun u => u = .bool bz)]
              refine wp_region_six0 (shs L) (look6 L) (None_) (by kernel_rfl) (by kernel_rfl) (mk_St L [] [] (by kernel_rfl) (by kernel_rfl) ⟨ok_V ⟨_, rfl⟩, trivial⟩ (by simp)) ?_
              intro QQ hQ
              refine stepK rfl (by kernel_rfl) (fun K hK => ?_); go_simp
              apply Exists.intro; apply And.intro; (focus exact kLoad rfl rfl aggT31 rY hYsz id); refine hK _ _ ?_; clear hK K
              refine stepS _ rfl (by kernel_rfl) (fun K hK => ?_); go_simp
              refine ⟨?_, ?_⟩
              · intro wk hk hg hu; go_simp; refine upon_enter ((ka.out _).mono ?_); rintro e w' ⟨rfl, hb⟩; exact ⟨_, rfl, left_V (p := fun u => u = .bool bz) rfl (hb) rfl⟩
              rintro ⟨v1, lo1, hi1⟩ - - (rfl : v1 = _)
              refine hK _ _ ?_; clear hK K
              refine stepK rfl (by kernel_rfl) (fun K hK => ?_); go_simp
              apply Exists.intro; apply And.intro; (focus (intro wk hk; go_simp; exact ⟨rfl, rfl⟩)); refine hK _ _ ?_; clear hK K
              refine stepN ?_
              refine hQ _ _ ?_
              intro w5 hT hG hF
              have hb5 := hT.below
              have HL5 := Lib.hid (show Below w.heap.size w w5 ∧ Row w5 w.heap.size 116 ct ∧ Row w5 lo6 118 (#[.int .i64 sn, .bool true, .int .i64 sa, .bool false, .int .i64 sh, .bool sc]) from ⟨HL4.out.1.trans (hb5.mono HL4.out.1.size), HL4.out.2.1.below hb5 HL4.out.2.1.lt, HL4.out.2.2.below hb5 HL4.out.2.2.lt⟩)
              clear hT hG hF hQ QQ L HL4 rY hb5 ka hYsz
              cases bz
              · have hbb := HB3.out.1 (by rw [← HA1.out.2.2.2]; exact all_not HO.out.2 HO.out.1)
                subst hbb
                clear hall HA1 HO kG kS HB3
                go_wp2_with fail
                go_ret
                exact ⟨rfl, HL5.out.1⟩
              · go_wp2_with fail
                go_roundg (gk - 1)
                case measure => omega
                case rel =>
                  refine ⟨i2 + 1, by omega, by go_num, Lib.hid fun j e hj hje => ?_, HL5⟩
                  rcases Nat.lt_or_ge j i2 with h | h
                  · exact hall.out j e h hje
                  · obtain rfl : j = i2 := by omega
                    have h1 := HO.out.2.symm.trans hje
                    injection h1 with h1
                    rw [← h1]
                    exact HO.out.1
            · obtain rfl : i2 = nA := by omega
              have hlt2 : ¬ (i2 : Int) < (i2 : Int) := by omega
              have hbx := Lib.hid (HB3.out.2 (by rw [← HA1.out.2.2.2]; exact all_all (fun j e hj hje => hall.out j e (by have := HA1.out.2.2.1; omega) hje)))
              clear hall HA1 HB3
              have e5 := hinv.out.2.2.cell 5
              cases sc
              · have hbx' : b6 = BB := by have h := hbx.out; simpa using h
                subst hbx'
                clear hbx
                go_upto_region 23 with (fail)
                have hl := hinv.out.1
                have r1 := hinv.out.2.1
                clear hinv e5 kG
                let L : List Sp := [sV 3 [] [] (fun u => u = .bool b6)]
                refine wp_region_six0 (shs L) (look6 L) (None_) (by kernel_rfl) (by kernel_rfl) (mk_St L [] [] (by kernel_rfl) (by kernel_rfl) ⟨ok_V ⟨_, rfl⟩, trivial⟩ (by simp)) ?_
                intro QQ hQ
                refine stepK rfl (by kernel_rfl) (fun K hK => ?_); go_simp
                apply Exists.intro; apply And.intro; (focus (intro wk hk; go_simp; exact ⟨rfl, rfl⟩)); refine hK _ _ ?_; clear hK K
                refine stepK rfl (by kernel_rfl) (fun K hK => ?_); go_simp
                apply Exists.intro; apply And.intro; (focus exact kLoadMid rfl rfl aggT114 r1 hmid hcsz id); refine hK _ _ ?_; clear hK K
                refine stepK rfl (by kernel_rfl) (fun K hK => ?_); go_simp
                apply Exists.intro; apply And.intro; (focus (intro wk hk; go_simp; exact ⟨rfl, rfl⟩)); refine hK _ _ ?_; clear hK K
                refine stepS _ rfl (by kernel_rfl) (fun K hK => ?_); go_simp
                refine ⟨?_, ?_⟩
                · intro wk hk hg hu; go_simp; refine upon_enter ((kS.out _ (hl.trans (hk.below.mono hl.size))).mono ?_); rintro e w' ⟨rfl, hb⟩; exact ⟨_, rfl, left_V (p := fun u => u = .bool b6) rfl (hb) rfl⟩
                rintro ⟨v3, lo3, hi3⟩ - - (rfl : v3 = _)
                refine hK _ _ ?_; clear hK K
                refine stepK rfl (by kernel_rfl) (fun K hK => ?_); go_simp
                apply Exists.intro; apply And.intro; (focus (intro wk hk; go_simp; exact ⟨rfl, rfl⟩)); refine hK _ _ ?_; clear hK K
                refine stepN ?_
                refine hQ _ _ ?_
                intro w9 hT hG hF
                have H9 := Lib.hid (hl.trans (hT.below.mono hl.size))
                clear hT hG hF hQ QQ L hl r1
                go_wp2_with fail
                go_ret
                exact ⟨by first | rfl | (simp; done), H9.out⟩
              · have hbx' : b5 = BB := by have h := hbx.out; simpa using h
                subst hbx'
                clear hbx
                go_upto_region 22 with (fail)
                have hl := hinv.out.1
                have r1 := hinv.out.2.1
                clear hinv e5 kS
                let L : List Sp := [sV 2 [] [] (fun u => u = .bool b5)]
                refine wp_region_six0 (shs L) (look6 L) (None_) (by kernel_rfl) (by kernel_rfl) (mk_St L [] [] (by kernel_rfl) (by kernel_rfl) ⟨ok_V ⟨_, rfl⟩, trivial⟩ (by simp)) ?_
                intro QQ hQ
                refine stepK rfl (by kernel_rfl) (fun K hK => ?_); go_simp
                apply Exists.intro; apply And.intro; (focus (intro wk hk; go_simp; exact ⟨rfl, rfl⟩)); refine hK _ _ ?_; clear hK K
                refine stepK rfl (by kernel_rfl) (fun K hK => ?_); go_simp
                apply Exists.intro; apply And.intro; (focus exact kLoadMid rfl rfl aggT114 r1 hmid hcsz id); refine hK _ _ ?_; clear hK K
                refine stepS _ rfl (by kernel_rfl) (fun K hK => ?_); go_simp
                refine ⟨?_, ?_⟩
                · intro wk hk hg hu; go_simp; refine upon_enter ((kG.out _ (hl.trans (hk.below.mono hl.size))).mono ?_); rintro e w' ⟨rfl, hb⟩; exact ⟨_, rfl, left_V (p := fun u => u = .bool b5) rfl (hb) rfl⟩
                rintro ⟨v2, lo2, hi2⟩ - - (rfl : v2 = _)
                refine hK _ _ ?_; clear hK K
                refine stepK rfl (by kernel_rfl) (fun K hK => ?_); go_simp
                apply Exists.intro; apply And.intro; (focus (intro wk hk; go_simp; exact ⟨rfl, rfl⟩)); refine hK _ _ ?_; clear hK K
                refine stepN ?_
                refine hQ _ _ ?_
                intro w9 hT hG hF
                have H9 := Lib.hid (hl.trans (hT.below.mono hl.size))
                clear hT hG hF hQ QQ L hl r1
                go_wp2_with fail
                go_ret
                exact ⟨by first | rfl | (simp; done), H9.out⟩
    · by_cases hA : (nA : Int) = T
      case neg =>
        have qA : ((nA : Int) != T) = true := by rw [bne_iff_ne]; exact hA
        have hbb := HB.out.1 (.inr (.inr (.inr (.inr (.inr (.inr (.inl ⟨rfl, hA⟩)))))))
        subst hbb
        clear HB HN1 HA1 HET kG kS hA HH
        go_wp2_with fail
        go_ret
        exact ⟨rfl, HL.out.1⟩
      have qA : ((nA : Int) != T) = false := by rw [hA]; exact bne_self_eq_false _
      have HAs := Lib.hid hA
      clear hA
      have HB2 := Lib.hid (show (b3 = false ∨ b4 = false → BB = false) ∧ (b3 = true → b4 = true → (if sc = true then b5 else b6) = BB) from ⟨fun h => HB.out.1 (.inr (.inr (.inr (.inr (.inr (.inr (.inr (.inr h)))))))), fun h3 h4 => HB.out.2 rfl hf1' hf2' HH.out (fun h => (by cases h)) (fun _ => ⟨hT1', hT8'⟩) (fun _ => HAs.out) (fun h => (by cases h)) h3 h4⟩)
      clear HB HET
      go_wp2_with fail
      clear d1 d2 d3 d4 e0 e1 e2 e3 e4
      go_loopg [6, 7, 86] m (fun gg s6 s7 s86 wr => ∃ i : Nat, i + gg = m ∧ s86 = .int .i64 (i : Int) ∧ Hid (∀ j, j < i → numJ sn ln j) ∧ Hid (Below w.heap.size w wr ∧ Row wr w.heap.size 116 ct ∧ Row wr lo6 118 (#[.int .i64 sn, .bool true, .int .i64 sa, .bool true, .int .i64 sh, .bool sc])))
      case atStart => exact ⟨0, by omega, rfl, Lib.hid (fun j h => absurd h (Nat.not_lt_zero j)), HL⟩
      case round =>
        clear HL
        obtain ⟨i, him, rfl, hall, hinv⟩ := hrel
        by_cases hi : i < m
        · obtain ⟨x, hx⟩ : ∃ x, ln[i]? = some x := ⟨_, List.getElem?_eq_getElem (by have := HN1.out.2.1; omega)⟩
          have hiln : i < ln.length := (List.getElem?_eq_some_iff.1 hx).1
          obtain ⟨gx, ox, cx', hu, hgx, hcx⟩ := (HN1.out.1.below hinv.out.1).get hx
          simp only [Value.slice.injEq] at hu
          obtain ⟨rfl, -, -⟩ := hu
          have cx0 : wr.cell? ⟨gx, ox + i, none⟩ = some (.int .i64 x) := by have h := hcx 0 _ rfl; simpa using h
          have hDx := Lib.hid (show ln.getD i 0 = x ∧ i < ln.length from ⟨get_D hx, hiln⟩)
          have hlt : (i : Int) < (m : Int) := by omega
          have d2 := (hinv.out.2.1.cell 2).trans x2
          have e0 := hinv.out.2.2.cell 0
          clear hcx hiln hx
          by_cases hx1 : x < 0
          · have hbb := HB2.out.1 (.inl (by rw [← HN1.out.2.2.1]; exact nums_no hDx.out.2 (fun h => by have := h.1; rw [hDx.out.1] at this; omega)))
            subst hbb
            clear HN1 HA1 hall hDx kG kS HB2 hgx
            go_wp2_with fail
            go_ret
            exact ⟨rfl, hinv.out.1⟩
          have hx1' : 0 ≤ x := by omega
          clear hx1
          by_cases hx2 : 1099511627776 < x
          · have hbb := HB2.out.1 (.inl (by rw [← HN1.out.2.2.1]; exact nums_no hDx.out.2 (fun h => by have := h.1; rw [hDx.out.1] at this; omega)))
            subst hbb
            clear HN1 HA1 hall hDx kG kS HB2 hgx
            go_wp2_with fail
            go_ret
            exact ⟨rfl, hinv.out.1⟩
          have hx2' : x ≤ 1099511627776 := by omega
          clear hx2
          by_cases hg : sn < (i : Int)
          case neg =>
            have hnext := Lib.hid (show ∀ j, j < i + 1 → numJ sn ln j from fun j hj => by
              rcases Nat.lt_or_ge j i with h | h
              · exact hall.out j h
              · obtain rfl : j = i := by omega
                exact ⟨by rw [hDx.out.1]; exact ⟨hx1', hx2'⟩, fun h2 => absurd h2 hg⟩)
            clear hall hDx hgx
            go_wp2_with fail
            go_roundg (gk - 1)
            case measure => omega
            case rel => exact ⟨i + 1, by omega, by go_num, hnext, hinv⟩
          obtain ⟨k, hk⟩ : ∃ k, i = k + 1 := ⟨i - 1, by have := HN1.out.2.2.2; omega⟩
          obtain ⟨y, hy⟩ : ∃ y, ln[k]? = some y := ⟨_, List.getElem?_eq_getElem (by have := HN1.out.2.1; omega)⟩
          obtain ⟨gy, oy, cy', hu, hgy, hcy⟩ := (HN1.out.1.below hinv.out.1).get hy
          simp only [Value.slice.injEq, Option.some.injEq, Addr.mk.injEq] at hu
          obtain ⟨⟨rfl, rfl, -⟩, -, -⟩ := hu
          have cy0 : wr.cell? ⟨gx, ox + k, none⟩ = some (.int .i64 y) := by have h := hcy 0 _ rfl; simpa using h
          have wJ : IntKind.i64.wrap ((i : Int) - 1) = (k : Int) := by rw [IntKind.wrap_i64]; omega
          have hkm : (k : Int) < (m : Int) := by omega
          have hDy := Lib.hid (show ln.getD (i - 1) 0 = y by rw [hk]; exact get_D hy)
          clear hcy hy hgy hgx
          by_cases hxy : x ≤ y
          · have hbb := HB2.out.1 (.inl (by rw [← HN1.out.2.2.1]; exact nums_no hDx.out.2 (fun h => by have := h.2 hg; rw [hDx.out.1, hDy.out] at this; omega)))
            subst hbb
            clear HN1 HA1 hall hDx hDy kG kS HB2 hk
            go_wp2_with fail
            go_ret
            exact ⟨rfl, hinv.out.1⟩
          · have hnext := Lib.hid (show ∀ j, j < i + 1 → numJ sn ln j from fun j hj => by
              rcases Nat.lt_or_ge j i with h | h
              · exact hall.out j h
              · obtain rfl : j = i := by omega
                exact ⟨by rw [hDx.out.1]; exact ⟨hx1', hx2'⟩, fun h2 => by rw [hDx.out.1, hDy.out]; omega⟩)
            clear hall hDx hDy hk
            go_wp2_with fail
            go_roundg (gk - 1)
            case measure => omega
            case rel => exact ⟨i + 1, by omega, by go_num, hnext, hinv⟩
        · obtain rfl : i = m := by omega
          have hlt : ¬ (i : Int) < (i : Int) := by omega
          have HB3 := Lib.hid (show (b4 = false → BB = false) ∧ (b4 = true → (if sc = true then b5 else b6) = BB) from ⟨fun h => HB2.out.1 (.inr h), HB2.out.2 (by rw [← HN1.out.2.2.1]; exact nums_yes (fun j hj => hall.out j (by have := HN1.out.2.1; omega)))⟩)
          have d3 := (hinv.out.2.1.cell 3).trans x3
          have HL := hinv
          clear hall HN1 HB2 hinv
          go_wp2_with fail
          clear d3
          go_loopg [117] nA (fun gg s117 wr => ∃ i : Nat, i + gg = nA ∧ s117 = .int .i64 (i : Int) ∧ Hid (∀ (j : Nat) (x : Nat), j < i → la[j]? = some x → okA x = true) ∧ Hid (Below w.heap.size w wr ∧ Row wr w.heap.size 116 ct ∧ Row wr lo6 118 (#[.int .i64 sn, .bool true, .int .i64 sa, .bool true, .int .i64 sh, .bool sc])))
          case atStart => exact ⟨0, by omega, rfl, Lib.hid (fun j e h => absurd h (Nat.not_lt_zero j)), HL⟩
          case round =>
            clear HL
            obtain ⟨i2, him2, rfl, hall, hinv⟩ := hrel
            by_cases hi2 : i2 < nA
            · obtain ⟨x, hx⟩ : ∃ x, la[i2]? = some x := ⟨_, List.getElem?_eq_getElem (by have := HA1.out.2.2.1; omega)⟩
              obtain ⟨gx, ox, cx', hu, hgx, hcx⟩ := (HA1.out.1.below hinv.out.1).elem hx
              simp only [Value.slice.injEq] at hu
              obtain ⟨rfl, -, -⟩ := hu
              have ka := fun wx => refAmountU (HA1.out.2.1 x (List.mem_of_getElem? hx)) wx
              obtain ⟨bz, hbz⟩ : ∃ b, okA x = b := ⟨_, rfl⟩
              have hbz' : decide (x < M2) = bz := hbz
              simp only [hbz'] at ka
              obtain ⟨Y, hY⟩ : ∃ Y, W4 x = Y := ⟨_, rfl⟩
              have hYsz := W4_size x
              have hYone := W4_one_ x
              simp only [hY] at ka
              rw [hY] at hYsz hYone hcx
              have hinf := info31 hYsz
              replace ka := Lib.hid ka
              have HO := Lib.hid (show _ ∧ _ from ⟨hbz, hx⟩)
              clear hY hbz hbz' hx
              have hlt2 : (i2 : Int) < (nA : Int) := by omega
              go_upto_region 17 with (fail)
              let L : List Sp := [sA 2 31 [3] #[.int .u64 0, .int .u64 0, .int .u64 0, .int .u64 0], sT 3 2 31 [1] (fun g => aggOf g 1)]
              refine wp_region_six0 (shs L) (look6 L) (None_) (by kernel_rfl) (by kernel_rfl) (mk_St L [] [] (by kernel_rfl) (by kernel_rfl) ⟨ok_A, ok_T aggOf_congr, trivial⟩ (by simp)) ?_
              intro QQ hQ
              refine stepK rfl (by kernel_rfl) (fun K hK => ?_); go_simp
              apply Exists.intro; apply And.intro; (focus (intro wk hk; go_simp; exact ⟨rfl, rfl⟩)); refine hK _ _ ?_; clear hK K
              refine stepK rfl (by kernel_rfl) (fun K hK => ?_); go_simp
              apply Exists.intro; apply And.intro; (focus exact kLoadA rfl rfl aggT31 hcx hYsz hgx id); refine hK _ _ ?_; clear hK K
              refine stepS _ rfl (by kernel_rfl) (fun K hK => ?_); go_simp
              refine ⟨?_, ?_⟩
              · intro wk hk hg hu; go_simp; exact left_A rfl rfl
              rintro ⟨v2, lo2, hi2⟩ hlo2 hhi2 ⟨e2, f2⟩
              replace e2 : v2 = .pointer (some ⟨lo2, 0, none⟩) := e2; replace f2 : hi2 = lo2 + 1 := f2; replace hlo2 : _ ≤ lo2 := hlo2; subst e2; subst f2
              refine hK _ _ ?_; clear hK K
              refine stepS _ rfl (by kernel_rfl) (fun K hK => ?_); go_simp
              refine ⟨?_, ?_⟩
              · exact sStoreT rfl rfl rfl rfl rfl rfl rfl hinf hYsz.symm hYone (by decide) aggOf_congr
              rintro ⟨v3, lo3, hi3⟩ - - (rfl : v3 = undef)
              refine hK _ _ ?_; clear hK K
              refine stepN ?_
              refine hQ _ _ ?_
              intro w4 hT hG hF
              have hbw4 := hT.below
              have rY : Row w4 lo2 31 Y := (hF 3 _ rfl rfl (by decide)).2
              clear hT hG hF hQ QQ L hcx hgx
              have HL4 := Lib.hid (show Below w.heap.size w w4 ∧ Row w4 w.heap.size 116 ct ∧ Row w4 lo6 118 (#[.int .i64 sn, .bool true, .int .i64 sa, .bool true, .int .i64 sh, .bool sc]) from ⟨hinv.out.1.trans (hbw4.mono hinv.out.1.size), hinv.out.2.1.below hbw4 hinv.out.2.1.lt, hinv.out.2.2.below hbw4 hinv.out.2.2.lt⟩)
              clear hinv hbw4 hYone hinf
              go_upto_region 18 with (fail)
              let L : List Sp := [sV 1 [] [] (fun u => u = .bool bz)]
              refine wp_region_six0 (shs L) (look6 L) (None_) (by kernel_rfl) (by kernel_rfl) (mk_St L [] [] (by kernel_rfl) (by kernel_rfl) ⟨ok_V ⟨_, rfl⟩, trivial⟩ (by simp)) ?_
              intro QQ hQ
              refine stepK rfl (by kernel_rfl) (fun K hK => ?_); go_simp
              apply Exists.intro; apply And.intro; (focus exact kLoad rfl rfl aggT31 rY hYsz id); refine hK _ _ ?_; clear hK K
              refine stepS _ rfl (by kernel_rfl) (fun K hK => ?_); go_simp
              refine ⟨?_, ?_⟩
              · intro wk hk hg hu; go_simp; refine upon_enter ((ka.out _).mono ?_); rintro e w' ⟨rfl, hb⟩; exact ⟨_, rfl, left_V (p := fun u => u = .bool bz) rfl (hb) rfl⟩
              rintro ⟨v1, lo1, hi1⟩ - - (rfl : v1 = _)
              refine hK _ _ ?_; clear hK K
              refine stepK rfl (by kernel_rfl) (fun K hK => ?_); go_simp
              apply Exists.intro; apply And.intro; (focus (intro wk hk; go_simp; exact ⟨rfl, rfl⟩)); refine hK _ _ ?_; clear hK K
              refine stepN ?_
              refine hQ _ _ ?_
              intro w5 hT hG hF
              have hb5 := hT.below
              have HL5 := Lib.hid (show Below w.heap.size w w5 ∧ Row w5 w.heap.size 116 ct ∧ Row w5 lo6 118 (#[.int .i64 sn, .bool true, .int .i64 sa, .bool true, .int .i64 sh, .bool sc]) from ⟨HL4.out.1.trans (hb5.mono HL4.out.1.size), HL4.out.2.1.below hb5 HL4.out.2.1.lt, HL4.out.2.2.below hb5 HL4.out.2.2.lt⟩)
              clear hT hG hF hQ QQ L HL4 rY hb5 ka hYsz
              cases bz
              · have hbb := HB3.out.1 (by rw [← HA1.out.2.2.2]; exact all_not HO.out.2 HO.out.1)
                subst hbb
                clear hall HA1 HO kG kS HB3
                go_wp2_with fail
                go_ret
                exact ⟨rfl, HL5.out.1⟩
              · go_wp2_with fail
                go_roundg (gk - 1)
                case measure => omega
                case rel =>
                  refine ⟨i2 + 1, by omega, by go_num, Lib.hid fun j e hj hje => ?_, HL5⟩
                  rcases Nat.lt_or_ge j i2 with h | h
                  · exact hall.out j e h hje
                  · obtain rfl : j = i2 := by omega
                    have h1 := HO.out.2.symm.trans hje
                    injection h1 with h1
                    rw [← h1]
                    exact HO.out.1
            · obtain rfl : i2 = nA := by omega
              have hlt2 : ¬ (i2 : Int) < (i2 : Int) := by omega
              have hbx := Lib.hid (HB3.out.2 (by rw [← HA1.out.2.2.2]; exact all_all (fun j e hj hje => hall.out j e (by have := HA1.out.2.2.1; omega) hje)))
              clear hall HA1 HB3
              have e5 := hinv.out.2.2.cell 5
              cases sc
              · have hbx' : b6 = BB := by have h := hbx.out; simpa using h
                subst hbx'
                clear hbx
                go_upto_region 23 with (fail)
                have hl := hinv.out.1
                have r1 := hinv.out.2.1
                clear hinv e5 kG
                let L : List Sp := [sV 3 [] [] (fun u => u = .bool b6)]
                refine wp_region_six0 (shs L) (look6 L) (None_) (by kernel_rfl) (by kernel_rfl) (mk_St L [] [] (by kernel_rfl) (by kernel_rfl) ⟨ok_V ⟨_, rfl⟩, trivial⟩ (by simp)) ?_
                intro QQ hQ
                refine stepK rfl (by kernel_rfl) (fun K hK => ?_); go_simp
                apply Exists.intro; apply And.intro; (focus (intro wk hk; go_simp; exact ⟨rfl, rfl⟩)); refine hK _ _ ?_; clear hK K
                refine stepK rfl (by kernel_rfl) (fun K hK => ?_); go_simp
                apply Exists.intro; apply And.intro; (focus exact kLoadMid rfl rfl aggT114 r1 hmid hcsz id); refine hK _ _ ?_; clear hK K
                refine stepK rfl (by kernel_rfl) (fun K hK => ?_); go_simp
                apply Exists.intro; apply And.intro; (focus (intro wk hk; go_simp; exact ⟨rfl, rfl⟩)); refine hK _ _ ?_; clear hK K
                refine stepS _ rfl (by kernel_rfl) (fun K hK => ?_); go_simp
                refine ⟨?_, ?_⟩
                · intro wk hk hg hu; go_simp; refine upon_enter ((kS.out _ (hl.trans (hk.below.mono hl.size))).mono ?_); rintro e w' ⟨rfl, hb⟩; exact ⟨_, rfl, left_V (p := fun u => u = .bool b6) rfl (hb) rfl⟩
                rintro ⟨v3, lo3, hi3⟩ - - (rfl : v3 = _)
                refine hK _ _ ?_; clear hK K
                refine stepK rfl (by kernel_rfl) (fun K hK => ?_); go_simp
                apply Exists.intro; apply And.intro; (focus (intro wk hk; go_simp; exact ⟨rfl, rfl⟩)); refine hK _ _ ?_; clear hK K
                refine stepN ?_
                refine hQ _ _ ?_
                intro w9 hT hG hF
                have H9 := Lib.hid (hl.trans (hT.below.mono hl.size))
                clear hT hG hF hQ QQ L hl r1
                go_wp2_with fail
                go_ret
                exact ⟨by first | rfl | (simp; done), H9.out⟩
              · have hbx' : b5 = BB := by have h := hbx.out; simpa using h
                subst hbx'
                clear hbx
                go_upto_region 22 with (fail)
                have hl := hinv.out.1
                have r1 := hinv.out.2.1
                clear hinv e5 kS
                let L : List Sp := [sV 2 [] [] (fun u => u = .bool b5)]
                refine wp_region_six0 (shs L) (look6 L) (None_) (by kernel_rfl) (by kernel_rfl) (mk_St L [] [] (by kernel_rfl) (by kernel_rfl) ⟨ok_V ⟨_, rfl⟩, trivial⟩ (by simp)) ?_
                intro QQ hQ
                refine stepK rfl (by kernel_rfl) (fun K hK => ?_); go_simp
                apply Exists.intro; apply And.intro; (focus (intro wk hk; go_simp; exact ⟨rfl, rfl⟩)); refine hK _ _ ?_; clear hK K
                refine stepK rfl (by kernel_rfl) (fun K hK => ?_); go_simp
                apply Exists.intro; apply And.intro; (focus exact kLoadMid rfl rfl aggT114 r1 hmid hcsz id); refine hK _ _ ?_; clear hK K
                refine stepS _ rfl (by kernel_rfl) (fun K hK => ?_); go_simp
                refine ⟨?_, ?_⟩
                · intro wk hk hg hu; go_simp; refine upon_enter ((kG.out _ (hl.trans (hk.below.mono hl.size))).mono ?_); rintro e w' ⟨rfl, hb⟩; exact ⟨_, rfl, left_V (p := fun u => u = .bool b5) rfl (hb) rfl⟩
                rintro ⟨v2, lo2, hi2⟩ - - (rfl : v2 = _)
                refine hK _ _ ?_; clear hK K
                refine stepK rfl (by kernel_rfl) (fun K hK => ?_); go_simp
                apply Exists.intro; apply And.intro; (focus (intro wk hk; go_simp; exact ⟨rfl, rfl⟩)); refine hK _ _ ?_; clear hK K
                refine stepN ?_
                refine hQ _ _ ?_
                intro w9 hT hG hF
                have H9 := Lib.hid (hl.trans (hT.below.mono hl.size))
                clear hT hG hF hQ QQ L hl r1
                go_wp2_with fail
                go_ret
                exact ⟨by first | rfl | (simp; done), H9.out⟩
end Go.Proofs.Ytpdenhmkpiafiaa
namespace Go.Proofs.Ytpdenhmkpiafiaa
open Go Go.RowKit K6 Ref
theorem Sl.tr {X : Nat → Prop} {w w' : World} {v : Value} {xs : List Nat} (h : Sl w v xs) (hT : Tr X w w') (hx : ∀ b, v.ownBlock = some b → ¬ X b) : Sl w' v xs := by
  obtain ⟨r, c, rfl, hc, h0, h1⟩ := h
  refine ⟨r, c, rfl, hc, h0, fun a ha => ?_⟩
  obtain ⟨g, o, rfl, hg, hi⟩ := h1 a ha
  subst ha
  have hb := hT.block g hg (hx g rfl)
  refine ⟨g, o, rfl, Nat.lt_of_lt_of_le hg hT.size, fun i hl => ?_⟩
  rw [← hi i hl]
  unfold World.cell?
  rw [hb]
namespace Ref
end Ref
end Go.Proofs.Ytpdenhmkpiafiaa
namespace Go.Proofs.Ytpdenhmkpiafiaa
open Go Go.RowKit K6 Ref
def bL (a i : Nat) : List Value := (List.range i).map fun j => .int .u8 ((byN a (31 - j) : Nat) : Int)
theorem bL_succ (a i : Nat) : bL a (i + 1) = bL a i ++ [.int .u8 ((byN a (31 - i) : Nat) : Int)] := by
  unfold bL
  rw [List.range_succ, List.map_append]; rfl
theorem sel_words (a q : Nat) (h : q < 4) : sel4 (wordsOf a 0) (wordsOf a 1) (wordsOf a 2) (wordsOf a 3) q = wordsOf a q := by
  have : q = 0 ∨ q = 1 ∨ q = 2 ∨ q = 3 := by omega
  rcases this with rfl | rfl | rfl | rfl <;> rfl
theorem byte_of {a k : Nat} (ha : a < M) (hk : k / 8 < 4) : IntKind.u8.wrap (wordsOf a (k / 8) / 2 ^ (8 * (k % 8))) = ((byN a k : Nat) : Int) := by
  rw [← byte_word (wordsOf_isW a ha) hk, sel_words a _ hk]
theorem W4_at {w : World} {g t a : Nat} (h : Row w g t (W4 a)) (q : Nat) (hq : q < 4) : w.cell? ⟨g, q, none⟩ = some (.int .u64 (wordsOf a q)) :=
  Row.at_ (k := .u64) (f := wordsOf a) (L := 4) (Row.congr h rfl) q hq
set_option maxRecDepth 100000 in
set_option maxHeartbeats 8000000 in
theorem refBytes_any (a : Nat) (ha : a < M) (w : World) : Calls Try.prog 100 #[.agg (W4 a)] w fun e w' => ∃ v, e = .returned v ∧ w'.ownsRow (w.heap.size + 1) 5 1 v 32 (bL a 32) ∧ Below w.heap.size w w' := by
  go_enter Try.func100, Try.ntmps100
  go_wp2_with fail
  go_loopg [3, 4] 32 (fun gg s3 s4 wr => ∃ i, i + gg = 32 ∧ s4 = .int .i64 ((gg : Int) - 1) ∧ Below w.heap.size w wr ∧ Row wr w.heap.size 31 (W4 a) ∧ wr.ownsRow (w.heap.size + 1) 5 1 s3 i (bL a i))
  case atStart => exact ⟨0, rfl, by go_num, by go_grown, Row.new_at rfl, by simp [bL, World.ownsRow]⟩
  case round =>
    obtain ⟨i, hi, rfl, hl, r0, ho⟩ := hrel
    by_cases hlt : i < 32
    · obtain ⟨k, rfl⟩ : ∃ k, gk = k + 1 := ⟨gk - 1, by omega⟩
      have e0 : ((k : Int) + 1) - 1 = (k : Int) := by omega
      have t1 : ((k : Int)).tdiv 8 = (k : Int) / 8 := Int.tdiv_eq_ediv_of_nonneg (by omega)
      have t2 : ((k : Int)).tmod 8 = (k : Int) % 8 := Int.tmod_eq_emod_of_nonneg (by omega)
      have t5 : (k : Int) / 8 < 4 := by omega
      have t6 : 0 ≤ (k : Int) / 8 := by omega
      have t7 : 0 ≤ (k : Int) % 8 := by omega
      have t8 : (k : Int) % 8 < 8 := by omega
      have t9 : ((k : Int) / 8).toNat = k / 8 := by omega
      have t10 : (8 * ((k : Int) % 8)).toNat = 8 * (k % 8) := by omega
      have t11 : IntKind.u64.wrap (8 * ((k : Int) % 8)) = 8 * ((k : Int) % 8) := by rw [IntKind.wrap_u64]; omega
      have t12 : IntKind.i64.wrap ((k : Int) / 8) = (k : Int) / 8 := by rw [IntKind.wrap_i64]; omega
      have t13 : IntKind.i64.wrap ((k : Int) % 8) = (k : Int) % 8 := by rw [IntKind.wrap_i64]; omega
      have t14 : IntKind.i64.wrap (8 * ((k : Int) % 8)) = 8 * ((k : Int) % 8) := by rw [IntKind.wrap_i64]; omega
      have hby := byte_of (k := k) ha (by omega)
      rw [show k = 31 - i by omega] at hby
      have H := Lib.hid (show _ ∧ _ ∧ _ ∧ _ from ⟨hl, r0, ho, hby⟩)
      clear hl r0 ho hby
      go_upto_region 5 with (fail)
      obtain ⟨hl, r0, ho, hby⟩ := H.out
      refine wp_abs (fun w5 => Below w.heap.size w w5 ∧ Row w5 w.heap.size 31 (W4 a) ∧ w5.ownsRow (w.heap.size + 1) 5 1 u3 i (bL a i)) ⟨hl, r0, ho⟩ ?_
      clear hl r0 ho H
      rintro w5 ⟨hl, r0, ho⟩
      rw [show 31 - i = k by omega] at hby
      have hown : ∀ b, u3.ownBlock = some b → u3.ownBlock = some b ∧ b < w5.heap.size := fun b hb => ⟨hb, (ho.lt b hb).2⟩
      let L : List Sp := [sL 11 5 [] 1 #[.int .u8 ((byN a k : Nat) : Int)], sP 12 [11] [11] (w.heap.size + 1) 5 u3 (i + 1) (bL a (i + 1))]
      refine wp_region_six0 (shs L) (look6 L) (fun b => u3.ownBlock = some b) (by kernel_rfl) (by kernel_rfl) (mk_St L [12] [12] (by kernel_rfl) (by kernel_rfl) ⟨ok_L, ok_P hown, trivial⟩ (by simp)) ?_
      intro QQ hQ
      refine stepK rfl (by kernel_rfl) (fun K hK => ?_); go_simp
      apply Exists.intro; apply And.intro; (focus (intro wk hk; go_simp; exact ⟨rfl, rfl⟩)); refine hK _ _ ?_; clear hK K
      refine stepK rfl (by kernel_rfl) (fun K hK => ?_); go_simp
      apply Exists.intro; apply And.intro; (focus (intro wk hk; go_simp; exact ⟨rfl, rfl⟩)); refine hK _ _ ?_; clear hK K
      refine stepK rfl (by kernel_rfl) (fun K hK => ?_); go_simp
      apply Exists.intro; apply And.intro; (focus (intro wk hk; go_simp; exact ⟨rfl, rfl⟩)); refine hK _ _ ?_; clear hK K
      refine stepK rfl (by kernel_rfl) (fun K hK => ?_); go_simp
      apply Exists.intro; apply And.intro; (focus (intro wk hk; go_simp; exact ⟨rfl, rfl⟩)); refine hK _ _ ?_; clear hK K
      refine stepK rfl (by kernel_rfl) (fun K hK => ?_); go_simp
      apply Exists.intro; apply And.intro; (focus (intro wk hk; have cc := W4_at (K6.Row.tr r0 hk id) (k / 8) (by omega); go_simp; exact ⟨rfl, rfl⟩)); refine hK _ _ ?_; clear hK K
      refine stepK rfl (by kernel_rfl) (fun K hK => ?_); go_simp
      apply Exists.intro; apply And.intro; (focus (intro wk hk; go_simp; exact ⟨rfl, rfl⟩)); refine hK _ _ ?_; clear hK K
      refine stepK rfl (by kernel_rfl) (fun K hK => ?_); go_simp
      apply Exists.intro; apply And.intro; (focus (intro wk hk; go_simp; exact ⟨rfl, rfl⟩)); refine hK _ _ ?_; clear hK K
      refine stepK rfl (by kernel_rfl) (fun K hK => ?_); go_simp
      apply Exists.intro; apply And.intro; (focus (intro wk hk; go_simp; exact ⟨rfl, rfl⟩)); refine hK _ _ ?_; clear hK K
      refine stepK rfl (by kernel_rfl) (fun K hK => ?_); go_simp
      apply Exists.intro; apply And.intro; (focus (intro wk hk; go_simp; exact ⟨rfl, rfl⟩)); refine hK _ _ ?_; clear hK K
      refine stepK rfl (by kernel_rfl) (fun K hK => ?_); go_simp
      apply Exists.intro; apply And.intro; (focus (intro wk hk; go_simp; exact ⟨rfl, rfl⟩)); refine hK _ _ ?_; clear hK K
      refine stepK rfl (by kernel_rfl) (fun K hK => ?_); go_simp
      apply Exists.intro; apply And.intro; (focus (intro wk hk; go_simp; exact ⟨rfl, rfl⟩)); refine hK _ _ ?_; clear hK K
      refine stepS _ rfl (by kernel_rfl) (fun K hK => ?_); go_simp
      refine ⟨?_, ?_⟩
      · intro wk hk hg hu; go_simp; exact left_L rfl rfl
      rintro ⟨v11, lo11, hi11⟩ hlo11 hhi11 ⟨e11, f11⟩
      replace e11 : v11 = .slice (some ⟨lo11, 0, none⟩) 1 1 := e11; replace f11 : hi11 = lo11 + 1 := f11; replace hlo11 : _ ≤ lo11 := hlo11; subst e11; subst f11
      refine hK _ _ ?_; clear hK K
      refine stepS _ rfl (by kernel_rfl) (fun K hK => ?_); go_simp
      refine ⟨?_, ?_⟩
      · intro wk hk hg hu; have u11 := hu 11 (show 11 ∈ [11] by decide); have r11 : Row wk lo11 5 #[.int .u8 ((byN a k : Nat) : Int)] := u11.2; have how := own_tr ho hk (fun _ _ => id); obtain ⟨v2, w2, hrun, ho2, hgb, -, hw2⟩ := run_append_own_at (P := Try.prog) wk (w.heap.size + 1) 33 33 5 _ _ 1 1 rfl rfl rfl rfl rfl rfl (by decide) u3 i (bL a i) how ⟨lo11, 0, none⟩ 1 1 [.int .u8 ((byN a k : Nat) : Int)] rfl (by intro j u hj; match j, hj with | 0, hj => (cases hj; exact r11.cell 0)) (by simp [Value.oneCell']) (by simp only [maxLen]; omega) (by omega) (by have h1 := r0.lt; have h2 := hk.size; omega); rw [run_append_op rfl rfl rfl hrun]; exact left_P rfl rfl hgb (by rw [bL_succ, show 31 - i = k by omega]; exact ho2) hw2
      rintro ⟨v12, lo12, hi12⟩ - - hG12
      refine hK _ _ ?_; clear hK K
      refine stepKz rfl (fun K hK => ?_); go_simp
      apply Exists.intro; apply And.intro; (focus (intro wk hk; go_simp; exact ⟨rfl, rfl⟩)); refine hK _ _ ?_; clear hK K
      refine stepN ?_
      refine hQ _ _ ?_
      intro w6 hT hG hF
      have hO : w6.ownsRow (w.heap.size + 1) 5 1 v12 (i + 1) (bL a (i + 1)) := (hF 12 _ rfl rfl (by decide)).2
      have hT2 := hT
      have hl6 : Below w.heap.size w w6 := hl.trans (hT2.below_of hl.size (by intro c hc; have := (ho.lt c hc).1; omega))
      have r6 : Row w6 w.heap.size 31 (W4 a) := K6.Row.tr r0 hT2 (fun hc => by have := (ho.lt _ hc).1; omega)
      have H := Lib.hid (show _ ∧ _ ∧ _ from ⟨hl6, r6, hO⟩)
      clear hT hT2 hG hF hQ QQ L hO hl6 r6 hl r0 ho hown hG12 hby
      go_wp2_with fail
      go_roundg k
      case measure => omega
      case rel => exact ⟨i + 1, by omega, by go_num, H.out.1, H.out.2.1, H.out.2.2⟩
    · obtain rfl : i = 32 := by omega
      obtain rfl : gk = 0 := by omega
      have H := Lib.hid (show _ ∧ _ from ⟨hl, ho⟩)
      clear hl r0 ho hlt
      go_wp2_with fail
      go_ret
      exact ⟨_, rfl, H.out.2, H.out.1⟩
end Go.Proofs.Ytpdenhmkpiafiaa
namespace Go.Proofs.Ytpdenhmkpiafiaa
open Go Go.RowKit K6
set_option maxRecDepth 100000 in
set_option maxHeartbeats 8000000 in
theorem refhash_put (u : Value) (xs hs : List Int) (w : World) (h : Bs w u xs) (hL0 : xs.length ≤ 10000000) (hh : hs.length = 32) :
    Calls Try.prog 43 #[u, .agg (bv hs).toArray] w fun e w' => ∃ v, e = .returned v ∧ Ob w' w.heap.size v (xs ++ hs) ∧ Below w.heap.size w w' := by
  have hL := Lib.hid (show xs.length ≤ 100000000 by omega)
  have hH := Lib.hid hh
  obtain ⟨z0, hz0e⟩ : ∃ z, ([] : List Int) = z := ⟨_, rfl⟩
  have hz2e : z0 ++ xs = xs := by rw [← hz0e]; rfl
  have hz0l := Lib.hid (show z0.length = 0 by rw [← hz0e]; rfl)
  have hz0 := Lib.hid hz0e
  have hxs := Lib.hid hz2e
  obtain ⟨z4, hz4e⟩ : ∃ z, xs ++ hs = z := ⟨_, rfl⟩
  have hz4 := Lib.hid hz4e
  have hfin := Lib.hid hz4e.symm
  clear hz4e hz0e hz2e
  have hb0 := h
  clear h hL0 hh
  go_enter Try.func43, Try.ntmps43
  apply wp_seq_eq
  focus
    intro J hJ
    go_wp2_with fail
    exact hJ
  refine wp_abs (Mem w [(w.heap.size, 35, (bv hs).toArray)]) ⟨by go_grown, Row.new_at rfl, trivial⟩ ?_
  intro w0 hM
  obtain ⟨hl, rh, -⟩ := hM
  have hb := hb0.below hl
  clear hb0
  go_upto_region 1 with (fail)
  let L : List Sp := [sQ 0 [] [] [] [2, 4] w0.heap.size z0 (fun _ => True), sQ 2 [0] [0] [0] [4] w0.heap.size xs (fun _ => True), sQ 4 [2, 0] [2, 0] [2] [] w0.heap.size z4 (fun _ => True)]
  refine wp_region_six7 (shs L) (look6 L) (None_) (by kernel_rfl) (by kernel_rfl) (mk_St L [] [] (by kernel_rfl) (by kernel_rfl) ⟨ok_Q ⟨undef, trivial⟩ (by simp), ok_Q ⟨undef, trivial⟩ (by simp), ok_Q ⟨undef, trivial⟩ (by simp), trivial⟩ (by simp)) ?_
  intro QQ hQ
  refine stepS _ rfl (by kernel_rfl) (fun K hK => ?_); go_simp
  refine ⟨?_, ?_⟩
  · intro wk hk hg hu; go_simp; exact left_Qc rfl rfl (hz0.out ▸ Ob_new0 wk) ((Below.refl _ _).alloc (Nat.le_refl _) _) hk.undrew.size trivial
  rintro ⟨v0, lo0, hi0⟩ - - -
  refine hK _ _ ?_; clear hK K
  refine stepK rfl (by kernel_rfl) (fun K hK => ?_); go_simp
  apply Exists.intro; apply And.intro; (focus (intro wk hk; go_simp; exact ⟨rfl, rfl⟩)); refine hK _ _ ?_; clear hK K
  refine stepS _ rfl (by kernel_rfl) (fun K hK => ?_); go_simp
  refine ⟨?_, ?_⟩
  · intro wk hk hg hu; have u0 := hu 0 (show 0 ∈ [0] by decide); have o0 : OwnF 0 [] w0.heap.size (z0) _ wk := u0; have p0 : Ob wk w0.heap.size v0 (z0) := o0.1; have s9 := (hb.below hk.undrew.below); obtain ⟨v', w', hrun, ho2, hgb, hw⟩ := append_run p0 s9 (by have := hL.out; have := hz0l.out; omega) hk.undrew.size; rw [run_append_op rfl rfl rfl hrun]; exact left_Qa rfl rfl (by decide) o0.2 hgb (by rw [← hxs.out]; exact ho2) hw trivial
  rintro ⟨v2, lo2, hi2⟩ - - -
  refine hK _ _ ?_; clear hK K
  refine stepK rfl (by kernel_rfl) (fun K hK => ?_); go_simp
  apply Exists.intro; apply And.intro; (focus (intro wk hk; go_simp; exact ⟨rfl, rfl⟩)); refine hK _ _ ?_; clear hK K
  refine stepS _ rfl (by kernel_rfl) (fun K hK => ?_); go_simp
  refine ⟨?_, ?_⟩
  · intro wk hk hg hu; have u2 := hu 2 (show 2 ∈ [2] by decide); have o2 : OwnF 2 [0] w0.heap.size (xs) _ wk := u2; have p2 : Ob wk w0.heap.size v2 (xs) := o2.1; have s9 := (Bs_row (K6.Row.tr rh hk.undrew id) hH.out); obtain ⟨v', w', hrun, ho2, hgb, hw⟩ := append_run p2 s9 (by have := hL.out; have := hH.out; omega) hk.undrew.size; rw [run_append_op rfl rfl rfl hrun]; exact left_Qa rfl rfl (by decide) o2.2 hgb (by rw [← hz4.out]; exact ho2) hw trivial
  rintro ⟨v4, lo4, hi4⟩ - - -
  refine hK _ _ ?_; clear hK K
  refine stepK rfl (by kernel_rfl) (fun K hK => ?_); go_simp
  apply Exists.intro; apply And.intro; (focus (intro wk hk; go_simp; exact ⟨rfl, rfl⟩)); refine hK _ _ ?_; clear hK K
  refine stepN ?_
  refine hQ _ _ ?_
  intro w3 hT hG hF
  have hb3 := hT.undrew.below
  have o9 : OwnF 4 [2, 0] w0.heap.size z4 _ w3 := hF 4 _ rfl rfl (by decide)
  have H := Lib.hid (show _ ∧ _ from ⟨(show Ob w3 w0.heap.size v4 z4 from o9.1).base hl.size, hl.trans (hb3.mono hl.size)⟩)
  clear hT hG hF hb3 hQ QQ L o9 hl hb
  go_wp2_with fail
  go_ret
  exact ⟨_, rfl, by rw [← hfin.out]; exact H.out.1, H.out.2⟩
theorem nby_of {a k : Nat} (hk : k < 32) (h1 : a < 2 ^ (8 * (32 - k))) (h2 : byN a (31 - k) ≠ 0) : nby a = 32 - k := by
  have h3 : blen a ≤ 8 * (32 - k) := blen_le h1
  have h4 : 8 * (31 - k) < blen a := by
    rcases Nat.lt_or_ge (8 * (31 - k)) (blen a) with h | h
    · exact h
    · exfalso
      have h5 : a < 2 ^ (8 * (31 - k)) := Nat.lt_of_lt_of_le (lt_blen a) (Nat.pow_le_pow_right (by decide) h)
      apply h2
      unfold byN
      rw [Nat.div_eq_of_lt h5]
  unfold nby
  omega
theorem nby_zero {a : Nat} (h : a < 2 ^ (8 * (32 - 32))) : nby a = 0 := by
  have : a = 0 := by simpa using h
  subst this
  rfl
theorem byte_zero {a k : Nat} (hk : k < 32) (h1 : a < 2 ^ (8 * (32 - k))) (h2 : byN a (31 - k) = 0) : a < 2 ^ (8 * (32 - (k + 1))) := by
  have e : 8 * (32 - k) = 8 * (31 - k) + 8 := by omega
  rw [e, Nat.pow_add] at h1
  rw [show 32 - (k + 1) = 31 - k by omega]
  have h3 : a / 2 ^ (8 * (31 - k)) < 2 ^ 8 := by rw [Nat.div_lt_iff_lt_mul (Nat.pow_pos (by decide)), Nat.mul_comm]; exact h1
  unfold byN at h2
  have h4 : a / 2 ^ (8 * (31 - k)) = 0 := by
    obtain ⟨q, hq⟩ : ∃ q, a / 2 ^ (8 * (31 - k)) = q := ⟨_, rfl⟩
    rw [hq] at h2 h3 ⊢
    omega
  rcases Nat.lt_or_ge a (2 ^ (8 * (31 - k))) with h | h
  · exact h
  · have := Nat.div_pos h (Nat.pow_pos (by decide)); omega
def SX (x : GV) : Prop := ∃ g c, 32 ≤ c ∧ x.v = .slice (some ⟨g, 0, none⟩) 32 c
theorem sx_some {w : World} : ∃ x : GV, w.heap.size ≤ x.lo ∧ x.lo ≤ x.hi ∧ SX x := ⟨⟨.slice (some ⟨0, 0, none⟩) 32 32, w.heap.size, w.heap.size⟩, Nat.le_refl _, Nat.le_refl _, 0, 32, Nat.le_refl _, rfl⟩
theorem bs100 {a : Nat} (ha : a < M) (w : World) : Calls Try.prog 100 #[.agg (W4 a)] w fun e w' => ∃ g c, e = .returned (.slice (some ⟨g, 0, none⟩) 32 c) ∧ 32 ≤ c ∧ Bs w' (.slice (some ⟨g, 0, none⟩) 32 c) (BL32 a) ∧ Below w.heap.size w w' := by
  refine (refBytes_any a ha w).mono ?_
  rintro e w' ⟨v, rfl, h, hb⟩
  have ho : Ob w' (w.heap.size + 1) v (BL32 a) := by
    unfold Ob
    rw [BL32_len]
    exact h
  rcases h.2 with ⟨rfl, h0⟩ | ⟨g, cap, cur, rfl, h1, h2, h3, -⟩
  · exact absurd h0 (by decide)
  · exact ⟨g, cap, rfl, h3, ho.bs, hb⟩
theorem Bs_dropc {w : World} {g j c : Nat} {ys : List Int} (h : Bs w (.slice (some ⟨g, 0, none⟩) 32 c) ys) (_hj : j ≤ 32) : Bs w (.slice (some ⟨g, j, none⟩) (32 - j) (c - j)) (ys.drop j) := by
  obtain ⟨q, c', e, h0, h1⟩ := h
  obtain ⟨e1, e2⟩ : q = some ⟨g, 0, none⟩ ∧ ys.length = 32 := by injection e with e1 e2 e3; exact ⟨e1.symm, e2.symm⟩
  refine ⟨some ⟨g, j, none⟩, c - j, by rw [List.length_drop, e2], (fun h => (by cases h)), fun p hp i u hi => ?_⟩
  cases hp
  rw [add_off, ← Nat.zero_add (j + i), ← add_off]
  refine h1 _ e1 (j + i) u ?_
  rw [← hi]
  unfold bv
  rw [List.getElem?_map, List.getElem?_map, List.getElem?_drop]
theorem Bs_cell {w : World} {g c i a : Nat} (h : Bs w (.slice (some ⟨g, 0, none⟩) 32 c) (BL32 a)) (hi : i < 32) : w.cell? ⟨g, i, none⟩ = some (.int .u8 ((byN a (31 - i) : Nat) : Int)) := by
  obtain ⟨q, c', e, h0, h1⟩ := h
  obtain e1 : q = some ⟨g, 0, none⟩ := by injection e with e1 e2 e3; exact e1.symm
  have := h1 _ e1 i (.int .u8 ((byN a (31 - i) : Nat) : Int)) (by unfold bv BL32; rw [List.map_map, List.getElem?_map, List.getElem?_range hi]; rfl)
  rw [add_at, Nat.zero_add] at this
  exact this
set_option maxRecDepth 100000 in
set_option maxHeartbeats 16000000 in
theorem refamt_any (u : Value) (xs : List Int) (a : Nat) (w : World) (h : Bs w u xs) (hL0 : xs.length ≤ 10000000) (ha : a < M) :
    Calls Try.prog 41 #[u, .agg (W4 a)] w fun e w' => ∃ v, e = .returned v ∧ Ob w' w.heap.size v (xs ++ amtL a) ∧ Below w.heap.size w w' := by
  have hL := Lib.hid (show xs.length ≤ 100000000 by omega)
  have k100 := Lib.hid fun wx => bs100 ha wx
  have hfin0 : ∀ n k : Nat, nby a = n → 32 - n = k → (xs ++ [(n : Int)]) ++ (BL32 a).drop k = xs ++ amtL a := fun n k e1 e2 => by
    subst e1; subst e2
    unfold amtL
    rw [List.append_assoc]; rfl
  obtain ⟨z0, hz0e⟩ : ∃ z, ([] : List Int) = z := ⟨_, rfl⟩
  have hz2e : z0 ++ xs = xs := by rw [← hz0e]; rfl
  have hz0l := Lib.hid (show z0.length = 0 by rw [← hz0e]; rfl)
  have hz0 := Lib.hid hz0e
  have hxs := Lib.hid hz2e
  clear hz0e hz2e
  have HA := Lib.hid (show a < 2 ^ (8 * (32 - 0)) from ha)
  have hb0 := h
  clear h hL0 ha
  go_enter Try.func41, Try.ntmps41
  apply wp_seq_eq
  focus
    intro J hJ
    go_wp2_with fail
    exact hJ
  refine wp_abs (Mem w [(w.heap.size, 31, W4 a)]) ⟨by go_grown, ?_, trivial⟩ ?_
  · repeat (first | (refine Row.new_at ?_; simp; done) | refine Row.alloc ?_ _)
  intro w0 hM
  obtain ⟨hl, ra, -⟩ := hM
  go_upto_region 1 with (fail)
  have hb := hb0.below hl
  clear hb0
  let L : List Sp := [sF 1 [] [] [] (fun x => SX x) (fun x w => Bs w x.v (BL32 a))]
  refine wp_region_six0 (shs L) (look6 L) (None_) (by kernel_rfl) (by kernel_rfl) (mk_St L [] [] (by kernel_rfl) (by kernel_rfl) ⟨ok_F sx_some (fun _ _ _ h hb => Bs.below h hb), trivial⟩ (by simp)) ?_
  intro QQ hQ
  refine stepK rfl (by kernel_rfl) (fun K hK => ?_); go_simp
  apply Exists.intro; apply And.intro; (focus exact kLoad rfl rfl aggT31 ra rfl id); refine hK _ _ ?_; clear hK K
  refine stepS _ rfl (by kernel_rfl) (fun K hK => ?_); go_simp
  refine ⟨?_, ?_⟩
  · intro wk hk hg hu; go_simp; refine upon_enter ((k100.out _).mono ?_); rintro e w' ⟨g, c, rfl, hc9, hv, hb9⟩; exact ⟨_, rfl, left_F rfl rfl hb9 ⟨_, _, hc9, rfl⟩ hv⟩
  rintro ⟨v1, lo1, hi1⟩ - - ⟨g1, c1, hc1, (rfl : v1 = _)⟩
  refine hK _ _ ?_; clear hK K
  refine stepK rfl (by kernel_rfl) (fun K hK => ?_); go_simp
  apply Exists.intro; apply And.intro; (focus (intro wk hk; go_simp; exact ⟨rfl, rfl⟩)); refine hK _ _ ?_; clear hK K
  refine stepN ?_
  refine hQ _ _ ?_
  intro w1 hT hG hF
  have hb1 := hT.below
  have hX : Bs w1 (.slice (some ⟨g1, 0, none⟩) 32 c1) (BL32 a) := hF 1 _ rfl rfl (by decide)
  replace hb := hb.below hb1
  replace hl := hl.trans (hb1.mono hl.size)
  clear hT hG hF hb1 hQ QQ L ra k100
  have H0 := Lib.hid (show _ ∧ _ ∧ _ from ⟨hl, hb, hX⟩)
  have HF := Lib.hid hfin0
  clear hl hb hX hfin0
  go_wp2_with fail
  go_loopg [6] 32 (fun gg s6 wr => ∃ k : Nat, k + gg = 32 ∧ s6 = .int .i64 (k : Int) ∧ wr = w1 ∧ a < 2 ^ (8 * (32 - k)))
  case atStart => exact ⟨0, rfl, rfl, rfl, HA.out⟩
  case round =>
    obtain ⟨k, hk, rfl, rfl, hak⟩ := hrel
    by_cases hk32 : k < 32
    · have hlt : (k : Int) < 32 := by omega
      have cx := Bs_cell H0.out.2.2 hk32
      obtain ⟨y, hy⟩ : ∃ y, byN a (31 - k) = y := ⟨_, rfl⟩
      rw [hy] at cx
      by_cases hy0 : y = 0
      · subst hy0
        have hn := Lib.hid (byte_zero hk32 hak hy)
        clear hak hy
        go_wp2_with fail
        go_roundg (gk - 1)
        case measure => omega
        case rel => exact ⟨k + 1, by omega, by go_num, rfl, hn.out⟩
      · have hq : (((y : Nat) : Int) == 0) = false := by rw [beq_eq_false_iff_ne]; omega
        have hnb := nby_of hk32 hak (by rw [hy]; exact hy0)
        obtain ⟨n, hn⟩ : ∃ n, 32 - k = n := ⟨_, rfl⟩
        rw [hn] at hnb
        have hfin0 := Lib.hid (HF.out n k hnb (by omega))
        have ek : (32 : Int) - (k : Int) = (n : Int) := by omega
        have wk8 : IntKind.u8.wrap (n : Int) = (n : Int) := by rw [IntKind.wrap_u8]; omega
        have wk6 : IntKind.i64.wrap (n : Int) = (n : Int) := by rw [IntKind.wrap_i64]; omega
        have hT9 := Lib.hid (show ((BL32 a).drop k).length ≤ 32 by rw [List.length_drop, BL32_len]; omega)
        have g5 : (k : Int) ≤ 32 := by omega
        have g6 : (32 : Int) ≤ (c1 : Int) := by omega
        have g7 : ¬ c1 = k := by omega
        have hk33 : k ≤ 32 := by omega
        clear hak hy hy0 hnb HF
        obtain ⟨z7, hz7e⟩ : ∃ z, xs ++ [(n : Int)] = z := ⟨_, rfl⟩
        have hz7l := Lib.hid (show z7.length ≤ 100000001 by rw [← hz7e, List.length_append]; have := hL.out; have : ([(n : Int)] : List Int).length = 1 := rfl; omega)
        have hz7 := Lib.hid hz7e
        obtain ⟨z11, hz11e⟩ : ∃ z, z7 ++ ((BL32 a).drop k) = z := ⟨_, rfl⟩
        have hfin := Lib.hid (show z11 = xs ++ amtL a by rw [← hz11e, ← hz7e]; exact hfin0.out)
        have hz11 := Lib.hid hz11e
        clear hz7e hz11e hfin0
        go_upto_region 5 with (fail)
        obtain ⟨hl, hb, hX⟩ := H0.out
        refine wp_abs (fun wx => Below w.heap.size w wx ∧ Bs wx u xs ∧ Bs wx (.slice (some ⟨g1, 0, none⟩) 32 c1) (BL32 a)) ⟨hl, hb, hX⟩ ?_
        clear hl hb hX H0
        rintro wo ⟨hl, hb, hX⟩
        let L : List Sp := [sQ 0 [] [] [] [2, 7, 11] wo.heap.size z0 (fun _ => True), sQ 2 [0] [0] [0] [7, 11] wo.heap.size xs (fun _ => True), sL 6 5 [] 1 #[.int .u8 (n : Int)], sQ 7 [2, 0] [2, 0, 6] [2, 6] [11] wo.heap.size z7 (fun _ => True), sQ 11 [7, 2, 0] [7, 2, 0, 6] [7] [] wo.heap.size z11 (fun _ => True)]
        refine wp_region_six7 (shs L) (look6 L) (None_) (by kernel_rfl) (by kernel_rfl) (mk_St L [] [] (by kernel_rfl) (by kernel_rfl) ⟨ok_Q ⟨undef, trivial⟩ (by simp), ok_Q ⟨undef, trivial⟩ (by simp), ok_L, ok_Q ⟨undef, trivial⟩ (by simp), ok_Q ⟨undef, trivial⟩ (by simp), trivial⟩ (by simp)) ?_
        intro QQ hQ
        refine stepS _ rfl (by kernel_rfl) (fun K hK => ?_); go_simp
        refine ⟨?_, ?_⟩
        · intro wk hk hg hu; go_simp; exact left_Qc rfl rfl (hz0.out ▸ Ob_new0 wk) ((Below.refl _ _).alloc (Nat.le_refl _) _) hk.undrew.size trivial
        rintro ⟨v0, lo0, hi0⟩ - - -
        refine hK _ _ ?_; clear hK K
        refine stepK rfl (by kernel_rfl) (fun K hK => ?_); go_simp
        apply Exists.intro; apply And.intro; (focus (intro wk hk; go_simp; exact ⟨rfl, rfl⟩)); refine hK _ _ ?_; clear hK K
        refine stepS _ rfl (by kernel_rfl) (fun K hK => ?_); go_simp
        refine ⟨?_, ?_⟩
        · intro wk hk hg hu; have u0 := hu 0 (show 0 ∈ [0] by decide); have o0 : OwnF 0 [] wo.heap.size (z0) _ wk := u0; have p0 : Ob wk wo.heap.size v0 (z0) := o0.1; have s9 := (hb.below hk.undrew.below); obtain ⟨v', w', hrun, ho2, hgb, hw⟩ := append_run p0 s9 (by have := hL.out; have := hz0l.out; omega) hk.undrew.size; rw [run_append_op rfl rfl rfl hrun]; exact left_Qa rfl rfl (by decide) o0.2 hgb (by rw [← hxs.out]; exact ho2) hw trivial
        rintro ⟨v2, lo2, hi2⟩ - - -
        refine hK _ _ ?_; clear hK K
        refine stepK rfl (by kernel_rfl) (fun K hK => ?_); go_simp
        apply Exists.intro; apply And.intro; (focus (intro wk hk; go_simp; exact ⟨rfl, rfl⟩)); refine hK _ _ ?_; clear hK K
        refine stepK rfl (by kernel_rfl) (fun K hK => ?_); go_simp
        apply Exists.intro; apply And.intro; (focus (intro wk hk; go_simp; exact ⟨rfl, rfl⟩)); refine hK _ _ ?_; clear hK K
        refine stepK rfl (by kernel_rfl) (fun K hK => ?_); go_simp
        apply Exists.intro; apply And.intro; (focus (intro wk hk; go_simp; exact ⟨rfl, rfl⟩)); refine hK _ _ ?_; clear hK K
        refine stepS _ rfl (by kernel_rfl) (fun K hK => ?_); go_simp
        refine ⟨?_, ?_⟩
        · intro wk hk hg hu; go_simp; exact left_L rfl rfl
        rintro ⟨v6, lo6, hi6⟩ hlo6 hhi6 ⟨e6, f6⟩
        replace e6 : v6 = .slice (some ⟨lo6, 0, none⟩) 1 1 := e6; replace f6 : hi6 = lo6 + 1 := f6; replace hlo6 : _ ≤ lo6 := hlo6; subst e6; subst f6
        refine hK _ _ ?_; clear hK K
        refine stepS _ rfl (by kernel_rfl) (fun K hK => ?_); go_simp
        refine ⟨?_, ?_⟩
        · intro wk hk hg hu; have u2 := hu 2 (show 2 ∈ [2, 6] by decide); have u6 := hu 6 (show 6 ∈ [2, 6] by decide); have o2 : OwnF 2 [0] wo.heap.size (xs) _ wk := u2; have p2 : Ob wk wo.heap.size v2 (xs) := o2.1; have s9 := (Bs_row1 (show Row wk lo6 5 #[.int .u8 (n : Int)] from And.right (a := lo6 + 1 = lo6 + 1) u6)); obtain ⟨v', w', hrun, ho2, hgb, hw⟩ := append_run p2 s9 (by have := hL.out; have : ([(n : Int)] : List Int).length = 1 := rfl; omega) hk.undrew.size; rw [run_append_op rfl rfl rfl hrun]; exact left_Qa rfl rfl (by decide) o2.2 hgb (by rw [← hz7.out]; exact ho2) hw trivial
        rintro ⟨v7, lo7, hi7⟩ - - -
        refine hK _ _ ?_; clear hK K
        refine stepK rfl (by kernel_rfl) (fun K hK => ?_); go_simp
        apply Exists.intro; apply And.intro; (focus (intro wk hk; go_simp; exact ⟨rfl, rfl⟩)); refine hK _ _ ?_; clear hK K
        refine stepK rfl (by kernel_rfl) (fun K hK => ?_); go_simp
        apply Exists.intro; apply And.intro; (focus (intro wk hk; go_simp; exact ⟨rfl, rfl⟩)); refine hK _ _ ?_; clear hK K
        refine stepK rfl (by kernel_rfl) (fun K hK => ?_); go_simp
        apply Exists.intro; apply And.intro; (focus (intro wk hk; go_simp; exact ⟨rfl, rfl⟩)); refine hK _ _ ?_; clear hK K
        refine stepS _ rfl (by kernel_rfl) (fun K hK => ?_); go_simp
        refine ⟨?_, ?_⟩
        · intro wk hk hg hu; have u7 := hu 7 (show 7 ∈ [7] by decide); have o7 : OwnF 7 [2, 0] wo.heap.size (z7) _ wk := u7; have p7 : Ob wk wo.heap.size v7 (z7) := o7.1; have s9 := (hn ▸ Bs_dropc (hX.below hk.undrew.below) hk33); obtain ⟨v', w', hrun, ho2, hgb, hw⟩ := append_run p7 s9 (by have := hz7l.out; have := hT9.out; omega) hk.undrew.size; rw [run_append_op rfl rfl rfl hrun]; exact left_Qa rfl rfl (by decide) o7.2 hgb (by rw [← hz11.out]; exact ho2) hw trivial
        rintro ⟨v11, lo11, hi11⟩ - - -
        refine hK _ _ ?_; clear hK K
        refine stepK rfl (by kernel_rfl) (fun K hK => ?_); go_simp
        apply Exists.intro; apply And.intro; (focus (intro wk hk; go_simp; exact ⟨rfl, rfl⟩)); refine hK _ _ ?_; clear hK K
        refine stepN ?_
        refine hQ _ _ ?_
        intro w3 hT hG hF
        have hb3 := hT.undrew.below
        have o9 : OwnF 11 [7, 2, 0] wo.heap.size z11 _ w3 := hF 11 _ rfl rfl (by decide)
        have H := Lib.hid (show _ ∧ _ from ⟨(show Ob w3 wo.heap.size v11 z11 from o9.1).base hl.size, hl.trans (hb3.mono hl.size)⟩)
        clear hT hG hF hb3 hQ QQ L o9 hl hb
        go_wp2_with fail
        go_ret
        exact ⟨_, rfl, by rw [← hfin.out]; exact H.out.1, H.out.2⟩
    · obtain rfl : k = 32 := by omega
      have hlt : ¬ ((32 : Nat) : Int) < 32 := by omega
      have hnb := nby_zero hak
      have hfin0 := Lib.hid (HF.out 0 32 hnb (by omega))
      have hT9 := Lib.hid (show ((BL32 a).drop 32).length ≤ 32 by rw [List.length_drop, BL32_len]; omega)
      have g6 : (32 : Int) ≤ (c1 : Int) := by omega
      clear hak hnb HF hk32
      by_cases hc32 : c1 = 32
      · subst hc32
        obtain ⟨z7, hz7e⟩ : ∃ z, xs ++ [((0 : Nat) : Int)] = z := ⟨_, rfl⟩
        have hz7l := Lib.hid (show z7.length ≤ 100000001 by rw [← hz7e, List.length_append]; have := hL.out; have : ([((0 : Nat) : Int)] : List Int).length = 1 := rfl; omega)
        have hz7 := Lib.hid hz7e
        obtain ⟨z11, hz11e⟩ : ∃ z, z7 ++ ((BL32 a).drop 32) = z := ⟨_, rfl⟩
        have hfin := Lib.hid (show z11 = xs ++ amtL a by rw [← hz11e, ← hz7e]; exact hfin0.out)
        have hz11 := Lib.hid hz11e
        clear hz7e hz11e hfin0
        go_upto_region 5 with (fail)
        obtain ⟨hl, hb, hX⟩ := H0.out
        refine wp_abs (fun wx => Below w.heap.size w wx ∧ Bs wx u xs ∧ Bs wx (.slice (some ⟨g1, 0, none⟩) 32 32) (BL32 a)) ⟨hl, hb, hX⟩ ?_
        clear hl hb hX H0
        rintro wo ⟨hl, hb, hX⟩
        let L : List Sp := [sQ 0 [] [] [] [2, 7, 11] wo.heap.size z0 (fun _ => True), sQ 2 [0] [0] [0] [7, 11] wo.heap.size xs (fun _ => True), sL 6 5 [] 1 #[.int .u8 ((0 : Nat) : Int)], sQ 7 [2, 0] [2, 0, 6] [2, 6] [11] wo.heap.size z7 (fun _ => True), sQ 11 [7, 2, 0] [7, 2, 0, 6] [7] [] wo.heap.size z11 (fun _ => True)]
        refine wp_region_six7 (shs L) (look6 L) (None_) (by kernel_rfl) (by kernel_rfl) (mk_St L [] [] (by kernel_rfl) (by kernel_rfl) ⟨ok_Q ⟨undef, trivial⟩ (by simp), ok_Q ⟨undef, trivial⟩ (by simp), ok_L, ok_Q ⟨undef, trivial⟩ (by simp), ok_Q ⟨undef, trivial⟩ (by simp), trivial⟩ (by simp)) ?_
        intro QQ hQ
        refine stepS _ rfl (by kernel_rfl) (fun K hK => ?_); go_simp
        refine ⟨?_, ?_⟩
        · intro wk hk hg hu; go_simp; exact left_Qc rfl rfl (hz0.out ▸ Ob_new0 wk) ((Below.refl _ _).alloc (Nat.le_refl _) _) hk.undrew.size trivial
        rintro ⟨v0, lo0, hi0⟩ - - -
        refine hK _ _ ?_; clear hK K
        refine stepK rfl (by kernel_rfl) (fun K hK => ?_); go_simp
        apply Exists.intro; apply And.intro; (focus (intro wk hk; go_simp; exact ⟨rfl, rfl⟩)); refine hK _ _ ?_; clear hK K
        refine stepS _ rfl (by kernel_rfl) (fun K hK => ?_); go_simp
        refine ⟨?_, ?_⟩
        · intro wk hk hg hu; have u0 := hu 0 (show 0 ∈ [0] by decide); have o0 : OwnF 0 [] wo.heap.size (z0) _ wk := u0; have p0 : Ob wk wo.heap.size v0 (z0) := o0.1; have s9 := (hb.below hk.undrew.below); obtain ⟨v', w', hrun, ho2, hgb, hw⟩ := append_run p0 s9 (by have := hL.out; have := hz0l.out; omega) hk.undrew.size; rw [run_append_op rfl rfl rfl hrun]; exact left_Qa rfl rfl (by decide) o0.2 hgb (by rw [← hxs.out]; exact ho2) hw trivial
        rintro ⟨v2, lo2, hi2⟩ - - -
        refine hK _ _ ?_; clear hK K
        refine stepK rfl (by kernel_rfl) (fun K hK => ?_); go_simp
        apply Exists.intro; apply And.intro; (focus (intro wk hk; go_simp; exact ⟨rfl, rfl⟩)); refine hK _ _ ?_; clear hK K
        refine stepK rfl (by kernel_rfl) (fun K hK => ?_); go_simp
        apply Exists.intro; apply And.intro; (focus (intro wk hk; go_simp; exact ⟨rfl, rfl⟩)); refine hK _ _ ?_; clear hK K
        refine stepK rfl (by kernel_rfl) (fun K hK => ?_); go_simp
        apply Exists.intro; apply And.intro; (focus (intro wk hk; go_simp; exact ⟨rfl, rfl⟩)); refine hK _ _ ?_; clear hK K
        refine stepS _ rfl (by kernel_rfl) (fun K hK => ?_); go_simp
        refine ⟨?_, ?_⟩
        · intro wk hk hg hu; go_simp; exact left_L rfl rfl
        rintro ⟨v6, lo6, hi6⟩ hlo6 hhi6 ⟨e6, f6⟩
        replace e6 : v6 = .slice (some ⟨lo6, 0, none⟩) 1 1 := e6; replace f6 : hi6 = lo6 + 1 := f6; replace hlo6 : _ ≤ lo6 := hlo6; subst e6; subst f6
        refine hK _ _ ?_; clear hK K
        refine stepS _ rfl (by kernel_rfl) (fun K hK => ?_); go_simp
        refine ⟨?_, ?_⟩
        · intro wk hk hg hu; have u2 := hu 2 (show 2 ∈ [2, 6] by decide); have u6 := hu 6 (show 6 ∈ [2, 6] by decide); have o2 : OwnF 2 [0] wo.heap.size (xs) _ wk := u2; have p2 : Ob wk wo.heap.size v2 (xs) := o2.1; have s9 := (Bs_row1 (show Row wk lo6 5 #[.int .u8 ((0 : Nat) : Int)] from And.right (a := lo6 + 1 = lo6 + 1) u6)); obtain ⟨v', w', hrun, ho2, hgb, hw⟩ := append_run p2 s9 (by have := hL.out; have : ([((0 : Nat) : Int)] : List Int).length = 1 := rfl; omega) hk.undrew.size; rw [run_append_op rfl rfl rfl hrun]; exact left_Qa rfl rfl (by decide) o2.2 hgb (by rw [← hz7.out]; exact ho2) hw trivial
        rintro ⟨v7, lo7, hi7⟩ - - -
        refine hK _ _ ?_; clear hK K
        refine stepK rfl (by kernel_rfl) (fun K hK => ?_); go_simp
        apply Exists.intro; apply And.intro; (focus (intro wk hk; go_simp; exact ⟨rfl, rfl⟩)); refine hK _ _ ?_; clear hK K
        refine stepK rfl (by kernel_rfl) (fun K hK => ?_); go_simp
        apply Exists.intro; apply And.intro; (focus (intro wk hk; go_simp; exact ⟨rfl, rfl⟩)); refine hK _ _ ?_; clear hK K
        refine stepK rfl (by kernel_rfl) (fun K hK => ?_); go_simp
        apply Exists.intro; apply And.intro; (focus (intro wk hk; go_simp; exact ⟨rfl, rfl⟩)); refine hK _ _ ?_; clear hK K
        refine stepS _ rfl (by kernel_rfl) (fun K hK => ?_); go_simp
        refine ⟨?_, ?_⟩
        · intro wk hk hg hu; have u7 := hu 7 (show 7 ∈ [7] by decide); have o7 : OwnF 7 [2, 0] wo.heap.size (z7) _ wk := u7; have p7 : Ob wk wo.heap.size v7 (z7) := o7.1; have s9 := (show Bs wk (.slice (some ⟨g1, 0, none⟩) 0 0) ((BL32 a).drop 32) from by rw [List.drop_eq_nil_of_le (by rw [BL32_len]; exact Nat.le_refl _)]; exact ⟨_, _, rfl, (fun h => (by cases h)), fun p hp i u hi => by simp [bv] at hi⟩); obtain ⟨v', w', hrun, ho2, hgb, hw⟩ := append_run p7 s9 (by have := hz7l.out; have := hT9.out; omega) hk.undrew.size; rw [run_append_op rfl rfl rfl hrun]; exact left_Qa rfl rfl (by decide) o7.2 hgb (by rw [← hz11.out]; exact ho2) hw trivial
        rintro ⟨v11, lo11, hi11⟩ - - -
        refine hK _ _ ?_; clear hK K
        refine stepK rfl (by kernel_rfl) (fun K hK => ?_); go_simp
        apply Exists.intro; apply And.intro; (focus (intro wk hk; go_simp; exact ⟨rfl, rfl⟩)); refine hK _ _ ?_; clear hK K
        refine stepN ?_
        refine hQ _ _ ?_
        intro w3 hT hG hF
        have hb3 := hT.undrew.below
        have o9 : OwnF 11 [7, 2, 0] wo.heap.size z11 _ w3 := hF 11 _ rfl rfl (by decide)
        have H := Lib.hid (show _ ∧ _ from ⟨(show Ob w3 wo.heap.size v11 z11 from o9.1).base hl.size, hl.trans (hb3.mono hl.size)⟩)
        clear hT hG hF hb3 hQ QQ L o9 hl hb
        go_wp2_with fail
        go_ret
        exact ⟨_, rfl, by rw [← hfin.out]; exact H.out.1, H.out.2⟩
      · skip
        obtain ⟨z7, hz7e⟩ : ∃ z, xs ++ [((0 : Nat) : Int)] = z := ⟨_, rfl⟩
        have hz7l := Lib.hid (show z7.length ≤ 100000001 by rw [← hz7e, List.length_append]; have := hL.out; have : ([((0 : Nat) : Int)] : List Int).length = 1 := rfl; omega)
        have hz7 := Lib.hid hz7e
        obtain ⟨z11, hz11e⟩ : ∃ z, z7 ++ ((BL32 a).drop 32) = z := ⟨_, rfl⟩
        have hfin := Lib.hid (show z11 = xs ++ amtL a by rw [← hz11e, ← hz7e]; exact hfin0.out)
        have hz11 := Lib.hid hz11e
        clear hz7e hz11e hfin0
        go_upto_region 5 with (fail)
        obtain ⟨hl, hb, hX⟩ := H0.out
        refine wp_abs (fun wx => Below w.heap.size w wx ∧ Bs wx u xs ∧ Bs wx (.slice (some ⟨g1, 0, none⟩) 32 c1) (BL32 a)) ⟨hl, hb, hX⟩ ?_
        clear hl hb hX H0
        rintro wo ⟨hl, hb, hX⟩
        let L : List Sp := [sQ 0 [] [] [] [2, 7, 11] wo.heap.size z0 (fun _ => True), sQ 2 [0] [0] [0] [7, 11] wo.heap.size xs (fun _ => True), sL 6 5 [] 1 #[.int .u8 ((0 : Nat) : Int)], sQ 7 [2, 0] [2, 0, 6] [2, 6] [11] wo.heap.size z7 (fun _ => True), sQ 11 [7, 2, 0] [7, 2, 0, 6] [7] [] wo.heap.size z11 (fun _ => True)]
        refine wp_region_six7 (shs L) (look6 L) (None_) (by kernel_rfl) (by kernel_rfl) (mk_St L [] [] (by kernel_rfl) (by kernel_rfl) ⟨ok_Q ⟨undef, trivial⟩ (by simp), ok_Q ⟨undef, trivial⟩ (by simp), ok_L, ok_Q ⟨undef, trivial⟩ (by simp), ok_Q ⟨undef, trivial⟩ (by simp), trivial⟩ (by simp)) ?_
        intro QQ hQ
        refine stepS _ rfl (by kernel_rfl) (fun K hK => ?_); go_simp
        refine ⟨?_, ?_⟩
        · intro wk hk hg hu; go_simp; exact left_Qc rfl rfl (hz0.out ▸ Ob_new0 wk) ((Below.refl _ _).alloc (Nat.le_refl _) _) hk.undrew.size trivial
        rintro ⟨v0, lo0, hi0⟩ - - -
        refine hK _ _ ?_; clear hK K
        refine stepK rfl (by kernel_rfl) (fun K hK => ?_); go_simp
        apply Exists.intro; apply And.intro; (focus (intro wk hk; go_simp; exact ⟨rfl, rfl⟩)); refine hK _ _ ?_; clear hK K
        refine stepS _ rfl (by kernel_rfl) (fun K hK => ?_); go_simp
        refine ⟨?_, ?_⟩
        · intro wk hk hg hu; have u0 := hu 0 (show 0 ∈ [0] by decide); have o0 : OwnF 0 [] wo.heap.size (z0) _ wk := u0; have p0 : Ob wk wo.heap.size v0 (z0) := o0.1; have s9 := (hb.below hk.undrew.below); obtain ⟨v', w', hrun, ho2, hgb, hw⟩ := append_run p0 s9 (by have := hL.out; have := hz0l.out; omega) hk.undrew.size; rw [run_append_op rfl rfl rfl hrun]; exact left_Qa rfl rfl (by decide) o0.2 hgb (by rw [← hxs.out]; exact ho2) hw trivial
        rintro ⟨v2, lo2, hi2⟩ - - -
        refine hK _ _ ?_; clear hK K
        refine stepK rfl (by kernel_rfl) (fun K hK => ?_); go_simp
        apply Exists.intro; apply And.intro; (focus (intro wk hk; go_simp; exact ⟨rfl, rfl⟩)); refine hK _ _ ?_; clear hK K
        refine stepK rfl (by kernel_rfl) (fun K hK => ?_); go_simp
        apply Exists.intro; apply And.intro; (focus (intro wk hk; go_simp; exact ⟨rfl, rfl⟩)); refine hK _ _ ?_; clear hK K
        refine stepK rfl (by kernel_rfl) (fun K hK => ?_); go_simp
        apply Exists.intro; apply And.intro; (focus (intro wk hk; go_simp; exact ⟨rfl, rfl⟩)); refine hK _ _ ?_; clear hK K
        refine stepS _ rfl (by kernel_rfl) (fun K hK => ?_); go_simp
        refine ⟨?_, ?_⟩
        · intro wk hk hg hu; go_simp; exact left_L rfl rfl
        rintro ⟨v6, lo6, hi6⟩ hlo6 hhi6 ⟨e6, f6⟩
        replace e6 : v6 = .slice (some ⟨lo6, 0, none⟩) 1 1 := e6; replace f6 : hi6 = lo6 + 1 := f6; replace hlo6 : _ ≤ lo6 := hlo6; subst e6; subst f6
        refine hK _ _ ?_; clear hK K
        refine stepS _ rfl (by kernel_rfl) (fun K hK => ?_); go_simp
        refine ⟨?_, ?_⟩
        · intro wk hk hg hu; have u2 := hu 2 (show 2 ∈ [2, 6] by decide); have u6 := hu 6 (show 6 ∈ [2, 6] by decide); have o2 : OwnF 2 [0] wo.heap.size (xs) _ wk := u2; have p2 : Ob wk wo.heap.size v2 (xs) := o2.1; have s9 := (Bs_row1 (show Row wk lo6 5 #[.int .u8 ((0 : Nat) : Int)] from And.right (a := lo6 + 1 = lo6 + 1) u6)); obtain ⟨v', w', hrun, ho2, hgb, hw⟩ := append_run p2 s9 (by have := hL.out; have : ([((0 : Nat) : Int)] : List Int).length = 1 := rfl; omega) hk.undrew.size; rw [run_append_op rfl rfl rfl hrun]; exact left_Qa rfl rfl (by decide) o2.2 hgb (by rw [← hz7.out]; exact ho2) hw trivial
        rintro ⟨v7, lo7, hi7⟩ - - -
        refine hK _ _ ?_; clear hK K
        refine stepK rfl (by kernel_rfl) (fun K hK => ?_); go_simp
        apply Exists.intro; apply And.intro; (focus (intro wk hk; go_simp; exact ⟨rfl, rfl⟩)); refine hK _ _ ?_; clear hK K
        refine stepK rfl (by kernel_rfl) (fun K hK => ?_); go_simp
        apply Exists.intro; apply And.intro; (focus (intro wk hk; go_simp; exact ⟨rfl, rfl⟩)); refine hK _ _ ?_; clear hK K
        refine stepK rfl (by kernel_rfl) (fun K hK => ?_); go_simp
        apply Exists.intro; apply And.intro; (focus (intro wk hk; go_simp; exact ⟨rfl, rfl⟩)); refine hK _ _ ?_; clear hK K
        refine stepS _ rfl (by kernel_rfl) (fun K hK => ?_); go_simp
        refine ⟨?_, ?_⟩
        · intro wk hk hg hu; have u7 := hu 7 (show 7 ∈ [7] by decide); have o7 : OwnF 7 [2, 0] wo.heap.size (z7) _ wk := u7; have p7 : Ob wk wo.heap.size v7 (z7) := o7.1; have s9 := (Bs_dropc (hX.below hk.undrew.below) (Nat.le_refl _)); obtain ⟨v', w', hrun, ho2, hgb, hw⟩ := append_run p7 s9 (by have := hz7l.out; have := hT9.out; omega) hk.undrew.size; rw [run_append_op rfl rfl rfl hrun]; exact left_Qa rfl rfl (by decide) o7.2 hgb (by rw [← hz11.out]; exact ho2) hw trivial
        rintro ⟨v11, lo11, hi11⟩ - - -
        refine hK _ _ ?_; clear hK K
        refine stepK rfl (by kernel_rfl) (fun K hK => ?_); go_simp
        apply Exists.intro; apply And.intro; (focus (intro wk hk; go_simp; exact ⟨rfl, rfl⟩)); refine hK _ _ ?_; clear hK K
        refine stepN ?_
        refine hQ _ _ ?_
        intro w3 hT hG hF
        have hb3 := hT.undrew.below
        have o9 : OwnF 11 [7, 2, 0] wo.heap.size z11 _ w3 := hF 11 _ rfl rfl (by decide)
        have H := Lib.hid (show _ ∧ _ from ⟨(show Ob w3 wo.heap.size v11 z11 from o9.1).base hl.size, hl.trans (hb3.mono hl.size)⟩)
        clear hT hG hF hb3 hQ QQ L o9 hl hb
        go_wp2_with fail
        go_ret
        exact ⟨_, rfl, by rw [← hfin.out]; exact H.out.1, H.out.2⟩
end Go.Proofs.Ytpdenhmkpiafiaa
namespace Go.Proofs.Ytpdenhmkpiafiaa
open Go Go.RowKit K6
set_option maxRecDepth 100000 in
set_option maxHeartbeats 16000000 in
theorem rproof_at (u v : Value) (xs : List Int) (l : List (List Int)) (w : World) (hu : Bs w u xs) (hL : xs.length ≤ 4000000) (h : Hs w v l) (hh : ∀ x ∈ l, x.length = 32) (hm1 : l.length ≤ 1000) :
    Calls Try.prog 216 #[u, v] w fun e w' => ∃ x, e = .returned x ∧ Ob w' w.heap.size x (xs ++ prfB l) ∧ Below w.heap.size w w' := by
  have HC1 := Lib.hid (show _ ∧ _ from ⟨h, hh⟩)
  obtain ⟨q, c, rfl, -⟩ := h
  obtain ⟨m, hm⟩ : ∃ m, l.length = m := ⟨_, rfl⟩
  rw [hm] at HC1 hm1
  obtain ⟨P, hP⟩ : ∃ P, xs ++ enc m = P := ⟨_, rfl⟩
  have hPl1 := Lib.hid (show P.length ≤ 4100000 by rw [← hP, List.length_append]; have := enc_len9 (m := m) (by omega); omega)
  have hPe := Lib.hid (show P ++ l.flatMap (fun y : List Int => y) = xs ++ prfB l by unfold prfB; rw [← hP, hm, List.append_assoc])
  have kv := refvar_any u xs (m : Int) w hu (by omega) (by omega)
  rw [Int.toNat_natCast, hP] at kv
  replace kv := Lib.hid kv
  rw [hm]
  have HM1 := Lib.hid hm
  have hmi : (m : Int) ≤ 1000 := by omega
  obtain ⟨B, hB⟩ : ∃ B, w.heap.size = B := ⟨_, rfl⟩
  clear hu hL hP hh hm
  go_enter Try.func216, Try.ntmps216
  go_wp2_with fail
  refine kv.out.mono ?_
  rintro e w1 ⟨x1, rfl, ho, hb⟩
  rw [hB] at ho
  have H1 := Lib.hid (show _ ∧ _ from ⟨ho, hb⟩)
  clear kv ho hb
  go_wp2_with fail
  go_loopg [0, 13] m (fun gg s0 s13 wr => ∃ i : Nat, i + gg = m ∧ s13 = .int .i64 (i : Int) ∧ Hid (Ob wr B s0 (P ++ (l.take i).flatMap (fun y : List Int => y))) ∧ Hid (Below w.heap.size w wr))
  case atStart => exact ⟨0, by omega, rfl, Lib.hid (by rw [List.take_zero, List.flatMap_nil, List.append_nil]; exact H1.out.1), Lib.hid H1.out.2⟩
  case round =>
    clear H1
    obtain ⟨i1, him1, rfl, hob1, hinv1⟩ := hrel
    by_cases hi : i1 < m
    · obtain ⟨x, hx⟩ : ∃ x, l[i1]? = some x := ⟨_, List.getElem?_eq_getElem (by have := HM1.out; omega)⟩
      obtain ⟨gx, ox, cx', hu, hgx, hcx⟩ := (HC1.out.1.below hinv1.out).get hx
      simp only [Value.slice.injEq] at hu
      obtain ⟨rfl, -, -⟩ := hu
      have hxl := HC1.out.2 x (List.mem_of_getElem? hx)
      have hst := flat_step (fun y : List Int => y) hx P
      obtain ⟨Y0, hY0⟩ : ∃ Z, P ++ (l.take i1).flatMap (fun y : List Int => y) = Z := ⟨_, rfl⟩
      obtain ⟨Z1, hZ1⟩ : ∃ Z, P ++ (l.take (i1 + 1)).flatMap (fun y : List Int => y) = Z := ⟨_, rfl⟩
      have hy0 : Y0.length ≤ 5000000 := by
        rw [← hY0, List.length_append]
        have h1 := flat_le (f := (fun y : List Int => y)) (c := 32) (l := l.take i1) (fun y hy => Nat.le_of_eq (HC1.out.2 y (List.mem_of_mem_take hy)))
        rw [List.length_take] at h1
        have h2 := hPl1.out
        omega
      rw [hY0] at hob1 hst
      rw [hZ1] at hst
      have k4 := fun wx vx (h : Bs wx vx Y0) => refhash_put vx Y0 x wx h (by omega) hxl
      have hst2 := hst
      rw [hst2] at k4
      obtain ⟨Y, hY⟩ : ∃ Y, (bv x).toArray = Y := ⟨_, rfl⟩
      have hYsz := bv_arr hxl
      have hYone := bv_arr_one x
      replace hcx : ∀ j v, ((bv x).toArray).toList[j]? = some v → wr.cell? ⟨gx, ox + i1 * 32 + j, none⟩ = some v := hcx
      rw [hY] at k4 hYsz hYone hcx
      have hinf := info35 hYsz
      replace k4 := Lib.hid k4
      replace hZ1 := Lib.hid hZ1
      clear hx hY0 hst hst2 hy0 hxl hY
      have hlt : (i1 : Int) < (m : Int) := by omega
      have hBr : B ≤ wr.heap.size := by have := hinv1.out.size; omega
      go_upto_region 4 with (fail)
      let L : List Sp := [sA 2 35 [3] zr32, sT 3 2 35 [1] (fun g => aggOf g 1)]
      refine wp_region_six0 (shs L) (look6 L) (None_) (by kernel_rfl) (by kernel_rfl) (mk_St L [] [] (by kernel_rfl) (by kernel_rfl) ⟨ok_A, ok_T aggOf_congr, trivial⟩ (by simp)) ?_
      intro QQ hQ
      refine stepK rfl (by kernel_rfl) (fun K hK => ?_); go_simp
      apply Exists.intro; apply And.intro; (focus (intro wk hk; go_simp; exact ⟨rfl, rfl⟩)); refine hK _ _ ?_; clear hK K
      refine stepK rfl (by kernel_rfl) (fun K hK => ?_); go_simp
      apply Exists.intro; apply And.intro; (focus exact kLoadA rfl rfl aggR35 hcx hYsz hgx id); refine hK _ _ ?_; clear hK K
      refine stepS _ rfl (by kernel_rfl) (fun K hK => ?_); go_simp
      refine ⟨?_, ?_⟩
      · intro wk hk hg hu; go_simp; exact left_A rfl rfl
      rintro ⟨v2, lo2, hi2⟩ hlo2 hhi2 ⟨e2, f2⟩
      replace e2 : v2 = .pointer (some ⟨lo2, 0, none⟩) := e2; replace f2 : hi2 = lo2 + 1 := f2; replace hlo2 : _ ≤ lo2 := hlo2; subst e2; subst f2
      refine hK _ _ ?_; clear hK K
      refine stepS _ rfl (by kernel_rfl) (fun K hK => ?_); go_simp
      refine ⟨?_, ?_⟩
      · exact sStoreT rfl rfl rfl rfl rfl rfl rfl hinf hYsz.symm hYone (by decide) aggOf_congr
      rintro ⟨v3, lo3, hi3⟩ - - (rfl : v3 = undef)
      refine hK _ _ ?_; clear hK K
      refine stepN ?_
      refine hQ _ _ ?_
      intro w4 hT hG hF
      have hbw4 := hT.below
      have rY : Row w4 lo2 35 Y := (hF 3 _ rfl rfl (by decide)).2
      clear hT hG hF hQ QQ L hcx hgx
      have ob4 := hob1.out.below hbw4
      have hl4 := Lib.hid (hinv1.out.trans (hbw4.mono hinv1.out.size))
      have hs4 := hbw4.size
      have hB4 : B ≤ w4.heap.size := by omega
      clear hob1 hinv1 hbw4 hYone hinf hs4
      go_upto_region 5 with (fail)
      let L : List Sp := [sF 2 [] [] [] (fun _ => True) (fun x w => Ob w B x.v Z1)]
      refine wp_region_six0 (shs L) (look6 L) (None_) (by kernel_rfl) (by kernel_rfl) (mk_St L [] [] (by kernel_rfl) (by kernel_rfl) ⟨ok_F (any_some _) (fun _ _ _ h hb => Ob.below h hb), trivial⟩ (by simp)) ?_
      intro QQ hQ
      refine stepK rfl (by kernel_rfl) (fun K hK => ?_); go_simp
      apply Exists.intro; apply And.intro; (focus (intro wk hk; go_simp; exact ⟨rfl, rfl⟩)); refine hK _ _ ?_; clear hK K
      refine stepK rfl (by kernel_rfl) (fun K hK => ?_); go_simp
      apply Exists.intro; apply And.intro; (focus exact kLoad rfl rfl aggR35 rY hYsz id); refine hK _ _ ?_; clear hK K
      refine stepS _ rfl (by kernel_rfl) (fun K hK => ?_); go_simp
      refine ⟨?_, ?_⟩
      · intro wk hk hg hu; go_simp; refine upon_enter ((k4.out _ u0 (ob4.below hk.below).bs).mono ?_); rintro e w' ⟨v, rfl, hv, hb9⟩; exact ⟨_, rfl, left_F rfl rfl hb9 trivial (hv.base (by have := hk.size; omega))⟩
      rintro ⟨v2, lo2, hi2⟩ - - -
      refine hK _ _ ?_; clear hK K
      refine stepK rfl (by kernel_rfl) (fun K hK => ?_); go_simp
      apply Exists.intro; apply And.intro; (focus (intro wk hk; go_simp; exact ⟨rfl, rfl⟩)); refine hK _ _ ?_; clear hK K
      refine stepN ?_
      refine hQ _ _ ?_
      intro w5 hT hG hF
      have o5 : Ob w5 B v2 Z1 := hF 2 _ rfl rfl (by decide)
      have hb5 := hT.below
      have H5 := Lib.hid (show Ob w5 B v2 (P ++ (l.take (i1 + 1)).flatMap (fun y : List Int => y)) ∧ Below w.heap.size w w5 from ⟨by rw [hZ1.out]; exact o5, hl4.out.trans (hb5.mono hl4.out.size)⟩)
      clear hT hG hF hQ QQ L k4 ob4 rY o5 hb5 hl4 hYsz hZ1
      go_wp2_with fail
      go_roundg (gk - 1)
      case measure => omega
      case rel => exact ⟨i1 + 1, by omega, by go_num, Lib.hid H5.out.1, Lib.hid H5.out.2⟩
    · obtain rfl : i1 = m := by omega
      have hlt : ¬ (i1 : Int) < (i1 : Int) := by omega
      rw [List.take_of_length_le (by have := HM1.out; omega)] at hob1
      go_wp2_with fail
      go_ret
      exact ⟨_, rfl, by rw [← hPe.out]; exact hob1.out, by first | exact hinv1.out | (rw [hB]; exact hinv1.out) | (rw [← hB]; exact hinv1.out)⟩
end Go.Proofs.Ytpdenhmkpiafiaa
