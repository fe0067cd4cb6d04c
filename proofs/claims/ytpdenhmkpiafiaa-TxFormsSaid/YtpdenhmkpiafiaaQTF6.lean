/-
  What the statement rests on, part 7: TxGood2 TxGood3 EvSame.
-/
import Derived.Test.YtpdenhmkpiafiaaQTF1
import Derived.Test.YtpdenhmkpiafiaaQTF3
import Derived.Test.YtpdenhmkpiafiaaQTF4
namespace Go.Proofs.Ytpdenhmkpiafiaa
open Go Go.RowKit K6
theorem tA0 (t : Txv) : t.cs.toArray[0]? = some (.int .i64 t.k) := rfl
theorem tA1 (t : Txv) : t.cs.toArray[1]? = some (.int .i64 t.f) := rfl
theorem tA2 (t : Txv) : t.cs.toArray[2]? = some (.slice t.nq t.n.length t.nc) := rfl
theorem tA3 (t : Txv) : t.cs.toArray[3]? = some (.slice t.aq t.a.length t.ac) := rfl
theorem tA4 (t : Txv) : t.cs.toArray[4]? = some (.slice t.hq t.h.length t.hc) := rfl
set_option maxRecDepth 100000 in
set_option maxHeartbeats 16000000 in
theorem counts_at (s : Shp) (t : Txv) (w : World) (hs : 0 ≤ s.n ∧ s.n ≤ 3) (hn : t.n.length ≤ 140737488355328) (ha : t.a.length ≤ 140737488355328) (hh : t.h.length ≤ 140737488355328) :
    Calls Try.prog 208 #[.agg s.cs, .agg t.cs.toArray] w fun r w' => r = .returned (.bool (cntB s t.n.length t.a.length t.h.length)) ∧ Below w.heap.size w w' := by
  obtain ⟨sn, st, sa, se, sh, sc⟩ := s
  obtain ⟨nN, hnN⟩ : ∃ n, t.n.length = n := ⟨_, rfl⟩
  obtain ⟨nA, hnA⟩ : ∃ n, t.a.length = n := ⟨_, rfl⟩
  obtain ⟨nH, hnH⟩ : ∃ n, t.h.length = n := ⟨_, rfl⟩
  have x2 := tA2 t
  have x3 := tA3 t
  have x4 := tA4 t
  rw [hnN] at x2 hn
  rw [hnA] at x3 ha
  rw [hnH] at x4 hh
  rw [hnN, hnA, hnH]
  simp only at hs
  obtain ⟨T, hT⟩ : ∃ T, (nN : Int) - sn = T := ⟨_, rfl⟩
  have wT : IntKind.i64.wrap ((nN : Int) - sn) = T := by rw [IntKind.wrap_i64]; omega
  obtain ⟨am, ham⟩ : ∃ x, (if se = true then T else sa) = x := ⟨_, rfl⟩
  obtain ⟨b1, hb1⟩ : ∃ b, (if st = true then decide (1 ≤ T ∧ T ≤ 8) else decide (T = 0)) = b := ⟨_, rfl⟩
  obtain ⟨b2, hb2⟩ : ∃ b, decide ((nA : Int) = am) = b := ⟨_, rfl⟩
  obtain ⟨b3, hb3⟩ : ∃ b, decide ((nH : Int) = sh) = b := ⟨_, rfl⟩
  have hB : cntB ⟨sn, st, sa, se, sh, sc⟩ nN nA nH = (b1 && (b2 && b3)) := by
    unfold cntB
    simp only [hT]
    rw [hb1, ham, hb2, hb3]
  rw [hB]
  have kw := Lib.hid fun wx => within_at T 1 8 wx
  have X := Lib.hid (show _ ∧ _ ∧ _ from ⟨x2, x3, x4⟩)
  have HH := Lib.hid (show _ ∧ _ ∧ _ from ⟨hb1, hb2, hb3⟩)
  have q2 : ((nA : Int) == am) = b2 := by rw [← hb2]; rfl
  have q3 : ((nH : Int) == sh) = b3 := by rw [← hb3]; rfl
  obtain ⟨cs, hcs⟩ : ∃ c, t.cs.toArray = c := ⟨_, rfl⟩
  rw [hcs] at X ⊢
  have hNi : (nN : Int) ≤ 140737488355328 := by omega
  have hAi : (nA : Int) ≤ 140737488355328 := by omega
  have hHi : (nH : Int) ≤ 140737488355328 := by omega
  unfold Shp.cs
  clear hnN hnA hnH x2 x3 x4 hB hb1 hb2 hb3 hs hT hcs hn ha hh
  go_enter Try.func208, Try.ntmps208
  go_upto_region 1 with (fail)
  refine wp_abs (Mem w [(w.heap.size, 107, #[.int .i64 sn, .bool st, .int .i64 sa, .bool se, .int .i64 sh, .bool sc]), (w.heap.size + 1, 116, cs)]) ⟨by go_grown, by (repeat (first | (refine Row.new_at ?_; simp; done) | refine Row.alloc ?_ _)), by (repeat (first | (refine Row.new_at ?_; simp; done) | refine Row.alloc ?_ _)), trivial⟩ ?_
  intro w0 hM
  obtain ⟨hl, r2, r3, -⟩ := hM
  cases st <;> cases se
  · -- tail false, each false
    obtain rfl : sa = am := by simpa using ham
    clear ham
    have q1 : (T == 0) = b1 := by have h := HH.out.1; rw [if_neg (by simp)] at h; rw [← h]; rfl
    have d2 := (r3.cell 2).trans X.out.1
    have d3 := (r3.cell 3).trans X.out.2.1
    have d4 := (r3.cell 4).trans X.out.2.2
    have e0 := r2.cell 0
    have e1 := r2.cell 1
    have e2 := r2.cell 2
    have e3 := r2.cell 3
    have e4 := r2.cell 4
    have HL := Lib.hid hl
    clear hl r2 r3 X HH kw
    cases b1
    · go_wp2_with fail
      go_ret
      exact ⟨rfl, HL.out⟩
    cases b2
    · go_wp2_with fail
      go_ret
      exact ⟨rfl, HL.out⟩
    · go_wp2_with fail
      go_ret
      exact ⟨rfl, HL.out⟩
  · -- tail false, each true
    obtain rfl : T = am := by simpa using ham
    clear ham
    have q1 : (T == 0) = b1 := by have h := HH.out.1; rw [if_neg (by simp)] at h; rw [← h]; rfl
    have d2 := (r3.cell 2).trans X.out.1
    have d3 := (r3.cell 3).trans X.out.2.1
    have d4 := (r3.cell 4).trans X.out.2.2
    have e0 := r2.cell 0
    have e1 := r2.cell 1
    have e2 := r2.cell 2
    have e3 := r2.cell 3
    have e4 := r2.cell 4
    have HL := Lib.hid hl
    clear hl r2 r3 X HH kw
    cases b1
    · go_wp2_with fail
      go_ret
      exact ⟨rfl, HL.out⟩
    cases b2
    · go_wp2_with fail
      go_ret
      exact ⟨rfl, HL.out⟩
    · go_wp2_with fail
      go_ret
      exact ⟨rfl, HL.out⟩
  · -- tail true, each false
    obtain rfl : sa = am := by simpa using ham
    clear ham
    have HL := Lib.hid (show _ ∧ _ ∧ _ from ⟨hl, r2, r3⟩)
    have h1 := Lib.hid (show decide (1 ≤ T ∧ T ≤ 8) = b1 by have h := HH.out.1; rwa [if_pos rfl] at h)
    rw [h1.out] at kw
    have d2 := (r3.cell 2).trans X.out.1
    have e0 := r2.cell 0
    have e1 := r2.cell 1
    have e2 := r2.cell 2
    have e3 := r2.cell 3
    clear hl r2 r3 HH
    go_wp2_with fail
    refine (kw.out _).mono ?_
    rintro e w1 ⟨rfl, hb⟩
    have r2 := HL.out.2.1.below hb HL.out.2.1.lt
    have r3 := HL.out.2.2.below hb HL.out.2.2.lt
    have H1 := Lib.hid (HL.out.1.trans (hb.mono HL.out.1.size))
    clear kw hb HL d2 e0 e1 e2 e3 h1
    have d3 := (r3.cell 3).trans X.out.2.1
    have d4 := (r3.cell 4).trans X.out.2.2
    have e4 := r2.cell 4
    clear r2 r3 X
    cases b1
    · go_wp2_with fail
      go_ret
      exact ⟨rfl, H1.out⟩
    cases b2
    · go_wp2_with fail
      go_ret
      exact ⟨rfl, H1.out⟩
    · go_wp2_with fail
      go_ret
      exact ⟨rfl, H1.out⟩
  · -- tail true, each true
    obtain rfl : T = am := by simpa using ham
    clear ham
    have HL := Lib.hid (show _ ∧ _ ∧ _ from ⟨hl, r2, r3⟩)
    have h1 := Lib.hid (show decide (1 ≤ T ∧ T ≤ 8) = b1 by have h := HH.out.1; rwa [if_pos rfl] at h)
    rw [h1.out] at kw
    have d2 := (r3.cell 2).trans X.out.1
    have e0 := r2.cell 0
    have e1 := r2.cell 1
    have e2 := r2.cell 2
    have e3 := r2.cell 3
    clear hl r2 r3 HH
    go_wp2_with fail
    refine (kw.out _).mono ?_
    rintro e w1 ⟨rfl, hb⟩
    have r2 := HL.out.2.1.below hb HL.out.2.1.lt
    have r3 := HL.out.2.2.below hb HL.out.2.2.lt
    have H1 := Lib.hid (HL.out.1.trans (hb.mono HL.out.1.size))
    clear kw hb HL d2 e0 e1 e2 e3 h1
    have d3 := (r3.cell 3).trans X.out.2.1
    have d4 := (r3.cell 4).trans X.out.2.2
    have e4 := r2.cell 4
    clear r2 r3 X
    cases b1
    · go_wp2_with fail
      go_ret
      exact ⟨rfl, H1.out⟩
    cases b2
    · go_wp2_with fail
      go_ret
      exact ⟨rfl, H1.out⟩
    · go_wp2_with fail
      go_ret
      exact ⟨rfl, H1.out⟩
set_option maxRecDepth 100000 in
set_option maxHeartbeats 16000000 in
theorem goodClaim_at (c : Cm) (w : World) (hc : CmOk w c) (hp : c.p.length ≤ 1000) (hlE : c.l.length ≤ 1000) (hlP : ∀ e ∈ c.l, e.p.length ≤ 1000) :
    Calls Try.prog 211 #[.agg c.cs.toArray] w fun r w' => r = .returned (.bool (goodCK c.key)) ∧ Below w.heap.size w w' := by
  have k0 := Lib.hid fun wx => within_at c.r 0 4294967295 wx
  have k1 := Lib.hid fun wx => within_at c.x 0 4294967295 wx
  have k2 := Lib.hid fun wx => within_at c.e 1 4294967295 wx
  have k3 := Lib.hid fun wx => within_at c.z 1 4294967295 wx
  have kL := fun wx (hbw : Below w.heap.size w wx) => goodL_cont c.lv c.l wx (hc.l.below hbw) (fun x hx => by have := hlP x hx; omega) hlE
  have hok : goodCK c.key = ((decide (0 ≤ c.r ∧ c.r ≤ 4294967295) && (decide (0 ≤ c.x ∧ c.x ≤ 4294967295) && (decide (1 ≤ c.e ∧ c.e ≤ 4294967295) && decide (1 ≤ c.z ∧ c.z ≤ 4294967295)))) && (decide (c.p.length ≤ 10) && (decide (1 ≤ (c.l.length : Int) ∧ (c.l.length : Int) ≤ 8) && c.l.all okLf))) := by
    rw [all_key]
    unfold goodCK headB Cm.key
    simp only [List.length_map]
  obtain ⟨b0, hb0⟩ : ∃ b, decide (0 ≤ c.r ∧ c.r ≤ 4294967295) = b := ⟨_, rfl⟩
  obtain ⟨b1, hb1⟩ : ∃ b, decide (0 ≤ c.x ∧ c.x ≤ 4294967295) = b := ⟨_, rfl⟩
  obtain ⟨b2, hb2⟩ : ∃ b, decide (1 ≤ c.e ∧ c.e ≤ 4294967295) = b := ⟨_, rfl⟩
  obtain ⟨b3, hb3⟩ : ∃ b, decide (1 ≤ c.z ∧ c.z ≤ 4294967295) = b := ⟨_, rfl⟩
  obtain ⟨b6, hb6⟩ : ∃ b, c.l.all okLf = b := ⟨_, rfl⟩
  rw [hb0] at k0
  rw [hb1] at k1
  rw [hb2] at k2
  rw [hb3] at k3
  rw [hb6] at kL
  rw [hb0, hb1, hb2, hb3, hb6] at hok
  have x0 := cA0 c
  have x1 := cA1 c
  have x2 := cA2 c
  have x4 := cA35 hc.tok
  have x5 := cA36 hc.tok
  have x6 := cA37 hc.tok
  unfold Cm.lv at kL
  obtain ⟨np, hnp⟩ : ∃ n, c.p.length = n := ⟨_, rfl⟩
  obtain ⟨nl, hnl⟩ : ∃ n, c.l.length = n := ⟨_, rfl⟩
  obtain ⟨lq, hlq⟩ : ∃ n, c.lq = n := ⟨_, rfl⟩
  obtain ⟨lc, hlc⟩ : ∃ n, c.lc = n := ⟨_, rfl⟩
  obtain ⟨pq, hpq⟩ : ∃ n, c.pq = n := ⟨_, rfl⟩
  obtain ⟨pc, hpc⟩ : ∃ n, c.pc = n := ⟨_, rfl⟩
  rw [hnp] at hp hok
  rw [hnl] at hlE hok
  rw [hnp, hpq, hpc] at x4
  rw [hnl, hlq, hlc] at x5
  rw [hnl, hlq, hlc] at kL
  have k5 := Lib.hid fun wx => within_at (nl : Int) 1 8 wx
  obtain ⟨b5, hb5⟩ : ∃ b, decide (1 ≤ (nl : Int) ∧ (nl : Int) ≤ 8) = b := ⟨_, rfl⟩
  rw [hb5] at k5 hok
  replace kL := Lib.hid kL
  rw [hok]
  obtain ⟨cs, hcs⟩ : ∃ x, c.cs.toArray = x := ⟨_, rfl⟩
  rw [hcs] at x0 x1 x2 x4 x5 x6 ⊢
  have X := Lib.hid (show _ ∧ _ ∧ _ ∧ _ ∧ _ ∧ _ from ⟨x0, x1, x2, x4, x5, x6⟩)
  obtain ⟨cr, hcr⟩ : ∃ x, c.r = x := ⟨_, rfl⟩
  obtain ⟨cx, hcx⟩ : ∃ x, c.x = x := ⟨_, rfl⟩
  obtain ⟨ce, hce⟩ : ∃ x, c.e = x := ⟨_, rfl⟩
  obtain ⟨cz, hcz⟩ : ∃ x, c.z = x := ⟨_, rfl⟩
  rw [hcr] at k0 X
  rw [hcx] at k1 X
  rw [hce] at k2 X
  rw [hcz] at k3 X
  have hcase : ((np : Int) ≤ 10 ∧ decide (np ≤ 10) = true) ∨ (10 < (np : Int) ∧ decide (np ≤ 10) = false) := by
    by_cases h : np ≤ 10
    · exact .inl ⟨by omega, decide_eq_true h⟩
    · exact .inr ⟨by omega, decide_eq_false h⟩
  have hni : (np : Int) ≤ 1000 := by omega
  have hli : (nl : Int) ≤ 1000 := by omega
  clear hok hb0 hb1 hb2 hb3 hb5 hb6 x0 x1 x2 x4 x5 x6 hnp hnl hlq hlc hpq hpc hcs hcr hcx hce hcz hc hlP hp hlE
  go_enter Try.func211, Try.ntmps211
  go_upto_region 1 with (fail)
  refine wp_abs (Mem w [(w.heap.size, 114, cs)]) ⟨by go_grown, by (repeat (first | (refine Row.new_at ?_; simp; done) | refine Row.alloc ?_ _)), trivial⟩ ?_
  intro w0 hM
  obtain ⟨hl, r1, -⟩ := hM
  have HL := Lib.hid (show _ ∧ _ from ⟨hl, r1⟩)
  have d0 := (r1.cell 0).trans X.out.1
  clear hl r1
  go_wp2_with fail
  refine (k0.out _).mono ?_
  rintro e w1 ⟨rfl, hb⟩
  have H1 := Lib.hid (show _ ∧ _ from ⟨HL.out.1.trans (hb.mono HL.out.1.size), HL.out.2.below hb HL.out.2.lt⟩)
  clear k0 hb HL d0
  cases b0
  · clear k1 k2 k3 k5 kL hcase
    go_wp2_with fail
    go_ret
    exact ⟨rfl, H1.out.1⟩
  have d1 := (H1.out.2.cell 1).trans X.out.2.1
  go_wp2_with fail
  refine (k1.out _).mono ?_
  rintro e w2 ⟨rfl, hb⟩
  have H2 := Lib.hid (show _ ∧ _ from ⟨H1.out.1.trans (hb.mono H1.out.1.size), H1.out.2.below hb H1.out.2.lt⟩)
  clear k1 hb H1 d1
  cases b1
  · clear k2 k3 k5 kL hcase
    go_wp2_with fail
    go_ret
    exact ⟨rfl, H2.out.1⟩
  have d2 := (H2.out.2.cell 2).trans X.out.2.2.1
  go_wp2_with fail
  refine (k2.out _).mono ?_
  rintro e w3 ⟨rfl, hb⟩
  have H3 := Lib.hid (show _ ∧ _ from ⟨H2.out.1.trans (hb.mono H2.out.1.size), H2.out.2.below hb H2.out.2.lt⟩)
  clear k2 hb H2 d2
  cases b2
  · clear k3 k5 kL hcase
    go_wp2_with fail
    go_ret
    exact ⟨rfl, H3.out.1⟩
  have d6 := (H3.out.2.cell 37).trans X.out.2.2.2.2.2
  go_wp2_with fail
  refine (k3.out _).mono ?_
  rintro e w4 ⟨rfl, hb⟩
  have H4 := Lib.hid (show _ ∧ _ from ⟨H3.out.1.trans (hb.mono H3.out.1.size), H3.out.2.below hb H3.out.2.lt⟩)
  clear k3 hb H3 d6
  cases b3
  · clear k5 kL hcase
    go_wp2_with fail
    go_ret
    exact ⟨rfl, H4.out.1⟩
  have d4 := (H4.out.2.cell 35).trans X.out.2.2.2.1
  rcases hcase with ⟨h10, hd⟩ | ⟨h10, hd⟩
  case inr =>
    have HD := Lib.hid hd
    clear hd k5 kL
    go_wp2_with fail
    go_ret
    exact ⟨by rw [HD.out]; rfl, H4.out.1⟩
  have HD := Lib.hid hd
  clear hd
  have d5 := (H4.out.2.cell 36).trans X.out.2.2.2.2.1
  go_wp2_with fail
  refine (k5.out _).mono ?_
  rintro e w5 ⟨rfl, hb⟩
  have H5 := Lib.hid (show _ ∧ _ from ⟨H4.out.1.trans (hb.mono H4.out.1.size), H4.out.2.below hb H4.out.2.lt⟩)
  clear k5 hb H4 d4 d5
  cases b5
  · clear kL
    go_wp2_with fail
    go_ret
    exact ⟨by rw [HD.out]; rfl, H5.out.1⟩
  have d5 := (H5.out.2.cell 36).trans X.out.2.2.2.2.1
  go_wp2_with fail
  refine (kL.out _ H5.out.1).mono ?_
  rintro e w6 ⟨rfl, hb⟩
  have H6 := Lib.hid (H5.out.1.trans (hb.mono H5.out.1.size))
  clear kL hb H5 d5
  go_wp2_with fail
  go_ret
  exact ⟨by rw [HD.out]; cases b6 <;> rfl, H6.out⟩
end Go.Proofs.Ytpdenhmkpiafiaa
namespace Go.Proofs.Ytpdenhmkpiafiaa
open Go Go.RowKit K6
structure LightT (t : Txv) : Prop where
  n : t.n.length ≤ 50
  a : t.a.length ≤ 50
  h : t.h.length ≤ 50
  p : t.c.p.length ≤ 50
  l : t.c.l.length ≤ 50
  q : ∀ x ∈ t.c.l, x.p.length ≤ 50
def numJ (sn : Int) (l : List Int) (i : Nat) : Prop := (0 ≤ l.getD i 0 ∧ l.getD i 0 ≤ 1099511627776) ∧ (sn < (i : Int) → l.getD (i - 1) 0 < l.getD i 0)
theorem nums_no {sn : Int} {l : List Int} {i : Nat} (hi : i < l.length) (h : ¬ numJ sn l i) : numsB sn l = false := decide_eq_false fun hk => h (hk i hi)
theorem nums_yes {sn : Int} {l : List Int} (h : ∀ i, i < l.length → numJ sn l i) : numsB sn l = true := decide_eq_true h
theorem get_D {l : List Int} {i : Nat} {x : Int} (h : l[i]? = some x) : l.getD i 0 = x := by rw [List.getD_eq_getElem?_getD, h]; rfl
set_option maxRecDepth 100000 in
set_option maxHeartbeats 64000000 in
theorem good_at (t : Txv) (w : World) (ht : TxOk w t) (hl : LightT t) :
    Calls Try.prog 136 #[.agg t.cs.toArray] w fun r w' => r = .returned (.bool (goodK t.key)) ∧ Below w.heap.size w w' := by
  have hsn := shp_n t.k
  have kO := fun wx => txof_any t.k wx
  have kf := Lib.hid fun wx => within_at t.f 1 4294967295 wx
  have kc := fun wx => counts_at (shpOf t.k) t wx hsn (by have := hl.n; omega) (by have := hl.a; omega) (by have := hl.h; omega)
  have kA := fun wx (hb : Below w.heap.size w wx) => goodA_cont t.av t.a wx (ht.a.below hb) ht.ab (by have := hl.a; omega)
  have kG := fun wx (hb : Below w.heap.size w wx) => goodClaim_at t.c wx (ht.c.below hb) (by have := hl.p; omega) (by have := hl.l; omega) (fun e he => by have := hl.q e he; omega)
  have kS := fun wx (hb : Below w.heap.size w wx) => sameClaim_at t.c cm0 wx (ht.c.below hb) (cm0_ok wx) (by have := hl.p; omega) (by have := hl.l; omega) (fun e he => by have := hl.q e he; omega)
  have hok : goodK t.key = (okK t.k && (decide (1 ≤ t.f ∧ t.f ≤ 4294967295) && (cntB (shpOf t.k) t.n.length t.a.length t.h.length && (numsB (shpOf t.k).n t.n && (t.a.all okA && (if (shpOf t.k).c = true then goodCK t.c.key else decide (t.c.key = cm0.key))))))) := rfl
  obtain ⟨S, hS⟩ : ∃ S, shpOf t.k = S := ⟨_, rfl⟩
  unfold OfP at kO
  rw [hS] at kO kc hok hsn
  obtain ⟨sn, st, sa, se, sh, sc⟩ := S
  simp only [Shp.cs] at kO kc hok hsn
  obtain ⟨b0, hb0⟩ : ∃ b, okK t.k = b := ⟨_, rfl⟩
  obtain ⟨b1, hb1⟩ : ∃ b, decide (1 ≤ t.f ∧ t.f ≤ 4294967295) = b := ⟨_, rfl⟩
  obtain ⟨b2, hb2⟩ : ∃ b, cntB ⟨sn, st, sa, se, sh, sc⟩ t.n.length t.a.length t.h.length = b := ⟨_, rfl⟩
  obtain ⟨b3, hb3⟩ : ∃ b, numsB sn t.n = b := ⟨_, rfl⟩
  obtain ⟨b4, hb4⟩ : ∃ b, t.a.all okA = b := ⟨_, rfl⟩
  obtain ⟨b5, hb5⟩ : ∃ b, goodCK t.c.key = b := ⟨_, rfl⟩
  obtain ⟨b6, hb6⟩ : ∃ b, decide (t.c.key = cm0.key) = b := ⟨_, rfl⟩
  rw [hb0] at kO
  rw [hb1] at kf
  rw [hb2] at kc
  rw [hb4] at kA
  rw [hb5] at kG
  rw [hb6] at kS
  rw [hb0, hb1, hb2, hb3, hb4, hb5, hb6] at hok
  obtain ⟨bx, hbx⟩ : ∃ b, (if sc = true then b5 else b6) = b := ⟨_, rfl⟩
  rw [hbx] at hok
  replace hbx := Lib.hid hbx
  rw [hok]
  have x0 := tA0 t
  have x1 := tA1 t
  have x2 := tA2 t
  have x3 := tA3 t
  have hsz : t.cs.toArray.size = 43 := by rw [List.size_toArray]; exact Txv.len ht.c.tok
  have hcsz : t.c.cs.toArray.size = 38 := by rw [List.size_toArray]; exact Cm.len ht.c.tok
  have hmid := Txv.c_ t
  have HN := ht.n
  unfold Txv.nv at HN
  unfold Txv.av at kA
  obtain ⟨m, hm⟩ : ∃ m, t.n.length = m := ⟨_, rfl⟩
  obtain ⟨nA, hnA⟩ : ∃ m, t.a.length = m := ⟨_, rfl⟩
  obtain ⟨nq, hnq⟩ : ∃ q, t.nq = q := ⟨_, rfl⟩
  obtain ⟨nc, hnc⟩ : ∃ q, t.nc = q := ⟨_, rfl⟩
  obtain ⟨aq, haq⟩ : ∃ q, t.aq = q := ⟨_, rfl⟩
  obtain ⟨ac, hac⟩ : ∃ q, t.ac = q := ⟨_, rfl⟩
  have hm50 : m ≤ 50 := by have := hl.n; omega
  rw [hm, hnq, hnc] at x2 HN
  rw [hnA, haq, hac] at x3 kA
  obtain ⟨ct, hct⟩ : ∃ c, t.cs.toArray = c := ⟨_, rfl⟩
  obtain ⟨cc5, hcc⟩ : ∃ c, t.c.cs.toArray = c := ⟨_, rfl⟩
  rw [hct] at x0 x1 x2 x3 hsz hmid kc ⊢
  rw [hcc] at hcsz hmid kG kS
  obtain ⟨tk, htk⟩ : ∃ k, t.k = k := ⟨_, rfl⟩
  obtain ⟨tf, htf⟩ : ∃ k, t.f = k := ⟨_, rfl⟩
  rw [htk] at x0 kO
  rw [htf] at x1 kf
  obtain ⟨ln, hln⟩ : ∃ l, t.n = l := ⟨_, rfl⟩
  rw [hln] at HN hm hb3
  replace HN := Lib.hid (show _ ∧ _ ∧ _ ∧ _ from ⟨HN, hm, hb3, hsn⟩)
  replace kO := Lib.hid kO
  replace kc := Lib.hid kc
  replace kA := Lib.hid kA
  replace kG := Lib.hid kG
  replace kS := Lib.hid kS
  have hmi : (m : Int) ≤ 50 := by omega
  clear hS hok hb0 hb1 hb2 hb3 hb4 hb5 hb6 hm hnA hnq hnc haq hac hct hcc htk htf hln ht hl hm50 hsn
  go_enter Try.func136, Try.ntmps136
  go_upto_region 1 with (fail)
  refine wp_abs (Mem w [(w.heap.size, 116, ct)]) ⟨by go_grown, by (repeat (first | (refine Row.new_at ?_; simp; done) | refine Row.alloc ?_ _)), trivial⟩ ?_
  intro w0 hM
  obtain ⟨hl, r1, -⟩ := hM
  let L : List Sp := [sV 2 [] [] (fun u => u = .tuple #[.agg #[.int .i64 sn, .bool st, .int .i64 sa, .bool se, .int .i64 sh, .bool sc], .bool b0]), sA 6 107 [7] #[.int .i64 0, .bool false, .int .i64 0, .bool false, .int .i64 0, .bool false], sT 7 6 107 [4] (fun g => aggOf g 4)]
  refine wp_region_six0 (shs L) (look6 L) (None_) (by kernel_rfl) (by kernel_rfl) (mk_St L [] [] (by kernel_rfl) (by kernel_rfl) ⟨ok_V ⟨_, rfl⟩, ok_A, ok_T aggOf_congr, trivial⟩ (by simp)) ?_
  intro QQ hQ
  refine stepK rfl (by kernel_rfl) (fun K hK => ?_); go_simp
  apply Exists.intro; apply And.intro; (focus (intro wk hk; go_simp; exact ⟨rfl, rfl⟩)); refine hK _ _ ?_; clear hK K
  refine stepK rfl (by kernel_rfl) (fun K hK => ?_); go_simp
  apply Exists.intro; apply And.intro; (focus (intro wk hk; have cc : wk.cell? ⟨w.heap.size, 0, none⟩ = some (.int .i64 tk) := ((K6.Row.tr r1 hk id).cell 0).trans x0; go_simp; exact ⟨rfl, rfl⟩)); refine hK _ _ ?_; clear hK K
  refine stepS _ rfl (by kernel_rfl) (fun K hK => ?_); go_simp
  refine ⟨?_, ?_⟩
  · intro wk hk hg hu; go_simp; refine upon_enter ((kO.out _).mono ?_); rintro e w' ⟨rfl, hb⟩; exact ⟨_, rfl, left_V (p := fun u => u = .tuple #[.agg #[.int .i64 sn, .bool st, .int .i64 sa, .bool se, .int .i64 sh, .bool sc], .bool b0]) rfl (hb) rfl⟩
  rintro ⟨v2, lo2, hi2⟩ - - (rfl : v2 = _)
  refine hK _ _ ?_; clear hK K
  refine stepK rfl (by kernel_rfl) (fun K hK => ?_); go_simp
  apply Exists.intro; apply And.intro; (focus (intro wk hk; go_simp; exact ⟨rfl, rfl⟩)); refine hK _ _ ?_; clear hK K
  refine stepK rfl (by kernel_rfl) (fun K hK => ?_); go_simp
  apply Exists.intro; apply And.intro; (focus (intro wk hk; go_simp; exact ⟨rfl, rfl⟩)); refine hK _ _ ?_; clear hK K
  refine stepK rfl (by kernel_rfl) (fun K hK => ?_); go_simp
  apply Exists.intro; apply And.intro; (focus (intro wk hk; go_simp; exact ⟨rfl, rfl⟩)); refine hK _ _ ?_; clear hK K
  refine stepS _ rfl (by kernel_rfl) (fun K hK => ?_); go_simp
  refine ⟨?_, ?_⟩
  · intro wk hk hg hu; go_simp; exact left_A rfl rfl
  rintro ⟨v6, lo6, hi6⟩ hlo6 hhi6 ⟨e6, f6⟩
  replace e6 : v6 = .pointer (some ⟨lo6, 0, none⟩) := e6; replace f6 : hi6 = lo6 + 1 := f6; replace hlo6 : _ ≤ lo6 := hlo6; subst e6; subst f6
  refine hK _ _ ?_; clear hK K
  refine stepS _ rfl (by kernel_rfl) (fun K hK => ?_); go_simp
  refine ⟨?_, ?_⟩
  · exact sStoreT rfl rfl rfl rfl rfl rfl rfl (by kernel_rfl) rfl (by kernel_rfl) (by decide) aggOf_congr
  rintro ⟨v7, lo7, hi7⟩ - - (rfl : v7 = undef)
  refine hK _ _ ?_; clear hK K
  refine stepK rfl (by kernel_rfl) (fun K hK => ?_); go_simp
  apply Exists.intro; apply And.intro; (focus (intro wk hk; go_simp; exact ⟨rfl, rfl⟩)); refine hK _ _ ?_; clear hK K
  refine stepN ?_
  refine hQ _ _ ?_
  intro w1 hT hG hF
  have hb1 := hT.below
  have r3 : Row w1 lo6 107 (#[.int .i64 sn, .bool st, .int .i64 sa, .bool se, .int .i64 sh, .bool sc]) := (hF 7 _ rfl rfl (by decide)).2
  have hlt6 := r3.lt
  have hl := hl.trans (hb1.mono hl.size)
  have r1 := r1.below hb1 r1.lt
  clear hT hG hF hQ QQ L hb1 kO
  go_upto_region 2 with (fail)
  cases b0
  · clear kf kc kA kG kS HN
    let L : List Sp := []
    refine wp_region_six0 (shs L) (look6 L) (None_) (by kernel_rfl) (by kernel_rfl) (mk_St L [] [] (by kernel_rfl) (by kernel_rfl) trivial (by simp)) ?_
    intro QQ hQ
    refine stepK rfl (by kernel_rfl) (fun K hK => ?_); go_simp
    apply Exists.intro; apply And.intro; (focus (intro wk hk; go_simp; exact ⟨rfl, rfl⟩)); refine hK _ _ ?_; clear hK K
    refine stepK rfl (by kernel_rfl) (fun K hK => ?_); go_simp
    apply Exists.intro; apply And.intro; (focus (intro wk hk; go_simp; exact ⟨rfl, rfl⟩)); refine hK _ _ ?_; clear hK K
    refine stepK rfl (by kernel_rfl) (fun K hK => ?_); go_simp
    apply Exists.intro; apply And.intro; (focus (intro wk hk; go_simp; exact ⟨rfl, rfl⟩)); refine hK _ _ ?_; clear hK K
    refine stepK rfl (by kernel_rfl) (fun K hK => ?_); go_simp
    first | (refine hK _ _ ?_; clear hK K) | (apply Exists.intro; apply And.intro; (focus (intro wk hk; go_simp; exact ⟨rfl, rfl⟩)); refine hK _ _ ?_; clear hK K)
    refine stepK rfl (by kernel_rfl) (fun K hK => ?_); go_simp
    first | (refine hK _ _ ?_; clear hK K) | (apply Exists.intro; apply And.intro; (focus (intro wk hk; go_simp; exact ⟨rfl, rfl⟩)); refine hK _ _ ?_; clear hK K)
    refine stepK rfl (by kernel_rfl) (fun K hK => ?_); go_simp
    first | (refine hK _ _ ?_; clear hK K) | (apply Exists.intro; apply And.intro; (focus (intro wk hk; go_simp; exact ⟨rfl, rfl⟩)); refine hK _ _ ?_; clear hK K)
    refine stepK rfl (by kernel_rfl) (fun K hK => ?_); go_simp
    first | (refine hK _ _ ?_; clear hK K) | (apply Exists.intro; apply And.intro; (focus (intro wk hk; go_simp; exact ⟨rfl, rfl⟩)); refine hK _ _ ?_; clear hK K)
    refine stepK rfl (by kernel_rfl) (fun K hK => ?_); go_simp
    apply Exists.intro; apply And.intro; (focus (intro wk hk; go_simp; exact ⟨rfl, rfl⟩)); refine hK _ _ ?_; clear hK K
    refine stepK rfl (by kernel_rfl) (fun K hK => ?_); go_simp
    apply Exists.intro; apply And.intro; (focus (intro wk hk; go_simp; exact ⟨rfl, rfl⟩)); refine hK _ _ ?_; clear hK K
    refine stepK rfl (by kernel_rfl) (fun K hK => ?_); go_simp
    first | (refine hK _ _ ?_; clear hK K) | (apply Exists.intro; apply And.intro; (focus (intro wk hk; go_simp; exact ⟨rfl, rfl⟩)); refine hK _ _ ?_; clear hK K)
    refine stepK rfl (by kernel_rfl) (fun K hK => ?_); go_simp
    first | (refine hK _ _ ?_; clear hK K) | (apply Exists.intro; apply And.intro; (focus (intro wk hk; go_simp; exact ⟨rfl, rfl⟩)); refine hK _ _ ?_; clear hK K)
    refine stepK rfl (by kernel_rfl) (fun K hK => ?_); go_simp
    first | (refine hK _ _ ?_; clear hK K) | (apply Exists.intro; apply And.intro; (focus (intro wk hk; go_simp; exact ⟨rfl, rfl⟩)); refine hK _ _ ?_; clear hK K)
    refine stepK rfl (by kernel_rfl) (fun K hK => ?_); go_simp
    first | (refine hK _ _ ?_; clear hK K) | (apply Exists.intro; apply And.intro; (focus (intro wk hk; go_simp; exact ⟨rfl, rfl⟩)); refine hK _ _ ?_; clear hK K)
    refine stepK rfl (by kernel_rfl) (fun K hK => ?_); go_simp
    apply Exists.intro; apply And.intro; (focus (intro wk hk; go_simp; exact ⟨rfl, rfl⟩)); refine hK _ _ ?_; clear hK K
    refine stepN ?_
    refine hQ _ _ ?_
    intro w2 hT hG hF
    have hb2 := hT.below
    have H9 := Lib.hid (hl.trans (hb2.mono hl.size))
    clear hT hG hF hQ QQ L hl r1 r3 hb2
    go_wp2_with fail
    go_ret
    exact ⟨rfl, H9.out⟩
  cases b1
  · clear kc kA kG kS HN
    let L : List Sp := [sV 5 [] [] (fun u => u = .bool false)]
    refine wp_region_six0 (shs L) (look6 L) (None_) (by kernel_rfl) (by kernel_rfl) (mk_St L [] [] (by kernel_rfl) (by kernel_rfl) ⟨ok_V ⟨_, rfl⟩, trivial⟩ (by simp)) ?_
    intro QQ hQ
    refine stepK rfl (by kernel_rfl) (fun K hK => ?_); go_simp
    apply Exists.intro; apply And.intro; (focus (intro wk hk; go_simp; exact ⟨rfl, rfl⟩)); refine hK _ _ ?_; clear hK K
    refine stepK rfl (by kernel_rfl) (fun K hK => ?_); go_simp
    apply Exists.intro; apply And.intro; (focus (intro wk hk; go_simp; exact ⟨rfl, rfl⟩)); refine hK _ _ ?_; clear hK K
    refine stepK rfl (by kernel_rfl) (fun K hK => ?_); go_simp
    apply Exists.intro; apply And.intro; (focus (intro wk hk; go_simp; exact ⟨rfl, rfl⟩)); refine hK _ _ ?_; clear hK K
    refine stepK rfl (by kernel_rfl) (fun K hK => ?_); go_simp
    first | (refine hK _ _ ?_; clear hK K) | (apply Exists.intro; apply And.intro; (focus (intro wk hk; go_simp; exact ⟨rfl, rfl⟩)); refine hK _ _ ?_; clear hK K)
    refine stepK rfl (by kernel_rfl) (fun K hK => ?_); go_simp
    first | (refine hK _ _ ?_; clear hK K) | (apply Exists.intro; apply And.intro; (focus (intro wk hk; have cc : wk.cell? ⟨w.heap.size, 1, none⟩ = some (.int .i64 tf) := ((K6.Row.tr r1 hk id).cell 1).trans x1; go_simp; exact ⟨rfl, rfl⟩)); refine hK _ _ ?_; clear hK K)
    refine stepS _ rfl (by kernel_rfl) (fun K hK => ?_); go_simp
    refine ⟨?_, ?_⟩
    · intro wk hk hg hu; go_simp; refine upon_enter ((kf.out _).mono ?_); rintro e w' ⟨rfl, hb⟩; exact ⟨_, rfl, left_V (p := fun u => u = .bool false) rfl (hb) rfl⟩
    rintro ⟨v5, lo5, hi5⟩ - - (rfl : v5 = _)
    refine hK _ _ ?_; clear hK K
    refine stepK rfl (by kernel_rfl) (fun K hK => ?_); go_simp
    first | (refine hK _ _ ?_; clear hK K) | (apply Exists.intro; apply And.intro; (focus (intro wk hk; go_simp; exact ⟨rfl, rfl⟩)); refine hK _ _ ?_; clear hK K)
    refine stepK rfl (by kernel_rfl) (fun K hK => ?_); go_simp
    apply Exists.intro; apply And.intro; (focus (intro wk hk; go_simp; exact ⟨rfl, rfl⟩)); refine hK _ _ ?_; clear hK K
    refine stepK rfl (by kernel_rfl) (fun K hK => ?_); go_simp
    apply Exists.intro; apply And.intro; (focus (intro wk hk; go_simp; exact ⟨rfl, rfl⟩)); refine hK _ _ ?_; clear hK K
    refine stepK rfl (by kernel_rfl) (fun K hK => ?_); go_simp
    first | (refine hK _ _ ?_; clear hK K) | (apply Exists.intro; apply And.intro; (focus (intro wk hk; go_simp; exact ⟨rfl, rfl⟩)); refine hK _ _ ?_; clear hK K)
    refine stepK rfl (by kernel_rfl) (fun K hK => ?_); go_simp
    first | (refine hK _ _ ?_; clear hK K) | (apply Exists.intro; apply And.intro; (focus (intro wk hk; go_simp; exact ⟨rfl, rfl⟩)); refine hK _ _ ?_; clear hK K)
    refine stepK rfl (by kernel_rfl) (fun K hK => ?_); go_simp
    first | (refine hK _ _ ?_; clear hK K) | (apply Exists.intro; apply And.intro; (focus (intro wk hk; go_simp; exact ⟨rfl, rfl⟩)); refine hK _ _ ?_; clear hK K)
    refine stepK rfl (by kernel_rfl) (fun K hK => ?_); go_simp
    first | (refine hK _ _ ?_; clear hK K) | (apply Exists.intro; apply And.intro; (focus (intro wk hk; go_simp; exact ⟨rfl, rfl⟩)); refine hK _ _ ?_; clear hK K)
    refine stepK rfl (by kernel_rfl) (fun K hK => ?_); go_simp
    apply Exists.intro; apply And.intro; (focus (intro wk hk; go_simp; exact ⟨rfl, rfl⟩)); refine hK _ _ ?_; clear hK K
    refine stepN ?_
    refine hQ _ _ ?_
    intro w2 hT hG hF
    have hb2 := hT.below
    have H9 := Lib.hid (hl.trans (hb2.mono hl.size))
    clear hT hG hF hQ QQ L hl r1 r3 hb2
    go_wp2_with fail
    go_ret
    exact ⟨rfl, H9.out⟩
  cases b2
  · clear kA kG kS HN
    let L : List Sp := [sV 5 [] [] (fun u => u = .bool true), sV 11 [] [] (fun u => u = .bool false)]
    refine wp_region_six0 (shs L) (look6 L) (None_) (by kernel_rfl) (by kernel_rfl) (mk_St L [] [] (by kernel_rfl) (by kernel_rfl) ⟨ok_V ⟨_, rfl⟩, ok_V ⟨_, rfl⟩, trivial⟩ (by simp)) ?_
    intro QQ hQ
    refine stepK rfl (by kernel_rfl) (fun K hK => ?_); go_simp
    apply Exists.intro; apply And.intro; (focus (intro wk hk; go_simp; exact ⟨rfl, rfl⟩)); refine hK _ _ ?_; clear hK K
    refine stepK rfl (by kernel_rfl) (fun K hK => ?_); go_simp
    apply Exists.intro; apply And.intro; (focus (intro wk hk; go_simp; exact ⟨rfl, rfl⟩)); refine hK _ _ ?_; clear hK K
    refine stepK rfl (by kernel_rfl) (fun K hK => ?_); go_simp
    apply Exists.intro; apply And.intro; (focus (intro wk hk; go_simp; exact ⟨rfl, rfl⟩)); refine hK _ _ ?_; clear hK K
    refine stepK rfl (by kernel_rfl) (fun K hK => ?_); go_simp
    first | (refine hK _ _ ?_; clear hK K) | (apply Exists.intro; apply And.intro; (focus (intro wk hk; go_simp; exact ⟨rfl, rfl⟩)); refine hK _ _ ?_; clear hK K)
    refine stepK rfl (by kernel_rfl) (fun K hK => ?_); go_simp
    first | (refine hK _ _ ?_; clear hK K) | (apply Exists.intro; apply And.intro; (focus (intro wk hk; have cc : wk.cell? ⟨w.heap.size, 1, none⟩ = some (.int .i64 tf) := ((K6.Row.tr r1 hk id).cell 1).trans x1; go_simp; exact ⟨rfl, rfl⟩)); refine hK _ _ ?_; clear hK K)
    refine stepS _ rfl (by kernel_rfl) (fun K hK => ?_); go_simp
    refine ⟨?_, ?_⟩
    · intro wk hk hg hu; go_simp; refine upon_enter ((kf.out _).mono ?_); rintro e w' ⟨rfl, hb⟩; exact ⟨_, rfl, left_V (p := fun u => u = .bool true) rfl (hb) rfl⟩
    rintro ⟨v5, lo5, hi5⟩ - - (rfl : v5 = _)
    refine hK _ _ ?_; clear hK K
    refine stepK rfl (by kernel_rfl) (fun K hK => ?_); go_simp
    first | (refine hK _ _ ?_; clear hK K) | (apply Exists.intro; apply And.intro; (focus (intro wk hk; go_simp; exact ⟨rfl, rfl⟩)); refine hK _ _ ?_; clear hK K)
    refine stepK rfl (by kernel_rfl) (fun K hK => ?_); go_simp
    apply Exists.intro; apply And.intro; (focus (intro wk hk; go_simp; exact ⟨rfl, rfl⟩)); refine hK _ _ ?_; clear hK K
    refine stepK rfl (by kernel_rfl) (fun K hK => ?_); go_simp
    apply Exists.intro; apply And.intro; (focus (intro wk hk; go_simp; exact ⟨rfl, rfl⟩)); refine hK _ _ ?_; clear hK K
    refine stepK rfl (by kernel_rfl) (fun K hK => ?_); go_simp
    first | (refine hK _ _ ?_; clear hK K) | (apply Exists.intro; apply And.intro; (focus exact kLoad rfl rfl aggT107 r3 rfl id); refine hK _ _ ?_; clear hK K)
    refine stepK rfl (by kernel_rfl) (fun K hK => ?_); go_simp
    first | (refine hK _ _ ?_; clear hK K) | (apply Exists.intro; apply And.intro; (focus exact kLoad rfl rfl aggT116 r1 hsz id); refine hK _ _ ?_; clear hK K)
    refine stepS _ rfl (by kernel_rfl) (fun K hK => ?_); go_simp
    refine ⟨?_, ?_⟩
    · intro wk hk hg hu; go_simp; refine upon_enter ((kc.out _).mono ?_); rintro e w' ⟨rfl, hb⟩; exact ⟨_, rfl, left_V (p := fun u => u = .bool false) rfl (hb) rfl⟩
    rintro ⟨v11, lo11, hi11⟩ - - (rfl : v11 = _)
    refine hK _ _ ?_; clear hK K
    refine stepK rfl (by kernel_rfl) (fun K hK => ?_); go_simp
    first | (refine hK _ _ ?_; clear hK K) | (apply Exists.intro; apply And.intro; (focus (intro wk hk; go_simp; exact ⟨rfl, rfl⟩)); refine hK _ _ ?_; clear hK K)
    refine stepK rfl (by kernel_rfl) (fun K hK => ?_); go_simp
    apply Exists.intro; apply And.intro; (focus (intro wk hk; go_simp; exact ⟨rfl, rfl⟩)); refine hK _ _ ?_; clear hK K
    refine stepN ?_
    refine hQ _ _ ?_
    intro w2 hT hG hF
    have hb2 := hT.below
    have H9 := Lib.hid (hl.trans (hb2.mono hl.size))
    clear hT hG hF hQ QQ L hl r1 r3 hb2
    go_wp2_with fail
    go_ret
    exact ⟨rfl, H9.out⟩
  let L : List Sp := [sV 5 [] [] (fun u => u = .bool true), sV 11 [] [] (fun u => u = .bool true)]
  refine wp_region_six0 (shs L) (look6 L) (None_) (by kernel_rfl) (by kernel_rfl) (mk_St L [] [] (by kernel_rfl) (by kernel_rfl) ⟨ok_V ⟨_, rfl⟩, ok_V ⟨_, rfl⟩, trivial⟩ (by simp)) ?_
  intro QQ hQ
  refine stepK rfl (by kernel_rfl) (fun K hK => ?_); go_simp
  apply Exists.intro; apply And.intro; (focus (intro wk hk; go_simp; exact ⟨rfl, rfl⟩)); refine hK _ _ ?_; clear hK K
  refine stepK rfl (by kernel_rfl) (fun K hK => ?_); go_simp
  apply Exists.intro; apply And.intro; (focus (intro wk hk; go_simp; exact ⟨rfl, rfl⟩)); refine hK _ _ ?_; clear hK K
  refine stepK rfl (by kernel_rfl) (fun K hK => ?_); go_simp
  apply Exists.intro; apply And.intro; (focus (intro wk hk; go_simp; exact ⟨rfl, rfl⟩)); refine hK _ _ ?_; clear hK K
  refine stepK rfl (by kernel_rfl) (fun K hK => ?_); go_simp
  first | (refine hK _ _ ?_; clear hK K) | (apply Exists.intro; apply And.intro; (focus (intro wk hk; go_simp; exact ⟨rfl, rfl⟩)); refine hK _ _ ?_; clear hK K)
  refine stepK rfl (by kernel_rfl) (fun K hK => ?_); go_simp
  first | (refine hK _ _ ?_; clear hK K) | (apply Exists.intro; apply And.intro; (focus (intro wk hk; have cc : wk.cell? ⟨w.heap.size, 1, none⟩ = some (.int .i64 tf) := ((K6.Row.tr r1 hk id).cell 1).trans x1; go_simp; exact ⟨rfl, rfl⟩)); refine hK _ _ ?_; clear hK K)
  refine stepS _ rfl (by kernel_rfl) (fun K hK => ?_); go_simp
  refine ⟨?_, ?_⟩
  · intro wk hk hg hu; go_simp; refine upon_enter ((kf.out _).mono ?_); rintro e w' ⟨rfl, hb⟩; exact ⟨_, rfl, left_V (p := fun u => u = .bool true) rfl (hb) rfl⟩
  rintro ⟨v5, lo5, hi5⟩ - - (rfl : v5 = _)
  refine hK _ _ ?_; clear hK K
  refine stepK rfl (by kernel_rfl) (fun K hK => ?_); go_simp
  first | (refine hK _ _ ?_; clear hK K) | (apply Exists.intro; apply And.intro; (focus (intro wk hk; go_simp; exact ⟨rfl, rfl⟩)); refine hK _ _ ?_; clear hK K)
  refine stepK rfl (by kernel_rfl) (fun K hK => ?_); go_simp
  apply Exists.intro; apply And.intro; (focus (intro wk hk; go_simp; exact ⟨rfl, rfl⟩)); refine hK _ _ ?_; clear hK K
  refine stepK rfl (by kernel_rfl) (fun K hK => ?_); go_simp
  apply Exists.intro; apply And.intro; (focus (intro wk hk; go_simp; exact ⟨rfl, rfl⟩)); refine hK _ _ ?_; clear hK K
  refine stepK rfl (by kernel_rfl) (fun K hK => ?_); go_simp
  first | (refine hK _ _ ?_; clear hK K) | (apply Exists.intro; apply And.intro; (focus exact kLoad rfl rfl aggT107 r3 rfl id); refine hK _ _ ?_; clear hK K)
  refine stepK rfl (by kernel_rfl) (fun K hK => ?_); go_simp
  first | (refine hK _ _ ?_; clear hK K) | (apply Exists.intro; apply And.intro; (focus exact kLoad rfl rfl aggT116 r1 hsz id); refine hK _ _ ?_; clear hK K)
  refine stepS _ rfl (by kernel_rfl) (fun K hK => ?_); go_simp
  refine ⟨?_, ?_⟩
  · intro wk hk hg hu; go_simp; refine upon_enter ((kc.out _).mono ?_); rintro e w' ⟨rfl, hb⟩; exact ⟨_, rfl, left_V (p := fun u => u = .bool true) rfl (hb) rfl⟩
  rintro ⟨v11, lo11, hi11⟩ - - (rfl : v11 = _)
  refine hK _ _ ?_; clear hK K
  refine stepK rfl (by kernel_rfl) (fun K hK => ?_); go_simp
  first | (refine hK _ _ ?_; clear hK K) | (apply Exists.intro; apply And.intro; (focus (intro wk hk; go_simp; exact ⟨rfl, rfl⟩)); refine hK _ _ ?_; clear hK K)
  refine stepK rfl (by kernel_rfl) (fun K hK => ?_); go_simp
  apply Exists.intro; apply And.intro; (focus (intro wk hk; go_simp; exact ⟨rfl, rfl⟩)); refine hK _ _ ?_; clear hK K
  refine stepN ?_
  refine hQ _ _ ?_
  intro w2 hT hG hF
  have hb2 := hT.below
  have HL := Lib.hid (show Below w.heap.size w w2 ∧ Row w2 w.heap.size 116 ct ∧ Row w2 lo6 107 (#[.int .i64 sn, .bool st, .int .i64 sa, .bool se, .int .i64 sh, .bool sc]) from ⟨hl.trans (hb2.mono hl.size), r1.below hb2 r1.lt, r3.below hb2 r3.lt⟩)
  have d2 := (HL.out.2.1.cell 2).trans x2
  clear hT hG hF hQ QQ L hl r1 r3 hb2 kf kc hlt6
  go_wp2_with fail
  go_loopg [5, 29] m (fun gg s5 s29 wr => ∃ i : Nat, i + gg = m ∧ s29 = .int .i64 (i : Int) ∧ Hid (∀ j, j < i → numJ sn ln j) ∧ Hid (Below w.heap.size w wr ∧ Row wr w.heap.size 116 ct ∧ Row wr lo6 107 (#[.int .i64 sn, .bool st, .int .i64 sa, .bool se, .int .i64 sh, .bool sc])))
  case atStart => exact ⟨0, by omega, rfl, Lib.hid (fun j h => absurd h (Nat.not_lt_zero j)), HL⟩
  case round =>
    clear HL d2
    obtain ⟨i, him, rfl, hall, hinv⟩ := hrel
    by_cases hi : i < m
    · obtain ⟨x, hx⟩ : ∃ x, ln[i]? = some x := ⟨_, List.getElem?_eq_getElem (by have := HN.out.2.1; omega)⟩
      have hiln : i < ln.length := (List.getElem?_eq_some_iff.1 hx).1
      obtain ⟨gx, ox, cx', hu, hgx, hcx⟩ := (HN.out.1.below hinv.out.1).get hx
      simp only [Value.slice.injEq] at hu
      obtain ⟨rfl, -, -⟩ := hu
      have cx0 : wr.cell? ⟨gx, ox + i, none⟩ = some (.int .i64 x) := by have h := hcx 0 _ rfl; simpa using h
      have kx := Lib.hid fun wx => within_at x 0 1099511627776 wx
      have hl := hinv.out.1
      have r1 := hinv.out.2.1
      have r3 := hinv.out.2.2
      have hDx := Lib.hid (show ln.getD i 0 = x ∧ i < ln.length from ⟨get_D hx, hiln⟩)
      have hlt : (i : Int) < (m : Int) := by omega
      clear hcx hiln hinv
      go_upto_region 7 with (fail)
      by_cases hw : 0 ≤ x ∧ x ≤ 1099511627776
      case neg =>
        rw [decide_eq_false hw] at kx
        have hbf : b3 = false := by rw [← HN.out.2.2.1]; exact nums_no hDx.out.2 (fun h => hw (by have := h.1; rwa [hDx.out.1] at this))
        subst hbf
        clear hw hx HN hall hDx kA kG kS
        let L : List Sp := [sV 5 [] [] (fun u => u = .bool false)]
        refine wp_region_six (shs L) (look6 L) (None_) (by kernel_rfl) (by kernel_rfl) (mk_St L [] [] (by kernel_rfl) (by kernel_rfl) ⟨ok_V ⟨_, rfl⟩, trivial⟩ (by simp)) ?_
        intro QQ hQ
        refine stepK rfl (by kernel_rfl) (fun K hK => ?_); go_simp
        apply Exists.intro; apply And.intro; (focus (intro wk hk; go_simp; exact ⟨rfl, rfl⟩)); refine hK _ _ ?_; clear hK K
        refine stepK rfl (by kernel_rfl) (fun K hK => ?_); go_simp
        apply Exists.intro; apply And.intro; (focus (intro wk hk; have cc : wk.cell? ⟨w.heap.size, 2, none⟩ = some (.slice (some ⟨gx, ox, none⟩) m nc) := ((K6.Row.tr r1 hk.undrew id).cell 2).trans x2; go_simp; exact ⟨rfl, rfl⟩)); refine hK _ _ ?_; clear hK K
        refine stepK rfl (by kernel_rfl) (fun K hK => ?_); go_simp
        apply Exists.intro; apply And.intro; (focus (intro wk hk; go_simp; exact ⟨rfl, rfl⟩)); refine hK _ _ ?_; clear hK K
        refine stepK rfl (by kernel_rfl) (fun K hK => ?_); go_simp
        apply Exists.intro; apply And.intro; (focus (intro wk hk; go_simp; exact ⟨rfl, rfl⟩)); refine hK _ _ ?_; clear hK K
        refine stepK rfl (by kernel_rfl) (fun K hK => ?_); go_simp
        apply Exists.intro; apply And.intro; (focus (intro wk hk; have cc : wk.cell? ⟨gx, ox + i, none⟩ = some (.int .i64 x) := (World.cell?_of_block (hk.undrew.below.block _ hgx)).trans cx0; go_simp; exact ⟨rfl, rfl⟩)); refine hK _ _ ?_; clear hK K
        refine stepS _ rfl (by kernel_rfl) (fun K hK => ?_); go_simp
        refine ⟨?_, ?_⟩
        · intro wk hk hg hu; go_simp; refine upon_enter ((kx.out _).mono ?_); rintro e w' ⟨rfl, hb⟩; exact ⟨_, rfl, left_V (p := fun u => u = .bool false) rfl (hb) rfl⟩
        rintro ⟨v5, lo5, hi5⟩ - - (rfl : v5 = _)
        refine hK _ _ ?_; clear hK K
        refine stepK rfl (by kernel_rfl) (fun K hK => ?_); go_simp
        apply Exists.intro; apply And.intro; (focus (intro wk hk; go_simp; exact ⟨rfl, rfl⟩)); refine hK _ _ ?_; clear hK K
        refine stepK rfl (by kernel_rfl) (fun K hK => ?_); go_simp
        apply Exists.intro; apply And.intro; (focus (intro wk hk; go_simp; exact ⟨rfl, rfl⟩)); refine hK _ _ ?_; clear hK K
        refine stepK rfl (by kernel_rfl) (fun K hK => ?_); go_simp
        first | (refine hK _ _ ?_; clear hK K) | (apply Exists.intro; apply And.intro; (focus (intro wk hk; go_simp; exact ⟨rfl, rfl⟩)); refine hK _ _ ?_; clear hK K)
        refine stepK rfl (by kernel_rfl) (fun K hK => ?_); go_simp
        first | (refine hK _ _ ?_; clear hK K) | (apply Exists.intro; apply And.intro; (focus (intro wk hk; go_simp; exact ⟨rfl, rfl⟩)); refine hK _ _ ?_; clear hK K)
        refine stepK rfl (by kernel_rfl) (fun K hK => ?_); go_simp
        first | (refine hK _ _ ?_; clear hK K) | (apply Exists.intro; apply And.intro; (focus (intro wk hk; go_simp; exact ⟨rfl, rfl⟩)); refine hK _ _ ?_; clear hK K)
        refine stepK rfl (by kernel_rfl) (fun K hK => ?_); go_simp
        first | (refine hK _ _ ?_; clear hK K) | (apply Exists.intro; apply And.intro; (focus (intro wk hk; go_simp; exact ⟨rfl, rfl⟩)); refine hK _ _ ?_; clear hK K)
        refine stepK rfl (by kernel_rfl) (fun K hK => ?_); go_simp
        first | (refine hK _ _ ?_; clear hK K) | (apply Exists.intro; apply And.intro; (focus (intro wk hk; go_simp; exact ⟨rfl, rfl⟩)); refine hK _ _ ?_; clear hK K)
        refine stepK rfl (by kernel_rfl) (fun K hK => ?_); go_simp
        first | (refine hK _ _ ?_; clear hK K) | (apply Exists.intro; apply And.intro; (focus (intro wk hk; go_simp; exact ⟨rfl, rfl⟩)); refine hK _ _ ?_; clear hK K)
        refine stepK rfl (by kernel_rfl) (fun K hK => ?_); go_simp
        first | (refine hK _ _ ?_; clear hK K) | (apply Exists.intro; apply And.intro; (focus (intro wk hk; go_simp; exact ⟨rfl, rfl⟩)); refine hK _ _ ?_; clear hK K)
        refine stepK rfl (by kernel_rfl) (fun K hK => ?_); go_simp
        first | (refine hK _ _ ?_; clear hK K) | (apply Exists.intro; apply And.intro; (focus (intro wk hk; go_simp; exact ⟨rfl, rfl⟩)); refine hK _ _ ?_; clear hK K)
        refine stepK rfl (by kernel_rfl) (fun K hK => ?_); go_simp
        first | (refine hK _ _ ?_; clear hK K) | (apply Exists.intro; apply And.intro; (focus (intro wk hk; go_simp; exact ⟨rfl, rfl⟩)); refine hK _ _ ?_; clear hK K)
        refine stepK rfl (by kernel_rfl) (fun K hK => ?_); go_simp
        first | (refine hK _ _ ?_; clear hK K) | (apply Exists.intro; apply And.intro; (focus (intro wk hk; go_simp; exact ⟨rfl, rfl⟩)); refine hK _ _ ?_; clear hK K)
        refine stepK rfl (by kernel_rfl) (fun K hK => ?_); go_simp
        first | (refine hK _ _ ?_; clear hK K) | (apply Exists.intro; apply And.intro; (focus (intro wk hk; go_simp; exact ⟨rfl, rfl⟩)); refine hK _ _ ?_; clear hK K)
        refine stepK rfl (by kernel_rfl) (fun K hK => ?_); go_simp
        first | (refine hK _ _ ?_; clear hK K) | (apply Exists.intro; apply And.intro; (focus (intro wk hk; go_simp; exact ⟨rfl, rfl⟩)); refine hK _ _ ?_; clear hK K)
        refine stepK rfl (by kernel_rfl) (fun K hK => ?_); go_simp
        first | (refine hK _ _ ?_; clear hK K) | (apply Exists.intro; apply And.intro; (focus (intro wk hk; go_simp; exact ⟨rfl, rfl⟩)); refine hK _ _ ?_; clear hK K)
        refine stepK rfl (by kernel_rfl) (fun K hK => ?_); go_simp
        first | (refine hK _ _ ?_; clear hK K) | (apply Exists.intro; apply And.intro; (focus (intro wk hk; go_simp; exact ⟨rfl, rfl⟩)); refine hK _ _ ?_; clear hK K)
        refine stepK rfl (by kernel_rfl) (fun K hK => ?_); go_simp
        first | (refine hK _ _ ?_; clear hK K) | (apply Exists.intro; apply And.intro; (focus (intro wk hk; go_simp; exact ⟨rfl, rfl⟩)); refine hK _ _ ?_; clear hK K)
        refine stepK rfl (by kernel_rfl) (fun K hK => ?_); go_simp
        first | (refine hK _ _ ?_; clear hK K) | (apply Exists.intro; apply And.intro; (focus (intro wk hk; go_simp; exact ⟨rfl, rfl⟩)); refine hK _ _ ?_; clear hK K)
        refine stepK rfl (by kernel_rfl) (fun K hK => ?_); go_simp
        first | (refine hK _ _ ?_; clear hK K) | (apply Exists.intro; apply And.intro; (focus (intro wk hk; go_simp; exact ⟨rfl, rfl⟩)); refine hK _ _ ?_; clear hK K)
        refine stepK rfl (by kernel_rfl) (fun K hK => ?_); go_simp
        first | (refine hK _ _ ?_; clear hK K) | (apply Exists.intro; apply And.intro; (focus (intro wk hk; go_simp; exact ⟨rfl, rfl⟩)); refine hK _ _ ?_; clear hK K)
        refine stepK rfl (by kernel_rfl) (fun K hK => ?_); go_simp
        apply Exists.intro; apply And.intro; (focus (intro wk hk; go_simp; exact ⟨rfl, rfl⟩)); refine hK _ _ ?_; clear hK K
        refine stepN ?_
        refine hQ _ _ ?_
        intro w4 hT hG hF
        have hb4 := hT.undrew.below
        have H4 := Lib.hid (show Below w.heap.size w w4 ∧ Row w4 w.heap.size 116 ct ∧ Row w4 lo6 107 (#[.int .i64 sn, .bool st, .int .i64 sa, .bool se, .int .i64 sh, .bool sc]) from ⟨hl.trans (hb4.mono hl.size), r1.below hb4 r1.lt, r3.below hb4 r3.lt⟩)
        clear hT hG hF hQ QQ L hl r1 r3 hb4 kx cx0
        go_wp2_with fail
        go_ret
        exact ⟨rfl, H4.out.1⟩
      rw [decide_eq_true hw] at kx
      by_cases hg : sn < (i : Int)
      case neg =>
        have hnext := Lib.hid (show ∀ j, j < i + 1 → numJ sn ln j from fun j hj => by
          rcases Nat.lt_or_ge j i with h | h
          · exact hall.out j h
          · obtain rfl : j = i := by omega
            exact ⟨by rw [hDx.out.1]; exact hw, fun h2 => absurd h2 hg⟩)
        clear hw hx hall hDx
        let L : List Sp := [sV 5 [] [] (fun u => u = .bool true)]
        refine wp_region_six (shs L) (look6 L) (None_) (by kernel_rfl) (by kernel_rfl) (mk_St L [] [] (by kernel_rfl) (by kernel_rfl) ⟨ok_V ⟨_, rfl⟩, trivial⟩ (by simp)) ?_
        intro QQ hQ
        refine stepK rfl (by kernel_rfl) (fun K hK => ?_); go_simp
        apply Exists.intro; apply And.intro; (focus (intro wk hk; go_simp; exact ⟨rfl, rfl⟩)); refine hK _ _ ?_; clear hK K
        refine stepK rfl (by kernel_rfl) (fun K hK => ?_); go_simp
        apply Exists.intro; apply And.intro; (focus (intro wk hk; have cc : wk.cell? ⟨w.heap.size, 2, none⟩ = some (.slice (some ⟨gx, ox, none⟩) m nc) := ((K6.Row.tr r1 hk.undrew id).cell 2).trans x2; go_simp; exact ⟨rfl, rfl⟩)); refine hK _ _ ?_; clear hK K
        refine stepK rfl (by kernel_rfl) (fun K hK => ?_); go_simp
        apply Exists.intro; apply And.intro; (focus (intro wk hk; go_simp; exact ⟨rfl, rfl⟩)); refine hK _ _ ?_; clear hK K
        refine stepK rfl (by kernel_rfl) (fun K hK => ?_); go_simp
        apply Exists.intro; apply And.intro; (focus (intro wk hk; go_simp; exact ⟨rfl, rfl⟩)); refine hK _ _ ?_; clear hK K
        refine stepK rfl (by kernel_rfl) (fun K hK => ?_); go_simp
        apply Exists.intro; apply And.intro; (focus (intro wk hk; have cc : wk.cell? ⟨gx, ox + i, none⟩ = some (.int .i64 x) := (World.cell?_of_block (hk.undrew.below.block _ hgx)).trans cx0; go_simp; exact ⟨rfl, rfl⟩)); refine hK _ _ ?_; clear hK K
        refine stepS _ rfl (by kernel_rfl) (fun K hK => ?_); go_simp
        refine ⟨?_, ?_⟩
        · intro wk hk hg hu; go_simp; refine upon_enter ((kx.out _).mono ?_); rintro e w' ⟨rfl, hb⟩; exact ⟨_, rfl, left_V (p := fun u => u = .bool true) rfl (hb) rfl⟩
        rintro ⟨v5, lo5, hi5⟩ - - (rfl : v5 = _)
        refine hK _ _ ?_; clear hK K
        refine stepK rfl (by kernel_rfl) (fun K hK => ?_); go_simp
        apply Exists.intro; apply And.intro; (focus (intro wk hk; go_simp; exact ⟨rfl, rfl⟩)); refine hK _ _ ?_; clear hK K
        refine stepK rfl (by kernel_rfl) (fun K hK => ?_); go_simp
        apply Exists.intro; apply And.intro; (focus (intro wk hk; go_simp; exact ⟨rfl, rfl⟩)); refine hK _ _ ?_; clear hK K
        refine stepK rfl (by kernel_rfl) (fun K hK => ?_); go_simp
        first | (refine hK _ _ ?_; clear hK K) | (apply Exists.intro; apply And.intro; (focus (intro wk hk; go_simp; exact ⟨rfl, rfl⟩)); refine hK _ _ ?_; clear hK K)
        refine stepK rfl (by kernel_rfl) (fun K hK => ?_); go_simp
        first | (refine hK _ _ ?_; clear hK K) | (apply Exists.intro; apply And.intro; (focus (intro wk hk; go_simp; exact ⟨rfl, rfl⟩)); refine hK _ _ ?_; clear hK K)
        refine stepK rfl (by kernel_rfl) (fun K hK => ?_); go_simp
        first | (refine hK _ _ ?_; clear hK K) | (apply Exists.intro; apply And.intro; (focus (intro wk hk; have cc : wk.cell? ⟨lo6, 0, none⟩ = some (.int .i64 sn) := (K6.Row.tr r3 hk.undrew id).cell 0; go_simp; exact ⟨rfl, rfl⟩)); refine hK _ _ ?_; clear hK K)
        refine stepK rfl (by kernel_rfl) (fun K hK => ?_); go_simp
        first | (refine hK _ _ ?_; clear hK K) | (apply Exists.intro; apply And.intro; (focus (intro wk hk; go_simp; exact ⟨rfl, rfl⟩)); refine hK _ _ ?_; clear hK K)
        refine stepK rfl (by kernel_rfl) (fun K hK => ?_); go_simp
        first | (refine hK _ _ ?_; clear hK K) | (apply Exists.intro; apply And.intro; (focus (intro wk hk; go_simp; exact ⟨rfl, rfl⟩)); refine hK _ _ ?_; clear hK K)
        refine stepK rfl (by kernel_rfl) (fun K hK => ?_); go_simp
        first | (refine hK _ _ ?_; clear hK K) | (apply Exists.intro; apply And.intro; (focus (intro wk hk; go_simp; exact ⟨rfl, rfl⟩)); refine hK _ _ ?_; clear hK K)
        refine stepK rfl (by kernel_rfl) (fun K hK => ?_); go_simp
        first | (refine hK _ _ ?_; clear hK K) | (apply Exists.intro; apply And.intro; (focus (intro wk hk; go_simp; exact ⟨rfl, rfl⟩)); refine hK _ _ ?_; clear hK K)
        refine stepK rfl (by kernel_rfl) (fun K hK => ?_); go_simp
        first | (refine hK _ _ ?_; clear hK K) | (apply Exists.intro; apply And.intro; (focus (intro wk hk; go_simp; exact ⟨rfl, rfl⟩)); refine hK _ _ ?_; clear hK K)
        refine stepK rfl (by kernel_rfl) (fun K hK => ?_); go_simp
        first | (refine hK _ _ ?_; clear hK K) | (apply Exists.intro; apply And.intro; (focus (intro wk hk; go_simp; exact ⟨rfl, rfl⟩)); refine hK _ _ ?_; clear hK K)
        refine stepK rfl (by kernel_rfl) (fun K hK => ?_); go_simp
        first | (refine hK _ _ ?_; clear hK K) | (apply Exists.intro; apply And.intro; (focus (intro wk hk; go_simp; exact ⟨rfl, rfl⟩)); refine hK _ _ ?_; clear hK K)
        refine stepK rfl (by kernel_rfl) (fun K hK => ?_); go_simp
        first | (refine hK _ _ ?_; clear hK K) | (apply Exists.intro; apply And.intro; (focus (intro wk hk; go_simp; exact ⟨rfl, rfl⟩)); refine hK _ _ ?_; clear hK K)
        refine stepK rfl (by kernel_rfl) (fun K hK => ?_); go_simp
        first | (refine hK _ _ ?_; clear hK K) | (apply Exists.intro; apply And.intro; (focus (intro wk hk; go_simp; exact ⟨rfl, rfl⟩)); refine hK _ _ ?_; clear hK K)
        refine stepK rfl (by kernel_rfl) (fun K hK => ?_); go_simp
        first | (refine hK _ _ ?_; clear hK K) | (apply Exists.intro; apply And.intro; (focus (intro wk hk; go_simp; exact ⟨rfl, rfl⟩)); refine hK _ _ ?_; clear hK K)
        refine stepK rfl (by kernel_rfl) (fun K hK => ?_); go_simp
        first | (refine hK _ _ ?_; clear hK K) | (apply Exists.intro; apply And.intro; (focus (intro wk hk; go_simp; exact ⟨rfl, rfl⟩)); refine hK _ _ ?_; clear hK K)
        refine stepK rfl (by kernel_rfl) (fun K hK => ?_); go_simp
        first | (refine hK _ _ ?_; clear hK K) | (apply Exists.intro; apply And.intro; (focus (intro wk hk; go_simp; exact ⟨rfl, rfl⟩)); refine hK _ _ ?_; clear hK K)
        refine stepK rfl (by kernel_rfl) (fun K hK => ?_); go_simp
        first | (refine hK _ _ ?_; clear hK K) | (apply Exists.intro; apply And.intro; (focus (intro wk hk; go_simp; exact ⟨rfl, rfl⟩)); refine hK _ _ ?_; clear hK K)
        refine stepK rfl (by kernel_rfl) (fun K hK => ?_); go_simp
        first | (refine hK _ _ ?_; clear hK K) | (apply Exists.intro; apply And.intro; (focus (intro wk hk; go_simp; exact ⟨rfl, rfl⟩)); refine hK _ _ ?_; clear hK K)
        refine stepK rfl (by kernel_rfl) (fun K hK => ?_); go_simp
        first | (refine hK _ _ ?_; clear hK K) | (apply Exists.intro; apply And.intro; (focus (intro wk hk; go_simp; exact ⟨rfl, rfl⟩)); refine hK _ _ ?_; clear hK K)
        refine stepK rfl (by kernel_rfl) (fun K hK => ?_); go_simp
        apply Exists.intro; apply And.intro; (focus (intro wk hk; go_simp; exact ⟨rfl, rfl⟩)); refine hK _ _ ?_; clear hK K
        refine stepN ?_
        refine hQ _ _ ?_
        intro w4 hT hG hF
        have hb4 := hT.undrew.below
        have H4 := Lib.hid (show Below w.heap.size w w4 ∧ Row w4 w.heap.size 116 ct ∧ Row w4 lo6 107 (#[.int .i64 sn, .bool st, .int .i64 sa, .bool se, .int .i64 sh, .bool sc]) from ⟨hl.trans (hb4.mono hl.size), r1.below hb4 r1.lt, r3.below hb4 r3.lt⟩)
        clear hT hG hF hQ QQ L hl r1 r3 hb4 kx cx0
        go_wp2_with fail
        go_roundg (gk - 1)
        case measure => omega
        case rel => exact ⟨i + 1, by omega, by go_num, hnext, H4⟩
      obtain ⟨k, hk⟩ : ∃ k, i = k + 1 := ⟨i - 1, by have := HN.out.2.2.2; omega⟩
      obtain ⟨y, hy⟩ : ∃ y, ln[k]? = some y := ⟨_, List.getElem?_eq_getElem (by have := HN.out.2.1; omega)⟩
      obtain ⟨gy, oy, cy', hu, hgy, hcy⟩ := (HN.out.1.below hl).get hy
      simp only [Value.slice.injEq, Option.some.injEq, Addr.mk.injEq] at hu
      obtain ⟨⟨rfl, rfl, -⟩, -, -⟩ := hu
      have cy0 : wr.cell? ⟨gx, ox + k, none⟩ = some (.int .i64 y) := by have h := hcy 0 _ rfl; simpa using h
      have wJ : IntKind.i64.wrap ((i : Int) - 1) = (k : Int) := by rw [IntKind.wrap_i64]; omega
      have hkm : (k : Int) < (m : Int) := by omega
      have hDy := Lib.hid (show ln.getD (i - 1) 0 = y by rw [hk]; exact get_D hy)
      clear hcy hy hgy
      by_cases hxy : x ≤ y
      · have hbf : b3 = false := by rw [← HN.out.2.2.1]; exact nums_no hDx.out.2 (fun h => by have := h.2 hg; rw [hDx.out.1, hDy.out] at this; omega)
        subst hbf
        clear hw hx hall HN hDx hDy kA kG kS hk
        let L : List Sp := [sV 5 [] [] (fun u => u = .bool true)]
        refine wp_region_six (shs L) (look6 L) (None_) (by kernel_rfl) (by kernel_rfl) (mk_St L [] [] (by kernel_rfl) (by kernel_rfl) ⟨ok_V ⟨_, rfl⟩, trivial⟩ (by simp)) ?_
        intro QQ hQ
        refine stepK rfl (by kernel_rfl) (fun K hK => ?_); go_simp
        apply Exists.intro; apply And.intro; (focus (intro wk hk; go_simp; exact ⟨rfl, rfl⟩)); refine hK _ _ ?_; clear hK K
        refine stepK rfl (by kernel_rfl) (fun K hK => ?_); go_simp
        apply Exists.intro; apply And.intro; (focus (intro wk hk; have cc : wk.cell? ⟨w.heap.size, 2, none⟩ = some (.slice (some ⟨gx, ox, none⟩) m nc) := ((K6.Row.tr r1 hk.undrew id).cell 2).trans x2; go_simp; exact ⟨rfl, rfl⟩)); refine hK _ _ ?_; clear hK K
        refine stepK rfl (by kernel_rfl) (fun K hK => ?_); go_simp
        apply Exists.intro; apply And.intro; (focus (intro wk hk; go_simp; exact ⟨rfl, rfl⟩)); refine hK _ _ ?_; clear hK K
        refine stepK rfl (by kernel_rfl) (fun K hK => ?_); go_simp
        apply Exists.intro; apply And.intro; (focus (intro wk hk; go_simp; exact ⟨rfl, rfl⟩)); refine hK _ _ ?_; clear hK K
        refine stepK rfl (by kernel_rfl) (fun K hK => ?_); go_simp
        apply Exists.intro; apply And.intro; (focus (intro wk hk; have cc : wk.cell? ⟨gx, ox + i, none⟩ = some (.int .i64 x) := (World.cell?_of_block (hk.undrew.below.block _ hgx)).trans cx0; go_simp; exact ⟨rfl, rfl⟩)); refine hK _ _ ?_; clear hK K
        refine stepS _ rfl (by kernel_rfl) (fun K hK => ?_); go_simp
        refine ⟨?_, ?_⟩
        · intro wk hk hg hu; go_simp; refine upon_enter ((kx.out _).mono ?_); rintro e w' ⟨rfl, hb⟩; exact ⟨_, rfl, left_V (p := fun u => u = .bool true) rfl (hb) rfl⟩
        rintro ⟨v5, lo5, hi5⟩ - - (rfl : v5 = _)
        refine hK _ _ ?_; clear hK K
        refine stepK rfl (by kernel_rfl) (fun K hK => ?_); go_simp
        apply Exists.intro; apply And.intro; (focus (intro wk hk; go_simp; exact ⟨rfl, rfl⟩)); refine hK _ _ ?_; clear hK K
        refine stepK rfl (by kernel_rfl) (fun K hK => ?_); go_simp
        apply Exists.intro; apply And.intro; (focus (intro wk hk; go_simp; exact ⟨rfl, rfl⟩)); refine hK _ _ ?_; clear hK K
        refine stepK rfl (by kernel_rfl) (fun K hK => ?_); go_simp
        first | (refine hK _ _ ?_; clear hK K) | (apply Exists.intro; apply And.intro; (focus (intro wk hk; go_simp; exact ⟨rfl, rfl⟩)); refine hK _ _ ?_; clear hK K)
        refine stepK rfl (by kernel_rfl) (fun K hK => ?_); go_simp
        first | (refine hK _ _ ?_; clear hK K) | (apply Exists.intro; apply And.intro; (focus (intro wk hk; go_simp; exact ⟨rfl, rfl⟩)); refine hK _ _ ?_; clear hK K)
        refine stepK rfl (by kernel_rfl) (fun K hK => ?_); go_simp
        first | (refine hK _ _ ?_; clear hK K) | (apply Exists.intro; apply And.intro; (focus (intro wk hk; have cc : wk.cell? ⟨lo6, 0, none⟩ = some (.int .i64 sn) := (K6.Row.tr r3 hk.undrew id).cell 0; go_simp; exact ⟨rfl, rfl⟩)); refine hK _ _ ?_; clear hK K)
        refine stepK rfl (by kernel_rfl) (fun K hK => ?_); go_simp
        first | (refine hK _ _ ?_; clear hK K) | (apply Exists.intro; apply And.intro; (focus (intro wk hk; go_simp; exact ⟨rfl, rfl⟩)); refine hK _ _ ?_; clear hK K)
        refine stepK rfl (by kernel_rfl) (fun K hK => ?_); go_simp
        first | (refine hK _ _ ?_; clear hK K) | (apply Exists.intro; apply And.intro; (focus (intro wk hk; go_simp; exact ⟨rfl, rfl⟩)); refine hK _ _ ?_; clear hK K)
        refine stepK rfl (by kernel_rfl) (fun K hK => ?_); go_simp
        first | (refine hK _ _ ?_; clear hK K) | (apply Exists.intro; apply And.intro; (focus (intro wk hk; go_simp; exact ⟨rfl, rfl⟩)); refine hK _ _ ?_; clear hK K)
        refine stepK rfl (by kernel_rfl) (fun K hK => ?_); go_simp
        first | (refine hK _ _ ?_; clear hK K) | (apply Exists.intro; apply And.intro; (focus (intro wk hk; have cc : wk.cell? ⟨w.heap.size, 2, none⟩ = some (.slice (some ⟨gx, ox, none⟩) m nc) := ((K6.Row.tr r1 hk.undrew id).cell 2).trans x2; go_simp; exact ⟨rfl, rfl⟩)); refine hK _ _ ?_; clear hK K)
        refine stepK rfl (by kernel_rfl) (fun K hK => ?_); go_simp
        first | (refine hK _ _ ?_; clear hK K) | (apply Exists.intro; apply And.intro; (focus (intro wk hk; go_simp; exact ⟨rfl, rfl⟩)); refine hK _ _ ?_; clear hK K)
        refine stepK rfl (by kernel_rfl) (fun K hK => ?_); go_simp
        first | (refine hK _ _ ?_; clear hK K) | (apply Exists.intro; apply And.intro; (focus (intro wk hk; go_simp; exact ⟨rfl, rfl⟩)); refine hK _ _ ?_; clear hK K)
        refine stepK rfl (by kernel_rfl) (fun K hK => ?_); go_simp
        first | (refine hK _ _ ?_; clear hK K) | (apply Exists.intro; apply And.intro; (focus (intro wk hk; have cc : wk.cell? ⟨gx, ox + i, none⟩ = some (.int .i64 x) := (World.cell?_of_block (hk.undrew.below.block _ hgx)).trans cx0; go_simp; exact ⟨rfl, rfl⟩)); refine hK _ _ ?_; clear hK K)
        refine stepK rfl (by kernel_rfl) (fun K hK => ?_); go_simp
        first | (refine hK _ _ ?_; clear hK K) | (apply Exists.intro; apply And.intro; (focus (intro wk hk; go_simp; exact ⟨rfl, rfl⟩)); refine hK _ _ ?_; clear hK K)
        refine stepK rfl (by kernel_rfl) (fun K hK => ?_); go_simp
        first | (refine hK _ _ ?_; clear hK K) | (apply Exists.intro; apply And.intro; (focus (intro wk hk; have cc : wk.cell? ⟨w.heap.size, 2, none⟩ = some (.slice (some ⟨gx, ox, none⟩) m nc) := ((K6.Row.tr r1 hk.undrew id).cell 2).trans x2; go_simp; exact ⟨rfl, rfl⟩)); refine hK _ _ ?_; clear hK K)
        refine stepK rfl (by kernel_rfl) (fun K hK => ?_); go_simp
        first | (refine hK _ _ ?_; clear hK K) | (apply Exists.intro; apply And.intro; (focus (intro wk hk; go_simp; exact ⟨rfl, rfl⟩)); refine hK _ _ ?_; clear hK K)
        refine stepK rfl (by kernel_rfl) (fun K hK => ?_); go_simp
        first | (refine hK _ _ ?_; clear hK K) | (apply Exists.intro; apply And.intro; (focus (intro wk hk; go_simp; exact ⟨rfl, rfl⟩)); refine hK _ _ ?_; clear hK K)
        refine stepK rfl (by kernel_rfl) (fun K hK => ?_); go_simp
        first | (refine hK _ _ ?_; clear hK K) | (apply Exists.intro; apply And.intro; (focus (intro wk hk; go_simp; exact ⟨rfl, rfl⟩)); refine hK _ _ ?_; clear hK K)
        refine stepK rfl (by kernel_rfl) (fun K hK => ?_); go_simp
        first | (refine hK _ _ ?_; clear hK K) | (apply Exists.intro; apply And.intro; (focus (intro wk hk; have cc : wk.cell? ⟨gx, ox + k, none⟩ = some (.int .i64 y) := (World.cell?_of_block (hk.undrew.below.block _ hgx)).trans cy0; go_simp; exact ⟨rfl, rfl⟩)); refine hK _ _ ?_; clear hK K)
        refine stepK rfl (by kernel_rfl) (fun K hK => ?_); go_simp
        first | (refine hK _ _ ?_; clear hK K) | (apply Exists.intro; apply And.intro; (focus (intro wk hk; go_simp; exact ⟨rfl, rfl⟩)); refine hK _ _ ?_; clear hK K)
        refine stepK rfl (by kernel_rfl) (fun K hK => ?_); go_simp
        first | (refine hK _ _ ?_; clear hK K) | (apply Exists.intro; apply And.intro; (focus (intro wk hk; go_simp; exact ⟨rfl, rfl⟩)); refine hK _ _ ?_; clear hK K)
        refine stepK rfl (by kernel_rfl) (fun K hK => ?_); go_simp
        apply Exists.intro; apply And.intro; (focus (intro wk hk; go_simp; exact ⟨rfl, rfl⟩)); refine hK _ _ ?_; clear hK K
        refine stepN ?_
        refine hQ _ _ ?_
        intro w4 hT hG hF
        have hb4 := hT.undrew.below
        have H4 := Lib.hid (show Below w.heap.size w w4 ∧ Row w4 w.heap.size 116 ct ∧ Row w4 lo6 107 (#[.int .i64 sn, .bool st, .int .i64 sa, .bool se, .int .i64 sh, .bool sc]) from ⟨hl.trans (hb4.mono hl.size), r1.below hb4 r1.lt, r3.below hb4 r3.lt⟩)
        clear hT hG hF hQ QQ L hl r1 r3 hb4 kx cx0
        go_wp2_with fail
        go_ret
        exact ⟨rfl, H4.out.1⟩
      · have hnext := Lib.hid (show ∀ j, j < i + 1 → numJ sn ln j from fun j hj => by
          rcases Nat.lt_or_ge j i with h | h
          · exact hall.out j h
          · obtain rfl : j = i := by omega
            exact ⟨by rw [hDx.out.1]; exact hw, fun h2 => by rw [hDx.out.1, hDy.out]; omega⟩)
        clear hw hx hall hDx hDy hk
        let L : List Sp := [sV 5 [] [] (fun u => u = .bool true)]
        refine wp_region_six (shs L) (look6 L) (None_) (by kernel_rfl) (by kernel_rfl) (mk_St L [] [] (by kernel_rfl) (by kernel_rfl) ⟨ok_V ⟨_, rfl⟩, trivial⟩ (by simp)) ?_
        intro QQ hQ
        refine stepK rfl (by kernel_rfl) (fun K hK => ?_); go_simp
        apply Exists.intro; apply And.intro; (focus (intro wk hk; go_simp; exact ⟨rfl, rfl⟩)); refine hK _ _ ?_; clear hK K
        refine stepK rfl (by kernel_rfl) (fun K hK => ?_); go_simp
        apply Exists.intro; apply And.intro; (focus (intro wk hk; have cc : wk.cell? ⟨w.heap.size, 2, none⟩ = some (.slice (some ⟨gx, ox, none⟩) m nc) := ((K6.Row.tr r1 hk.undrew id).cell 2).trans x2; go_simp; exact ⟨rfl, rfl⟩)); refine hK _ _ ?_; clear hK K
        refine stepK rfl (by kernel_rfl) (fun K hK => ?_); go_simp
        apply Exists.intro; apply And.intro; (focus (intro wk hk; go_simp; exact ⟨rfl, rfl⟩)); refine hK _ _ ?_; clear hK K
        refine stepK rfl (by kernel_rfl) (fun K hK => ?_); go_simp
        apply Exists.intro; apply And.intro; (focus (intro wk hk; go_simp; exact ⟨rfl, rfl⟩)); refine hK _ _ ?_; clear hK K
        refine stepK rfl (by kernel_rfl) (fun K hK => ?_); go_simp
        apply Exists.intro; apply And.intro; (focus (intro wk hk; have cc : wk.cell? ⟨gx, ox + i, none⟩ = some (.int .i64 x) := (World.cell?_of_block (hk.undrew.below.block _ hgx)).trans cx0; go_simp; exact ⟨rfl, rfl⟩)); refine hK _ _ ?_; clear hK K
        refine stepS _ rfl (by kernel_rfl) (fun K hK => ?_); go_simp
        refine ⟨?_, ?_⟩
        · intro wk hk hg hu; go_simp; refine upon_enter ((kx.out _).mono ?_); rintro e w' ⟨rfl, hb⟩; exact ⟨_, rfl, left_V (p := fun u => u = .bool true) rfl (hb) rfl⟩
        rintro ⟨v5, lo5, hi5⟩ - - (rfl : v5 = _)
        refine hK _ _ ?_; clear hK K
        refine stepK rfl (by kernel_rfl) (fun K hK => ?_); go_simp
        apply Exists.intro; apply And.intro; (focus (intro wk hk; go_simp; exact ⟨rfl, rfl⟩)); refine hK _ _ ?_; clear hK K
        refine stepK rfl (by kernel_rfl) (fun K hK => ?_); go_simp
        apply Exists.intro; apply And.intro; (focus (intro wk hk; go_simp; exact ⟨rfl, rfl⟩)); refine hK _ _ ?_; clear hK K
        refine stepK rfl (by kernel_rfl) (fun K hK => ?_); go_simp
        first | (refine hK _ _ ?_; clear hK K) | (apply Exists.intro; apply And.intro; (focus (intro wk hk; go_simp; exact ⟨rfl, rfl⟩)); refine hK _ _ ?_; clear hK K)
        refine stepK rfl (by kernel_rfl) (fun K hK => ?_); go_simp
        first | (refine hK _ _ ?_; clear hK K) | (apply Exists.intro; apply And.intro; (focus (intro wk hk; go_simp; exact ⟨rfl, rfl⟩)); refine hK _ _ ?_; clear hK K)
        refine stepK rfl (by kernel_rfl) (fun K hK => ?_); go_simp
        first | (refine hK _ _ ?_; clear hK K) | (apply Exists.intro; apply And.intro; (focus (intro wk hk; have cc : wk.cell? ⟨lo6, 0, none⟩ = some (.int .i64 sn) := (K6.Row.tr r3 hk.undrew id).cell 0; go_simp; exact ⟨rfl, rfl⟩)); refine hK _ _ ?_; clear hK K)
        refine stepK rfl (by kernel_rfl) (fun K hK => ?_); go_simp
        first | (refine hK _ _ ?_; clear hK K) | (apply Exists.intro; apply And.intro; (focus (intro wk hk; go_simp; exact ⟨rfl, rfl⟩)); refine hK _ _ ?_; clear hK K)
        refine stepK rfl (by kernel_rfl) (fun K hK => ?_); go_simp
        first | (refine hK _ _ ?_; clear hK K) | (apply Exists.intro; apply And.intro; (focus (intro wk hk; go_simp; exact ⟨rfl, rfl⟩)); refine hK _ _ ?_; clear hK K)
        refine stepK rfl (by kernel_rfl) (fun K hK => ?_); go_simp
        first | (refine hK _ _ ?_; clear hK K) | (apply Exists.intro; apply And.intro; (focus (intro wk hk; go_simp; exact ⟨rfl, rfl⟩)); refine hK _ _ ?_; clear hK K)
        refine stepK rfl (by kernel_rfl) (fun K hK => ?_); go_simp
        first | (refine hK _ _ ?_; clear hK K) | (apply Exists.intro; apply And.intro; (focus (intro wk hk; have cc : wk.cell? ⟨w.heap.size, 2, none⟩ = some (.slice (some ⟨gx, ox, none⟩) m nc) := ((K6.Row.tr r1 hk.undrew id).cell 2).trans x2; go_simp; exact ⟨rfl, rfl⟩)); refine hK _ _ ?_; clear hK K)
        refine stepK rfl (by kernel_rfl) (fun K hK => ?_); go_simp
        first | (refine hK _ _ ?_; clear hK K) | (apply Exists.intro; apply And.intro; (focus (intro wk hk; go_simp; exact ⟨rfl, rfl⟩)); refine hK _ _ ?_; clear hK K)
        refine stepK rfl (by kernel_rfl) (fun K hK => ?_); go_simp
        first | (refine hK _ _ ?_; clear hK K) | (apply Exists.intro; apply And.intro; (focus (intro wk hk; go_simp; exact ⟨rfl, rfl⟩)); refine hK _ _ ?_; clear hK K)
        refine stepK rfl (by kernel_rfl) (fun K hK => ?_); go_simp
        first | (refine hK _ _ ?_; clear hK K) | (apply Exists.intro; apply And.intro; (focus (intro wk hk; have cc : wk.cell? ⟨gx, ox + i, none⟩ = some (.int .i64 x) := (World.cell?_of_block (hk.undrew.below.block _ hgx)).trans cx0; go_simp; exact ⟨rfl, rfl⟩)); refine hK _ _ ?_; clear hK K)
        refine stepK rfl (by kernel_rfl) (fun K hK => ?_); go_simp
        first | (refine hK _ _ ?_; clear hK K) | (apply Exists.intro; apply And.intro; (focus (intro wk hk; go_simp; exact ⟨rfl, rfl⟩)); refine hK _ _ ?_; clear hK K)
        refine stepK rfl (by kernel_rfl) (fun K hK => ?_); go_simp
        first | (refine hK _ _ ?_; clear hK K) | (apply Exists.intro; apply And.intro; (focus (intro wk hk; have cc : wk.cell? ⟨w.heap.size, 2, none⟩ = some (.slice (some ⟨gx, ox, none⟩) m nc) := ((K6.Row.tr r1 hk.undrew id).cell 2).trans x2; go_simp; exact ⟨rfl, rfl⟩)); refine hK _ _ ?_; clear hK K)
        refine stepK rfl (by kernel_rfl) (fun K hK => ?_); go_simp
        first | (refine hK _ _ ?_; clear hK K) | (apply Exists.intro; apply And.intro; (focus (intro wk hk; go_simp; exact ⟨rfl, rfl⟩)); refine hK _ _ ?_; clear hK K)
        refine stepK rfl (by kernel_rfl) (fun K hK => ?_); go_simp
        first | (refine hK _ _ ?_; clear hK K) | (apply Exists.intro; apply And.intro; (focus (intro wk hk; go_simp; exact ⟨rfl, rfl⟩)); refine hK _ _ ?_; clear hK K)
        refine stepK rfl (by kernel_rfl) (fun K hK => ?_); go_simp
        first | (refine hK _ _ ?_; clear hK K) | (apply Exists.intro; apply And.intro; (focus (intro wk hk; go_simp; exact ⟨rfl, rfl⟩)); refine hK _ _ ?_; clear hK K)
        refine stepK rfl (by kernel_rfl) (fun K hK => ?_); go_simp
        first | (refine hK _ _ ?_; clear hK K) | (apply Exists.intro; apply And.intro; (focus (intro wk hk; have cc : wk.cell? ⟨gx, ox + k, none⟩ = some (.int .i64 y) := (World.cell?_of_block (hk.undrew.below.block _ hgx)).trans cy0; go_simp; exact ⟨rfl, rfl⟩)); refine hK _ _ ?_; clear hK K)
        refine stepK rfl (by kernel_rfl) (fun K hK => ?_); go_simp
        first | (refine hK _ _ ?_; clear hK K) | (apply Exists.intro; apply And.intro; (focus (intro wk hk; go_simp; exact ⟨rfl, rfl⟩)); refine hK _ _ ?_; clear hK K)
        refine stepK rfl (by kernel_rfl) (fun K hK => ?_); go_simp
        first | (refine hK _ _ ?_; clear hK K) | (apply Exists.intro; apply And.intro; (focus (intro wk hk; go_simp; exact ⟨rfl, rfl⟩)); refine hK _ _ ?_; clear hK K)
        refine stepK rfl (by kernel_rfl) (fun K hK => ?_); go_simp
        apply Exists.intro; apply And.intro; (focus (intro wk hk; go_simp; exact ⟨rfl, rfl⟩)); refine hK _ _ ?_; clear hK K
        refine stepN ?_
        refine hQ _ _ ?_
        intro w4 hT hG hF
        have hb4 := hT.undrew.below
        have H4 := Lib.hid (show Below w.heap.size w w4 ∧ Row w4 w.heap.size 116 ct ∧ Row w4 lo6 107 (#[.int .i64 sn, .bool st, .int .i64 sa, .bool se, .int .i64 sh, .bool sc]) from ⟨hl.trans (hb4.mono hl.size), r1.below hb4 r1.lt, r3.below hb4 r3.lt⟩)
        clear hT hG hF hQ QQ L hl r1 r3 hb4 kx cx0
        go_wp2_with fail
        go_roundg (gk - 1)
        case measure => omega
        case rel => exact ⟨i + 1, by omega, by go_num, hnext, H4⟩
    · obtain rfl : i = m := by omega
      have hlt : ¬ (i : Int) < (i : Int) := by omega
      have hbt : b3 = true := by rw [← HN.out.2.2.1]; exact nums_yes (fun j hj => hall.out j (by have := HN.out.2.1; omega))
      subst hbt
      have d3 := (hinv.out.2.1.cell 3).trans x3
      clear hall HN
      go_wp2_with fail
      refine (kA.out _ hinv.out.1).mono ?_
      rintro e w3 ⟨rfl, hb⟩
      have H3 := Lib.hid (show Below w.heap.size w w3 ∧ Row w3 w.heap.size 116 ct ∧ Row w3 lo6 107 (#[.int .i64 sn, .bool st, .int .i64 sa, .bool se, .int .i64 sh, .bool sc]) from ⟨hinv.out.1.trans (hb.mono hinv.out.1.size), hinv.out.2.1.below hb hinv.out.2.1.lt, hinv.out.2.2.below hb hinv.out.2.2.lt⟩)
      clear kA hb hinv d3
      cases b4
      · clear kG kS
        go_wp2_with fail
        go_ret
        exact ⟨rfl, H3.out.1⟩
      have e5 := H3.out.2.2.cell 5
      cases sc
      · have hbx' : b6 = bx := by have h := hbx.out; simpa using h
        subst hbx'
        clear hbx
        go_upto_region 14 with (fail)
        have hl := H3.out.1
        have r1 := H3.out.2.1
        clear H3 e5 kG
        let L : List Sp := [sV 3 [] [] (fun u => u = .bool b6)]
        refine wp_region_six0 (shs L) (look6 L) (None_) (by kernel_rfl) (by kernel_rfl) (mk_St L [] [] (by kernel_rfl) (by kernel_rfl) ⟨ok_V ⟨_, rfl⟩, trivial⟩ (by simp)) ?_
        intro QQ hQ
        refine stepK rfl (by kernel_rfl) (fun K hK => ?_); go_simp
        apply Exists.intro; apply And.intro; (focus (intro wk hk; go_simp; exact ⟨rfl, rfl⟩)); refine hK _ _ ?_; clear hK K
        refine stepK rfl (by kernel_rfl) (fun K hK => ?_); go_simp
        apply Exists.intro; apply And.intro; (focus exact kLoadMid rfl rfl aggT114 r1 hmid hcsz id); refine hK _ _ ?_; clear hK K
        refine stepK rfl (by kernel_rfl) (fun K hK => ?_); go_simp
        apply Exists.intro; apply And.intro; (focus (intro wk hk; go_simp; exact ⟨rfl, rfl⟩)); refine hK _ _ ?_; clear hK K
        refine stepS _ rfl (by kernel_rfl) (fun K hK => ?_); go_simp
        refine ⟨?_, ?_⟩
        · intro wk hk hg hu; go_simp; refine upon_enter ((kS.out _ (hl.trans (hk.below.mono hl.size))).mono ?_); rintro e w' ⟨rfl, hb⟩; exact ⟨_, rfl, left_V (p := fun u => u = .bool b6) rfl (hb) rfl⟩
        rintro ⟨v3, lo3, hi3⟩ - - (rfl : v3 = _)
        refine hK _ _ ?_; clear hK K
        refine stepK rfl (by kernel_rfl) (fun K hK => ?_); go_simp
        apply Exists.intro; apply And.intro; (focus (intro wk hk; go_simp; exact ⟨rfl, rfl⟩)); refine hK _ _ ?_; clear hK K
        refine stepN ?_
        refine hQ _ _ ?_
        intro w9 hT hG hF
        have H9 := Lib.hid (hl.trans (hT.below.mono hl.size))
        clear hT hG hF hQ QQ L hl r1
        go_wp2_with fail
        go_ret
        exact ⟨by first | rfl | (simp; done), H9.out⟩
      · have hbx' : b5 = bx := by have h := hbx.out; simpa using h
        subst hbx'
        clear hbx
        go_upto_region 13 with (fail)
        have hl := H3.out.1
        have r1 := H3.out.2.1
        clear H3 e5 kS
        let L : List Sp := [sV 2 [] [] (fun u => u = .bool b5)]
        refine wp_region_six0 (shs L) (look6 L) (None_) (by kernel_rfl) (by kernel_rfl) (mk_St L [] [] (by kernel_rfl) (by kernel_rfl) ⟨ok_V ⟨_, rfl⟩, trivial⟩ (by simp)) ?_
        intro QQ hQ
        refine stepK rfl (by kernel_rfl) (fun K hK => ?_); go_simp
        apply Exists.intro; apply And.intro; (focus (intro wk hk; go_simp; exact ⟨rfl, rfl⟩)); refine hK _ _ ?_; clear hK K
        refine stepK rfl (by kernel_rfl) (fun K hK => ?_); go_simp
        apply Exists.intro; apply And.intro; (focus exact kLoadMid rfl rfl aggT114 r1 hmid hcsz id); refine hK _ _ ?_; clear hK K
        refine stepS _ rfl (by kernel_rfl) (fun K hK => ?_); go_simp
        refine ⟨?_, ?_⟩
        · intro wk hk hg hu; go_simp; refine upon_enter ((kG.out _ (hl.trans (hk.below.mono hl.size))).mono ?_); rintro e w' ⟨rfl, hb⟩; exact ⟨_, rfl, left_V (p := fun u => u = .bool b5) rfl (hb) rfl⟩
        rintro ⟨v2, lo2, hi2⟩ - - (rfl : v2 = _)
        refine hK _ _ ?_; clear hK K
        refine stepK rfl (by kernel_rfl) (fun K hK => ?_); go_simp
        apply Exists.intro; apply And.intro; (focus (intro wk hk; go_simp; exact ⟨rfl, rfl⟩)); refine hK _ _ ?_; clear hK K
        refine stepN ?_
        refine hQ _ _ ?_
        intro w9 hT hG hF
        have H9 := Lib.hid (hl.trans (hT.below.mono hl.size))
        clear hT hG hF hQ QQ L hl r1
        go_wp2_with fail
        go_ret
        exact ⟨by first | rfl | (simp; done), H9.out⟩
end Go.Proofs.Ytpdenhmkpiafiaa
namespace Go.Proofs.Ytpdenhmkpiafiaa
open Go Go.RowKit K6
def Ev.key (e : Ev) : Int × List Nat := (e.k, e.l)
theorem take_app_eq {α : Type} {l k : List α} {i : Nat} {x y : α} (hx : l[i]? = some x) (hy : k[i]? = some y) (h : l.take i = k.take i) (hxy : x = y) : l.take (i + 1) = k.take (i + 1) := by
  rw [List.take_add_one, List.take_add_one, hx, hy, h, hxy]
theorem get_ne {α : Type} {l k : List α} {i : Nat} {x y : α} (hx : l[i]? = some x) (hy : k[i]? = some y) (hxy : x ≠ y) : l ≠ k := fun h => hxy (by rw [h, hy] at hx; exact (Option.some.inj hx).symm)
set_option maxRecDepth 100000 in
set_option maxHeartbeats 16000000 in
theorem usEq_at (u v : Value) (l k : List Nat) (w : World) (hu : Us w u l) (hv : Us w v k) (hlM : ∀ a ∈ l, a < M) (hkM : ∀ a ∈ k, a < M) (hL : l.length ≤ 140737488355328) :
    Calls Try.prog 191 #[u, v] w fun r w' => r = .returned (.bool (decide (l = k))) ∧ Below w.heap.size w w' := by
  have HU := Lib.hid (show _ ∧ _ from ⟨hu, hlM⟩)
  have HV := Lib.hid (show _ ∧ _ from ⟨hv, hkM⟩)
  obtain ⟨q1, c1, rfl, -, -⟩ := hu
  obtain ⟨q2, c2, rfl, -, -⟩ := hv
  obtain ⟨n1, hn1⟩ : ∃ n, l.length = n := ⟨_, rfl⟩
  obtain ⟨n2, hn2⟩ : ∃ n, k.length = n := ⟨_, rfl⟩
  rw [hn1] at HU hL
  rw [hn2] at HV
  obtain ⟨b, hb⟩ : ∃ b, decide (l = k) = b := ⟨_, rfl⟩
  rw [hb, hn1, hn2]
  have HB := Lib.hid (show _ ∧ _ ∧ _ from ⟨hb, hn1, hn2⟩)
  have hni : (n1 : Int) ≤ 140737488355328 := by omega
  clear hlM hkM hb hn1 hn2 hL
  by_cases hne : n1 = n2
  · subst hne
    go_enter Try.func191, Try.ntmps191
    go_wp2_with fail
    go_loopg [5, 13] n1 (fun gg s5 s13 wr => ∃ i : Nat, i + gg = n1 ∧ s13 = .int .i64 (i : Int) ∧ Hid (l.take i = k.take i) ∧ Hid (Below w.heap.size w wr))
    case atStart => exact ⟨0, by omega, rfl, Lib.hid (by rw [List.take_zero, List.take_zero]), Lib.hid (Below.refl _ _)⟩
    case round =>
      obtain ⟨i, him, rfl, heq, hinv⟩ := hrel
      by_cases hi : i < n1
      · obtain ⟨x, hx⟩ : ∃ x, l[i]? = some x := ⟨_, List.getElem?_eq_getElem (by have := HB.out.2.1; omega)⟩
        obtain ⟨y, hy⟩ : ∃ y, k[i]? = some y := ⟨_, List.getElem?_eq_getElem (by have := HB.out.2.2; omega)⟩
        have hxM := HU.out.2 x (List.mem_of_getElem? hx)
        have hyM := HV.out.2 y (List.mem_of_getElem? hy)
        obtain ⟨gx, ox, cx', hu, hgx, hcx⟩ := (HU.out.1.below hinv.out).elem hx
        simp only [Value.slice.injEq] at hu
        obtain ⟨rfl, -, -⟩ := hu
        obtain ⟨gy, oy, cy', hu, hgy, hcy⟩ := (HV.out.1.below hinv.out).elem hy
        simp only [Value.slice.injEq] at hu
        obtain ⟨rfl, -, -⟩ := hu
        have HX := Lib.hid (show _ ∧ _ from ⟨hx, hy⟩)
        clear hx hy
        have hlt : (i : Int) < (n1 : Int) := by omega
        by_cases hxy : x = y
        · subst hxy
          have q1 : ∀ wx, (Op.equalIn 10000 31 (.agg (W4 x)) (.agg (W4 x))).run Try.prog wx = .ok true wx := fun wx => by rw [eqU hxM hyM, decide_eq_true rfl]
          have hnext := Lib.hid (take_app_eq HX.out.1 HX.out.2 heq.out rfl)
          clear hxM hyM HX heq
          go_upto_region 6 with (fail)
          let L : List Sp := []
          refine wp_region_six (shs L) (look6 L) (None_) (by kernel_rfl) (by kernel_rfl) (mk_St L [] [] (by kernel_rfl) (by kernel_rfl) trivial (by simp)) ?_
          intro QQ hQ
          refine stepK rfl (by kernel_rfl) (fun K hK => ?_); go_simp
          apply Exists.intro; apply And.intro; (focus (intro wk hk; go_simp; exact ⟨rfl, rfl⟩)); refine hK _ _ ?_; clear hK K
          refine stepK rfl (by kernel_rfl) (fun K hK => ?_); go_simp
          apply Exists.intro; apply And.intro; (focus (intro wk hk; go_simp; exact ⟨rfl, rfl⟩)); refine hK _ _ ?_; clear hK K
          refine stepK rfl (by kernel_rfl) (fun K hK => ?_); go_simp
          apply Exists.intro; apply And.intro; (focus (intro wk hk; go_simp; exact ⟨rfl, rfl⟩)); refine hK _ _ ?_; clear hK K
          refine stepK rfl (by kernel_rfl) (fun K hK => ?_); go_simp
          apply Exists.intro; apply And.intro; (focus exact kLoadA rfl rfl aggT31 hcx rfl hgx id); refine hK _ _ ?_; clear hK K
          refine stepK rfl (by kernel_rfl) (fun K hK => ?_); go_simp
          apply Exists.intro; apply And.intro; (focus (intro wk hk; go_simp; exact ⟨rfl, rfl⟩)); refine hK _ _ ?_; clear hK K
          refine stepK rfl (by kernel_rfl) (fun K hK => ?_); go_simp
          apply Exists.intro; apply And.intro; (focus (intro wk hk; go_simp; exact ⟨rfl, rfl⟩)); refine hK _ _ ?_; clear hK K
          refine stepK rfl (by kernel_rfl) (fun K hK => ?_); go_simp
          apply Exists.intro; apply And.intro; (focus (intro wk hk; go_simp; exact ⟨rfl, rfl⟩)); refine hK _ _ ?_; clear hK K
          refine stepK rfl (by kernel_rfl) (fun K hK => ?_); go_simp
          apply Exists.intro; apply And.intro; (focus exact kLoadA rfl rfl aggT31 hcy rfl hgy id); refine hK _ _ ?_; clear hK K
          refine stepK rfl (by kernel_rfl) (fun K hK => ?_); go_simp
          apply Exists.intro; apply And.intro; (focus (intro wk hk; go_simp; exact ⟨rfl, rfl⟩)); refine hK _ _ ?_; clear hK K
          refine stepN ?_
          refine hQ _ _ ?_
          intro w1 hT hG hF
          have hl1 := Lib.hid (hinv.out.trans (hT.undrew.below.mono hinv.out.size))
          clear hT hG hF hQ QQ L hcx hcy hinv q1
          go_wp2_with fail
          go_roundg (gk - 1)
          case measure => omega
          case rel => exact ⟨i + 1, by omega, by go_num, hnext, hl1⟩
        · have q1 : ∀ wx, (Op.equalIn 10000 31 (.agg (W4 x)) (.agg (W4 y))).run Try.prog wx = .ok false wx := fun wx => by rw [eqU hxM hyM, decide_eq_false hxy]
          have hbf : b = false := by rw [← HB.out.1]; exact decide_eq_false (get_ne HX.out.1 HX.out.2 hxy)
          subst hbf
          clear hxM hyM HX heq hxy
          go_upto_region 6 with (fail)
          let L : List Sp := []
          refine wp_region_six (shs L) (look6 L) (None_) (by kernel_rfl) (by kernel_rfl) (mk_St L [] [] (by kernel_rfl) (by kernel_rfl) trivial (by simp)) ?_
          intro QQ hQ
          refine stepK rfl (by kernel_rfl) (fun K hK => ?_); go_simp
          apply Exists.intro; apply And.intro; (focus (intro wk hk; go_simp; exact ⟨rfl, rfl⟩)); refine hK _ _ ?_; clear hK K
          refine stepK rfl (by kernel_rfl) (fun K hK => ?_); go_simp
          apply Exists.intro; apply And.intro; (focus (intro wk hk; go_simp; exact ⟨rfl, rfl⟩)); refine hK _ _ ?_; clear hK K
          refine stepK rfl (by kernel_rfl) (fun K hK => ?_); go_simp
          apply Exists.intro; apply And.intro; (focus (intro wk hk; go_simp; exact ⟨rfl, rfl⟩)); refine hK _ _ ?_; clear hK K
          refine stepK rfl (by kernel_rfl) (fun K hK => ?_); go_simp
          apply Exists.intro; apply And.intro; (focus exact kLoadA rfl rfl aggT31 hcx rfl hgx id); refine hK _ _ ?_; clear hK K
          refine stepK rfl (by kernel_rfl) (fun K hK => ?_); go_simp
          apply Exists.intro; apply And.intro; (focus (intro wk hk; go_simp; exact ⟨rfl, rfl⟩)); refine hK _ _ ?_; clear hK K
          refine stepK rfl (by kernel_rfl) (fun K hK => ?_); go_simp
          apply Exists.intro; apply And.intro; (focus (intro wk hk; go_simp; exact ⟨rfl, rfl⟩)); refine hK _ _ ?_; clear hK K
          refine stepK rfl (by kernel_rfl) (fun K hK => ?_); go_simp
          apply Exists.intro; apply And.intro; (focus (intro wk hk; go_simp; exact ⟨rfl, rfl⟩)); refine hK _ _ ?_; clear hK K
          refine stepK rfl (by kernel_rfl) (fun K hK => ?_); go_simp
          apply Exists.intro; apply And.intro; (focus exact kLoadA rfl rfl aggT31 hcy rfl hgy id); refine hK _ _ ?_; clear hK K
          refine stepK rfl (by kernel_rfl) (fun K hK => ?_); go_simp
          apply Exists.intro; apply And.intro; (focus (intro wk hk; go_simp; exact ⟨rfl, rfl⟩)); refine hK _ _ ?_; clear hK K
          refine stepN ?_
          refine hQ _ _ ?_
          intro w1 hT hG hF
          have hl1 := Lib.hid (hinv.out.trans (hT.undrew.below.mono hinv.out.size))
          clear hT hG hF hQ QQ L hcx hcy hinv q1
          go_wp2_with fail
          go_ret
          exact ⟨rfl, hl1.out⟩
      · obtain rfl : i = n1 := by omega
        have hlt : ¬ (i : Int) < (i : Int) := by omega
        have hbt : b = true := by
          rw [← HB.out.1]
          have h := heq.out
          rw [List.take_of_length_le (by have := HB.out.2.1; omega), List.take_of_length_le (by have := HB.out.2.2; omega)] at h
          exact decide_eq_true h
        subst hbt
        clear heq
        go_wp2_with fail
        go_ret
        exact ⟨rfl, hinv.out⟩
  · have hd : ¬ (n1 : Int) = (n2 : Int) := by omega
    have hbf : b = false := by rw [← HB.out.1]; exact decide_eq_false (fun h => hne (by rw [← HB.out.2.1, ← HB.out.2.2, h]))
    subst hbf
    clear hne
    go_enter Try.func191, Try.ntmps191
    go_wp2_with fail
    go_ret
    exact ⟨rfl, Below.refl _ _⟩
set_option maxRecDepth 100000 in
set_option maxHeartbeats 16000000 in
theorem usRef_at (u v : Value) (l k : List Nat) (w : World) (hu : Us w u l) (hv : Us w v k) (hlM : ∀ a ∈ l, a < M) (hkM : ∀ a ∈ k, a < M) (hL : l.length ≤ 140737488355328) :
    Calls Try.prog 192 #[u, v] w fun r w' => r = .returned (.bool (decide (l = k))) ∧ Below w.heap.size w w' := by
  have HU := Lib.hid (show _ ∧ _ from ⟨hu, hlM⟩)
  have HV := Lib.hid (show _ ∧ _ from ⟨hv, hkM⟩)
  obtain ⟨q1, c1, rfl, -, -⟩ := hu
  obtain ⟨q2, c2, rfl, -, -⟩ := hv
  obtain ⟨n1, hn1⟩ : ∃ n, l.length = n := ⟨_, rfl⟩
  obtain ⟨n2, hn2⟩ : ∃ n, k.length = n := ⟨_, rfl⟩
  rw [hn1] at HU hL
  rw [hn2] at HV
  obtain ⟨b, hb⟩ : ∃ b, decide (l = k) = b := ⟨_, rfl⟩
  rw [hb, hn1, hn2]
  have HB := Lib.hid (show _ ∧ _ ∧ _ from ⟨hb, hn1, hn2⟩)
  have hni : (n1 : Int) ≤ 140737488355328 := by omega
  clear hlM hkM hb hn1 hn2 hL
  by_cases hne : n1 = n2
  · subst hne
    go_enter Try.func192, Try.ntmps192
    go_wp2_with fail
    go_loopg [5, 13] n1 (fun gg s5 s13 wr => ∃ i : Nat, i + gg = n1 ∧ s13 = .int .i64 (i : Int) ∧ Hid (l.take i = k.take i) ∧ Hid (Below w.heap.size w wr))
    case atStart => exact ⟨0, by omega, rfl, Lib.hid (by rw [List.take_zero, List.take_zero]), Lib.hid (Below.refl _ _)⟩
    case round =>
      obtain ⟨i, him, rfl, heq, hinv⟩ := hrel
      by_cases hi : i < n1
      · obtain ⟨x, hx⟩ : ∃ x, l[i]? = some x := ⟨_, List.getElem?_eq_getElem (by have := HB.out.2.1; omega)⟩
        obtain ⟨y, hy⟩ : ∃ y, k[i]? = some y := ⟨_, List.getElem?_eq_getElem (by have := HB.out.2.2; omega)⟩
        have hxM := HU.out.2 x (List.mem_of_getElem? hx)
        have hyM := HV.out.2 y (List.mem_of_getElem? hy)
        obtain ⟨gx, ox, cx', hu, hgx, hcx⟩ := (HU.out.1.below hinv.out).elem hx
        simp only [Value.slice.injEq] at hu
        obtain ⟨rfl, -, -⟩ := hu
        obtain ⟨gy, oy, cy', hu, hgy, hcy⟩ := (HV.out.1.below hinv.out).elem hy
        simp only [Value.slice.injEq] at hu
        obtain ⟨rfl, -, -⟩ := hu
        have HX := Lib.hid (show _ ∧ _ from ⟨hx, hy⟩)
        clear hx hy
        have hlt : (i : Int) < (n1 : Int) := by omega
        by_cases hxy : x = y
        · subst hxy
          have q1 : ∀ wx, (Op.equalIn 10000 31 (.agg (W4 x)) (.agg (W4 x))).run Try.prog wx = .ok true wx := fun wx => by rw [eqU hxM hyM, decide_eq_true rfl]
          have hnext := Lib.hid (take_app_eq HX.out.1 HX.out.2 heq.out rfl)
          clear hxM hyM HX heq
          go_upto_region 6 with (fail)
          let L : List Sp := []
          refine wp_region_six (shs L) (look6 L) (None_) (by kernel_rfl) (by kernel_rfl) (mk_St L [] [] (by kernel_rfl) (by kernel_rfl) trivial (by simp)) ?_
          intro QQ hQ
          refine stepK rfl (by kernel_rfl) (fun K hK => ?_); go_simp
          apply Exists.intro; apply And.intro; (focus (intro wk hk; go_simp; exact ⟨rfl, rfl⟩)); refine hK _ _ ?_; clear hK K
          refine stepK rfl (by kernel_rfl) (fun K hK => ?_); go_simp
          apply Exists.intro; apply And.intro; (focus (intro wk hk; go_simp; exact ⟨rfl, rfl⟩)); refine hK _ _ ?_; clear hK K
          refine stepK rfl (by kernel_rfl) (fun K hK => ?_); go_simp
          apply Exists.intro; apply And.intro; (focus (intro wk hk; go_simp; exact ⟨rfl, rfl⟩)); refine hK _ _ ?_; clear hK K
          refine stepK rfl (by kernel_rfl) (fun K hK => ?_); go_simp
          apply Exists.intro; apply And.intro; (focus exact kLoadA rfl rfl aggT31 hcx rfl hgx id); refine hK _ _ ?_; clear hK K
          refine stepK rfl (by kernel_rfl) (fun K hK => ?_); go_simp
          apply Exists.intro; apply And.intro; (focus (intro wk hk; go_simp; exact ⟨rfl, rfl⟩)); refine hK _ _ ?_; clear hK K
          refine stepK rfl (by kernel_rfl) (fun K hK => ?_); go_simp
          apply Exists.intro; apply And.intro; (focus (intro wk hk; go_simp; exact ⟨rfl, rfl⟩)); refine hK _ _ ?_; clear hK K
          refine stepK rfl (by kernel_rfl) (fun K hK => ?_); go_simp
          apply Exists.intro; apply And.intro; (focus (intro wk hk; go_simp; exact ⟨rfl, rfl⟩)); refine hK _ _ ?_; clear hK K
          refine stepK rfl (by kernel_rfl) (fun K hK => ?_); go_simp
          apply Exists.intro; apply And.intro; (focus exact kLoadA rfl rfl aggT31 hcy rfl hgy id); refine hK _ _ ?_; clear hK K
          refine stepK rfl (by kernel_rfl) (fun K hK => ?_); go_simp
          apply Exists.intro; apply And.intro; (focus (intro wk hk; go_simp; exact ⟨rfl, rfl⟩)); refine hK _ _ ?_; clear hK K
          refine stepN ?_
          refine hQ _ _ ?_
          intro w1 hT hG hF
          have hl1 := Lib.hid (hinv.out.trans (hT.undrew.below.mono hinv.out.size))
          clear hT hG hF hQ QQ L hcx hcy hinv q1
          go_wp2_with fail
          go_roundg (gk - 1)
          case measure => omega
          case rel => exact ⟨i + 1, by omega, by go_num, hnext, hl1⟩
        · have q1 : ∀ wx, (Op.equalIn 10000 31 (.agg (W4 x)) (.agg (W4 y))).run Try.prog wx = .ok false wx := fun wx => by rw [eqU hxM hyM, decide_eq_false hxy]
          have hbf : b = false := by rw [← HB.out.1]; exact decide_eq_false (get_ne HX.out.1 HX.out.2 hxy)
          subst hbf
          clear hxM hyM HX heq hxy
          go_upto_region 6 with (fail)
          let L : List Sp := []
          refine wp_region_six (shs L) (look6 L) (None_) (by kernel_rfl) (by kernel_rfl) (mk_St L [] [] (by kernel_rfl) (by kernel_rfl) trivial (by simp)) ?_
          intro QQ hQ
          refine stepK rfl (by kernel_rfl) (fun K hK => ?_); go_simp
          apply Exists.intro; apply And.intro; (focus (intro wk hk; go_simp; exact ⟨rfl, rfl⟩)); refine hK _ _ ?_; clear hK K
          refine stepK rfl (by kernel_rfl) (fun K hK => ?_); go_simp
          apply Exists.intro; apply And.intro; (focus (intro wk hk; go_simp; exact ⟨rfl, rfl⟩)); refine hK _ _ ?_; clear hK K
          refine stepK rfl (by kernel_rfl) (fun K hK => ?_); go_simp
          apply Exists.intro; apply And.intro; (focus (intro wk hk; go_simp; exact ⟨rfl, rfl⟩)); refine hK _ _ ?_; clear hK K
          refine stepK rfl (by kernel_rfl) (fun K hK => ?_); go_simp
          apply Exists.intro; apply And.intro; (focus exact kLoadA rfl rfl aggT31 hcx rfl hgx id); refine hK _ _ ?_; clear hK K
          refine stepK rfl (by kernel_rfl) (fun K hK => ?_); go_simp
          apply Exists.intro; apply And.intro; (focus (intro wk hk; go_simp; exact ⟨rfl, rfl⟩)); refine hK _ _ ?_; clear hK K
          refine stepK rfl (by kernel_rfl) (fun K hK => ?_); go_simp
          apply Exists.intro; apply And.intro; (focus (intro wk hk; go_simp; exact ⟨rfl, rfl⟩)); refine hK _ _ ?_; clear hK K
          refine stepK rfl (by kernel_rfl) (fun K hK => ?_); go_simp
          apply Exists.intro; apply And.intro; (focus (intro wk hk; go_simp; exact ⟨rfl, rfl⟩)); refine hK _ _ ?_; clear hK K
          refine stepK rfl (by kernel_rfl) (fun K hK => ?_); go_simp
          apply Exists.intro; apply And.intro; (focus exact kLoadA rfl rfl aggT31 hcy rfl hgy id); refine hK _ _ ?_; clear hK K
          refine stepK rfl (by kernel_rfl) (fun K hK => ?_); go_simp
          apply Exists.intro; apply And.intro; (focus (intro wk hk; go_simp; exact ⟨rfl, rfl⟩)); refine hK _ _ ?_; clear hK K
          refine stepN ?_
          refine hQ _ _ ?_
          intro w1 hT hG hF
          have hl1 := Lib.hid (hinv.out.trans (hT.undrew.below.mono hinv.out.size))
          clear hT hG hF hQ QQ L hcx hcy hinv q1
          go_wp2_with fail
          go_ret
          exact ⟨rfl, hl1.out⟩
      · obtain rfl : i = n1 := by omega
        have hlt : ¬ (i : Int) < (i : Int) := by omega
        have hbt : b = true := by
          rw [← HB.out.1]
          have h := heq.out
          rw [List.take_of_length_le (by have := HB.out.2.1; omega), List.take_of_length_le (by have := HB.out.2.2; omega)] at h
          exact decide_eq_true h
        subst hbt
        clear heq
        go_wp2_with fail
        go_ret
        exact ⟨rfl, hinv.out⟩
  · have hd : ¬ (n1 : Int) = (n2 : Int) := by omega
    have hbf : b = false := by rw [← HB.out.1]; exact decide_eq_false (fun h => hne (by rw [← HB.out.2.1, ← HB.out.2.2, h]))
    subst hbf
    clear hne
    go_enter Try.func192, Try.ntmps192
    go_wp2_with fail
    go_ret
    exact ⟨rfl, Below.refl _ _⟩
end Go.Proofs.Ytpdenhmkpiafiaa
