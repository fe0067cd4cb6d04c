/-
  tallagelaw14.EventBack, THE WALK.
-/
import Derived.Test.YtpdenhmkpiafiaaEvParse
import Derived.Test.YtpdenhmkpiafiaaEvText
import Derived.Test.YtpdenhmkpiafiaaEvPut
import Derived.Test.YtpdenhmkpiafiaaEvSame
namespace Go.Proofs.Ytpdenhmkpiafiaa
open Go Go.RowKit K6

/-! ### the plain law -/
def toX (e : Ev) : EvX := (e.k.toNat, e.l)
theorem evB_X (e : Ev) : evB e = evX (toX e) := rfl
theorem putB_X (E : List Ev) : putB E = putX (E.map toX) := by
  unfold putB putX
  rw [List.length_map]
  congr 1
  induction E with
  | nil => rfl
  | cons e E ih => rw [List.flatMap_cons, List.map_cons, List.flatMap_cons, ih, evB_X]
theorem key_X {e : Ev} (h : okE e = true) : keyX (toX e) = e.key := by
  have := ((okE_is e).1 h).1
  unfold keyX toX Ev.key
  simp only
  rw [Int.toNat_of_nonneg (by omega)]
theorem keys_X {E : List Ev} (h : ∀ e ∈ E, okE e = true) : (E.map toX).map keyX = E.map Ev.key := by
  rw [List.map_map]
  exact List.map_congr_left fun e he => key_X (h e he)
theorem okX_of {E : List Ev} {w : World} {v : Value} (hE : Es w v E) (h : ∀ e ∈ E, okE e = true) : ∀ x ∈ E.map toX, OkX x := fun x hx => by
  obtain ⟨e, he, rfl⟩ := List.mem_map.1 hx
  obtain ⟨h1, h2, h3⟩ := (okE_is e).1 (h e he)
  obtain ⟨_, _, _, -, hk⟩ := hE
  exact ⟨by show 1 ≤ e.k.toNat; omega, by show e.k.toNat ≤ 26; omega, h3, (hk e he).lt⟩
theorem own_some {w : World} {base te z n : Nat} {v : Value} {zs : List Value} (h : w.ownsRow base te z v n zs) (h0 : 0 < n) : ∃ g cap, v = .slice (some ⟨g, 0, none⟩) n cap ∧ n ≤ cap ∧ cap ≤ maxLen := by
  rcases h.2 with ⟨rfl, h1⟩ | ⟨g, cap, cur, rfl, h1, hg, h2, h3, -⟩
  · omega
  · exact ⟨g, cap, rfl, h2, h3⟩
theorem Bs_take {w : World} {a : Addr} {n c j : Nat} {xs : List Int} (h : Bs w (.slice (some a) n c) xs) (hj : j ≤ n) : Bs w (.slice (some a) j c) (xs.take j) := by
  obtain ⟨q', c', e, hn, hc⟩ := h
  simp only [Value.slice.injEq] at e
  obtain ⟨rfl, rfl, rfl⟩ := e
  refine ⟨some a, c, by rw [List.length_take, Nat.min_eq_left hj], (fun h => (by cases h)), fun p hp i u hi => hc p hp i u ?_⟩
  unfold bv at hi ⊢
  rw [List.getElem?_map, List.getElem?_take] at hi
  rw [List.getElem?_map]
  split at hi
  · exact hi
  · cases hi
theorem keys_short {E F : List Ev} (h : E.map Ev.key = F.map Ev.key) (hF : F.length ≤ 1000 ∧ ∀ e ∈ F, e.l.length ≤ 100) : E.length ≤ 100000 ∧ ∀ e ∈ E, e.l.length ≤ 5000 := by
  have h1 : E.length = F.length := by rw [← List.length_map (f := Ev.key), h, List.length_map]
  refine ⟨by omega, fun e he => ?_⟩
  have h2 : e.key ∈ E.map Ev.key := List.mem_map.2 ⟨e, he, rfl⟩
  rw [h] at h2
  obtain ⟨f, hf, hfe⟩ := List.mem_map.1 h2
  have h3 : f.l = e.l := congrArg Prod.snd hfe
  have := hF.2 f hf
  rw [← h3]
  omega
/-- all that the statement asks of good events' bytes -/
structure BackL (E : List Ev) (c : Nat) (P : List Int) : Prop where
  whole : ∀ r, ∃ s, gV 19 (0, P ++ r) = (c, s) ∧ s = (0, putB E ++ r)
  cut : ∀ j, j < P.length → ∃ m s, gV 19 (0, P.take j) = (m, s) ∧ rdE s = 3
  read0 : rdE (0, putB E) = 0 ∧ rdL (0, putB E) = E.map Ev.key
  more : rdE (0, putB E ++ [0]) = 4
theorem back_law {E : List Ev} {c : Nat} (hc : c ≤ 19) (hE : E.length ≤ 1000) (hok : ∀ e ∈ E, okE e = true) (hX : ∀ x ∈ E.map toX, OkX x) : BackL E c (enc c ++ putB E) := by
  have hl : (E.map toX).length ≤ 1000 := by rw [List.length_map]; exact hE
  have hr : ∀ r, gR (0, putB E ++ r) = (E.map toX, 0, r) := fun r => by rw [putB_X]; exact gR_put hl hX r
  refine ⟨fun r => ⟨(0, putB E ++ r), by rw [List.append_assoc]; exact gV_enc (most := 19) _ (by omega) (by omega), rfl⟩, fun j hj => ?_, ?_, ?_⟩
  · refine ⟨(gV 19 (0, (enc c ++ putB E).take j)).1, (gV 19 (0, (enc c ++ putB E).take j)).2, rfl, ?_⟩
    have h := gRes_cut hc hl hX (j := j) (by rw [← putB_X]; exact hj)
    rw [← putB_X] at h
    unfold gRes at h
    simp only at h
    unfold rdE
    rw [h]
    rfl
  · have h := hr []
    rw [List.append_nil] at h
    have h0 : rdE (0, putB E) = 0 := by unfold rdE; rw [h]; rfl
    refine ⟨h0, ?_⟩
    unfold rdL
    rw [if_pos h0, h]
    exact keys_X hok
  · unfold rdE
    rw [hr [0]]
    rfl
set_option maxRecDepth 100000 in
set_option maxHeartbeats 64000000 in
theorem back14_walk (v : Value) (E : List Ev) (cd n : Nat) (w : World) (hE : Es w v E) (hlE : ∀ e ∈ E, e.l.length ≤ 140737488355328) (hcd : cd < 256) (hn : n < 18446744073709551616) :
    Calls Try.prog 31 #[v, .int .u8 (cd : Int), .int .u64 (n : Int)] w fun e w' => e = .returned (.bool true) ∧ Below w.heap.size w w' := by
  have lv := Lib.hid lives14U
  have kl := Lib.hid (light_at v E w hE hlE)
  obtain ⟨c, hc⟩ : ∃ c, cd % 20 = c := ⟨_, rfl⟩
  have tm : ((cd : Int)).tmod 20 = (c : Int) := by rw [Int.tmod_eq_emod_of_nonneg (by omega)]; omega
  have hc19 : c ≤ 19 := by omega
  have wu : IntKind.u8.wrap (c : Int) = (c : Int) := by rw [IntKind.wrap_u8]; omega
  have wi : IntKind.i64.wrap (c : Int) = (c : Int) := by rw [IntKind.wrap_i64]; omega
  have kR := Lib.hid fun wx (hb : Below w.heap.size w wx) (hEm : E.length ≤ 140737488355328) => result_at (c : Int) v E wx (hE.below hb) hEm
  have kB := Lib.hid fun wx (hb : Below w.heap.size w wx) (hEm : E.length ≤ 140737488355328) => bytes_at v E wx (hE.below hb) hEm
  have HE := Lib.hid hE
  obtain ⟨q, cq, rfl, -, -⟩ := hE
  obtain ⟨m, hm⟩ : ∃ m, E.length = m := ⟨_, rfl⟩
  rw [hm] at HE kl kR kB ⊢
  have HMn := Lib.hid hm
  clear hlE hc hm
  by_cases hgd : goodE E = true
  case neg =>
    have hgf : goodE E = false := by simpa using hgd
    have r0 : resB (c : Int) E = [] := by unfold resB; rw [hgf]; simp
    have b0 : bytesB E = [] := by unfold bytesB; rw [hgf]; simp
    rw [r0] at kR
    rw [b0] at kB
    clear r0 b0 hgf hgd
    go_enter Try.func31, Try.ntmps31
    go_wp2_with fail
    refine kl.out.mono ?_
    rintro e w1 ⟨b, rfl, hlt, hb1⟩
    have H1 := Lib.hid hb1
    clear hb1 kl
    cases b
    · clear hlt
      go_wp2_with fail
      refine (lv.out _).mono ?_
      rintro e wz ⟨rfl, hbz⟩
      have Hz := Lib.hid (H1.out.trans (hbz.mono H1.out.size))
      clear hbz
      go_wp2_with fail
      go_ret
      exact ⟨rfl, Hz.out⟩
    · have HLt := Lib.hid (hlt rfl)
      clear hlt
      go_wp2_with fail
      refine (kR.out _ H1.out (by have h1 := HLt.out.1; have h2 := HMn.out; omega)).mono ?_
      rintro e w2 ⟨x, rfl, ho, hb2⟩
      obtain ⟨qx, cx, hx⟩ := own_sl ho
      have H2 := Lib.hid (H1.out.trans (hb2.mono H1.out.size))
      clear kR ho hb2 H1
      simp only [List.length_nil] at hx
      subst hx
      go_wp2_with fail
      refine (kB.out _ H2.out (by have h1 := HLt.out.1; have h2 := HMn.out; omega)).mono ?_
      rintro e w3 ⟨y, rfl, ho, hb3⟩
      obtain ⟨qy, cy, hy⟩ := own_sl ho
      have H3 := Lib.hid (H2.out.trans (hb3.mono H2.out.size))
      clear kB ho hb3 H2
      simp only [List.length_nil] at hy
      subst hy
      go_wp2_with fail
      refine (lv.out _).mono ?_
      rintro e wz ⟨rfl, hbz⟩
      have Hz := Lib.hid (H3.out.trans (hbz.mono H3.out.size))
      clear hbz
      go_wp2_with fail
      go_ret
      exact ⟨rfl, Hz.out⟩
  have hg2 := (good_is E).1 hgd
  obtain ⟨P, hP⟩ : ∃ P, enc c ++ putB E = P := ⟨_, rfl⟩
  have r0 : resB (c : Int) E = P := by unfold resB; rw [if_neg (by omega), if_pos hgd, Int.toNat_natCast]; exact hP
  have b0 : bytesB E = putB E := if_pos hgd
  rw [r0] at kR
  rw [b0] at kB
  have hX := okX_of HE.out hg2.2
  have BL := back_law hc19 hg2.1 hg2.2 hX
  rw [hP] at BL
  have hPl : P.length ≤ 3400000 := by
    rw [← hP, List.length_append]
    have h1 := enc_len9 (m := c) (by omega)
    unfold putB
    rw [List.length_append]
    have h2 := enc_len9 (m := E.length) (by omega)
    have h3 := evs_len hg2.2
    have h4 := hg2.1
    omega
  have hPBy : By P := by
    rw [← hP]
    refine (enc_by _).app ?_
    unfold putB
    refine (enc_by _).app fun y hy => ?_
    obtain ⟨e, he, hy⟩ := List.mem_flatMap.1 hy
    have hb : By (evB e) := (enc_by _).app ((enc_by _).app fun z hz => by
      obtain ⟨a, ha, hz⟩ := List.mem_flatMap.1 hz
      exact amtL_by ((hX _ (List.mem_map.2 ⟨e, he, rfl⟩)).lt a ha) z hz)
    exact hb y hy
  have hPBl : (putB E).length ≤ P.length := by rw [← hP, List.length_append]; omega
  have hPBb : By (putB E) := by
    have h9 : By (enc c ++ putB E) := by rw [hP]; exact hPBy
    exact fun y hy => h9 y (List.mem_append_right _ hy)
  have hP0 : 0 < P.length := by rw [← hP, List.length_append]; have := enc_pos c; omega
  have kl2 := Lib.hid (show E.length ≤ 1000 ∧ ∀ e ∈ E, e.l.length ≤ 100 from ⟨hg2.1, fun e he => ((okE_is e).1 (hg2.2 e he)).2.2⟩)
  -- the readings
  obtain ⟨s0, hs0, hs0'⟩ := BL.whole []
  rw [List.append_nil] at hs0 hs0'
  have k5 := fun wx x (h : Bs wx x P) => tores_at x P wx h hPBy (by omega) hs0
  rw [hs0'] at k5
  simp only [BL.read0.1, BL.read0.2] at k5
  obtain ⟨Lb, hLb⟩ : ∃ L, P.length = L := ⟨_, rfl⟩
  obtain ⟨j, hj⟩ : ∃ j, n % Lb = j := ⟨_, rfl⟩
  have hjl : j < Lb := by rw [← hj]; exact Nat.mod_lt _ (by omega)
  obtain ⟨m6, s6, hg6, hr6⟩ := BL.cut j (by omega)
  have k6 := fun wx x (h : Bs wx x (P.take j)) => tores_at x (P.take j) wx h (hPBy.take j) (by rw [List.length_take]; omega) hg6
  simp only [hr6, if_neg (show ¬ ((3 : Int) = 0) by decide)] at k6
  obtain ⟨s7, hs7, hs7'⟩ := BL.whole [0]
  have k7 := fun wx x (h : Bs wx x (P ++ [0])) => tores_at x (P ++ [0]) wx h (hPBy.app (By.cons (by omega) By.nil)) (by rw [List.length_append]; show _ + 1 ≤ _; omega) hs7
  rw [hs7'] at k7
  simp only [BL.more, if_neg (show ¬ ((4 : Int) = 0) by decide)] at k7
  have k8 := fun wx x (h : Bs wx x (putB E)) => parse_at x (putB E) wx h hPBb (by omega)
  simp only [BL.read0.1, BL.read0.2] at k8
  replace k5 := Lib.hid k5
  replace k6 := Lib.hid k6
  replace k7 := Lib.hid k7
  replace k8 := Lib.hid k8
  have tmn : ((n : Int)).tmod (Lb : Int) = (j : Int) := by rw [Int.tmod_eq_emod_of_nonneg (by omega), ← hj]; omega
  have wL : IntKind.u64.wrap (Lb : Int) = (Lb : Int) := by rw [IntKind.wrap_u64]; omega
  have wj : IntKind.u64.wrap (j : Int) = (j : Int) := by rw [IntKind.wrap_u64]; omega
  have wj' : IntKind.i64.wrap (j : Int) = (j : Int) := by rw [IntKind.wrap_i64]; omega
  have hL0 : ((Lb : Int) == 0) = false := by rw [beq_eq_false_iff_ne]; omega
  have hLi : (Lb : Int) ≤ 3400000 := by omega
  have hjle : (j : Int) ≤ (Lb : Int) := by omega
  have HLb := Lib.hid (show _ ∧ _ from ⟨hLb, hPl⟩)
  clear r0 b0 hX BL hPBy hPBb hPl hPBl hP0 hs0 hs0' hg6 hr6 hs7 hs7' hP hg2 hgd hj hLb hn hcd
  go_enter Try.func31, Try.ntmps31
  go_wp2_with fail
  refine kl.out.mono ?_
  rintro e w1 ⟨b, rfl, hlt, hb1⟩
  have H1 := Lib.hid hb1
  clear hb1 kl
  cases b
  · clear hlt
    go_wp2_with fail
    refine (lv.out _).mono ?_
    rintro e wz ⟨rfl, hbz⟩
    have Hz := Lib.hid (H1.out.trans (hbz.mono H1.out.size))
    clear hbz
    go_wp2_with fail
    go_ret
    exact ⟨rfl, Hz.out⟩
  have HLt := Lib.hid (hlt rfl)
  clear hlt
  go_wp2_with fail
  refine (kR.out _ H1.out (by have h1 := HLt.out.1; have h2 := HMn.out; omega)).mono ?_
  rintro e w2 ⟨x, rfl, ho, hb2⟩
  obtain ⟨gx, cx, hx, hlc, hcm⟩ := own_some ho (by rw [HLb.out.1]; omega)
  rw [HLb.out.1] at hx hlc
  subst hx
  have hjc : (j : Int) ≤ (cx : Int) := by omega
  have hcm' : (cx : Int) ≤ 9223372036854775807 := by simp only [maxLen] at hcm; omega
  have HX := Lib.hid (show _ ∧ _ ∧ _ from ⟨ho.bs, H1.out.trans (hb2.mono H1.out.size), hlc⟩)
  clear kR ho hb2 H1 hlc hcm
  have hL0' : ¬ ((Lb : Int) = 0) := by omega
  go_wp2_with fail
  refine (k5.out _ _ HX.out.1).mono ?_
  rintro e w3 ⟨m1, E1, rfl, ho1, hk1, hb1⟩
  have H3 := Lib.hid (show _ ∧ _ ∧ _ ∧ _ from ⟨ho1.es, hk1, HX.out.1.below hb1, HX.out.2.1.trans (hb1.mono HX.out.2.1.size)⟩)
  clear k5 ho1 hk1 hb1
  go_wp2_with fail
  refine (k6.out _ _ (Bs_take H3.out.2.2.1 (by omega))).mono ?_
  rintro e w4 ⟨m2, E2, rfl, -, -, hb2⟩
  have H4 := Lib.hid (show _ ∧ _ ∧ _ ∧ _ from ⟨H3.out.1.below hb2, H3.out.2.1, H3.out.2.2.1.below hb2, H3.out.2.2.2.trans (hb2.mono H3.out.2.2.2.size)⟩)
  clear k6 hb2 H3 HX tmn wL wj wj' hL0 hL0'
  obtain ⟨v1, wA, hrun1, hoA, hlA⟩ := fresh_append H4.out.2.2.1 (by have := HLb.out; omega)
  have hAl : Below wA.heap.size wA (wA.alloc (.cells #[.int .u8 0] 5)) := (Below.refl _ _).alloc (Nat.le_refl _) _
  obtain ⟨v2, wB, hrun2, hoB, hgB, -⟩ := append_run (hoA.below hAl) (Bs_new (w := wA) 0) (by have := HLb.out; show _ + 1 ≤ _; omega) (Nat.le_trans hlA.size hAl.size)
  have hwB : Below w4.heap.size w4 wB := hlA.trans (grew_below hlA.size (fun b hb => (hoA.lt b hb).1) hgB)
  have H5 := Lib.hid (show _ ∧ _ ∧ _ ∧ _ from ⟨H4.out.1.below hwB, H4.out.2.1, hoB.bs, H4.out.2.2.2.trans (hwB.mono H4.out.2.2.2.size)⟩)
  clear hoA hlA hAl hoB hgB hwB H4
  go_wp2_with (at_builtin; first | refine wpList_app rfl rfl rfl rfl hrun1 ?_ | refine wpList_app rfl rfl rfl rfl hrun2 ?_)
  refine (k7.out _ _ H5.out.2.2.1).mono ?_
  rintro e w5 ⟨m3, E3, rfl, -, -, hb3⟩
  have H6 := Lib.hid (show _ ∧ _ ∧ _ from ⟨H5.out.1.below hb3, H5.out.2.1, H5.out.2.2.2.trans (hb3.mono H5.out.2.2.2.size)⟩)
  clear k7 hb3 H5 hrun1 hrun2
  go_wp2_with fail
  refine (kB.out _ H6.out.2.2 (by have h1 := HLt.out.1; have h2 := HMn.out; omega)).mono ?_
  rintro e w6 ⟨y, rfl, hoy, hb4⟩
  have H7 := Lib.hid (show _ ∧ _ ∧ _ ∧ _ from ⟨H6.out.1.below hb4, H6.out.2.1, hoy.bs, H6.out.2.2.trans (hb4.mono H6.out.2.2.size)⟩)
  clear kB hoy hb4 H6
  go_wp2_with fail
  refine (k8.out _ _ H7.out.2.2.1).mono ?_
  rintro e w7 ⟨x8, E8, rfl, ho8, hk8, hb5⟩
  have H8 := Lib.hid (show _ ∧ _ ∧ _ ∧ _ ∧ _ from ⟨H7.out.1.below hb5, H7.out.2.1, ho8.es, hk8, H7.out.2.2.2.trans (hb5.mono H7.out.2.2.2.size)⟩)
  clear k8 ho8 hk8 hb5 H7
  have sh1 := keys_short H8.out.2.1 kl2.out
  have sh8 := keys_short H8.out.2.2.2.1 kl2.out
  have c1 := Lib.hid fun wx (hb : Below w7.heap.size w7 wx) => (show Calls Try.prog 77 #[m1, .slice q m cq] wx fun r w' => r = .returned (.bool true) ∧ Below wx.heap.size wx w' from by
    have h := same_at m1 (.slice q m cq) E1 E wx (H8.out.1.below hb) (HE.out.below (H8.out.2.2.2.2.trans (hb.mono H8.out.2.2.2.2.size))) sh1.1 sh1.2
    rw [show sameE E1 E = true from decide_eq_true H8.out.2.1] at h
    exact h)
  have c2 := Lib.hid fun wx (hb : Below w7.heap.size w7 wx) => (show Calls Try.prog 77 #[x8, .slice q m cq] wx fun r w' => r = .returned (.bool true) ∧ Below wx.heap.size wx w' from by
    have h := same_at x8 (.slice q m cq) E8 E wx (H8.out.2.2.1.below hb) (HE.out.below (H8.out.2.2.2.2.trans (hb.mono H8.out.2.2.2.2.size))) sh8.1 sh8.2
    rw [show sameE E8 E = true from decide_eq_true H8.out.2.2.2.1] at h
    exact h)
  have HB := Lib.hid H8.out.2.2.2.2
  clear sh1 sh8 H8 kl2
  go_wp2_with fail
  refine (c1.out _ (Below.refl _ _)).mono ?_
  rintro e w8 ⟨rfl, hb8⟩
  have h78 := Lib.hid hb8
  clear hb8 c1
  go_wp2_with fail
  refine (c2.out _ h78.out).mono ?_
  rintro e w9 ⟨rfl, hb9⟩
  have h79 := Lib.hid (h78.out.trans (hb9.mono h78.out.size))
  clear hb9 c2 h78
  go_wp2_with fail
  refine (lv.out _).mono ?_
  rintro e wz ⟨rfl, hbz⟩
  have h7z := Lib.hid (h79.out.trans (hbz.mono h79.out.size))
  clear hbz h79
  go_wp2_with fail
  go_ret
  exact ⟨rfl, HB.out.trans (h7z.out.mono HB.out.size)⟩
end Go.Proofs.Ytpdenhmkpiafiaa
