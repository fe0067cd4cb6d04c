/-
  Events in bytes: put (187), Bytes (73; the reference's: 74), Result (75; the reference's: 76).
-/
import Derived.Test.YtpdenhmkpiafiaaEvSl
import Derived.Test.YtpdenhmkpiafiaaOctPut
import Derived.Test.YtpdenhmkpiafiaaOctPlain
namespace Go.Proofs.Ytpdenhmkpiafiaa
open Go Go.RowKit K6

/-- an event's bytes -/
def evB (e : Ev) : List Int := enc e.k.toNat ++ (enc e.l.length ++ e.l.flatMap amtL)
def putB (E : List Ev) : List Int := enc E.length ++ E.flatMap evB
def bytesB (E : List Ev) : List Int := if goodE E = true then putB E else []
def resB (code : Int) (E : List Ev) : List Int := if code < 0 ∨ 19 < code then [] else if goodE E = true then enc code.toNat ++ putB E else []
theorem amtL_len (a : Nat) : (amtL a).length ≤ 33 := by
  unfold amtL
  rw [List.length_cons, List.length_drop, BL32_len]
  omega
theorem amts_len (l : List Nat) : (l.flatMap amtL).length ≤ 33 * l.length := by
  induction l with
  | nil => exact Nat.le_refl 0
  | cons a l ih =>
    rw [List.flatMap_cons, List.length_append, List.length_cons]
    have := amtL_len a
    omega
theorem evB_len {e : Ev} (h : okE e = true) : (evB e).length ≤ 3318 := by
  obtain ⟨h1, h2, h3⟩ := (okE_is e).1 h
  unfold evB
  rw [List.length_append, List.length_append]
  have a1 := enc_len9 (m := e.k.toNat) (by omega)
  have a2 := enc_len9 (m := e.l.length) (by omega)
  have a3 := amts_len e.l
  omega
theorem evs_len {E : List Ev} (h : ∀ e ∈ E, okE e = true) : (E.flatMap evB).length ≤ 3318 * E.length := by
  induction E with
  | nil => exact Nat.le_refl 0
  | cons e E ih =>
    rw [List.flatMap_cons, List.length_append, List.length_cons]
    have := evB_len (h e (List.mem_cons_self))
    have := ih (fun e he => h e (List.mem_cons_of_mem _ he))
    omega
theorem put_step {E : List Ev} {i : Nat} {e : Ev} (he : E[i]? = some e) (P : List Int) : (((P ++ (E.take i).flatMap evB) ++ enc e.k.toNat) ++ enc e.l.length) ++ e.l.flatMap amtL = P ++ (E.take (i + 1)).flatMap evB := by
  rw [List.take_add_one, he, Option.toList_some, List.flatMap_append]
  have : [e].flatMap evB = evB e := List.append_nil _
  rw [this]
  unfold evB
  simp only [List.append_assoc]
theorem amt_step {l : List Nat} {j x : Nat} (hx : l[j]? = some x) (P : List Int) : (P ++ (l.take j).flatMap amtL) ++ amtL x = P ++ (l.take (j + 1)).flatMap amtL := by
  rw [List.take_add_one, hx, Option.toList_some, List.flatMap_append, List.append_assoc]
  have : [x].flatMap amtL = amtL x := List.append_nil _
  rw [this]
set_option maxRecDepth 100000 in
set_option maxHeartbeats 32000000 in
theorem put_at (u v : Value) (xs : List Int) (E : List Ev) (w : World) (hu : Bs w u xs) (hL : xs.length ≤ 1000) (h : Es w v E) (hg : goodE E = true) :
    Calls Try.prog 187 #[u, v] w fun e w' => ∃ x, e = .returned x ∧ Ob w' w.heap.size x (xs ++ putB E) ∧ Below w.heap.size w w' := by
  have HC := Lib.hid h
  obtain ⟨q, c, rfl, -, -⟩ := h
  have HG := Lib.hid ((good_is E).1 hg).2
  have hm1 := ((good_is E).1 hg).1
  obtain ⟨m, hm⟩ : ∃ m, E.length = m := ⟨_, rfl⟩
  rw [hm] at HC hm1
  obtain ⟨P, hP⟩ : ∃ P, xs ++ enc m = P := ⟨_, rfl⟩
  have hPl := Lib.hid (show P.length ≤ 1009 by rw [← hP, List.length_append]; have := enc_len9 (m := m) (by omega); omega)
  have hPe := Lib.hid (show P ++ E.flatMap evB = xs ++ putB E by unfold putB; rw [← hP, hm, List.append_assoc])
  have kv := var_any u xs (m : Int) w hu (by omega) (by omega)
  rw [Int.toNat_natCast, hP] at kv
  replace kv := Lib.hid kv
  rw [hm]
  have hmi : (m : Int) ≤ 1000 := by omega
  obtain ⟨B, hB⟩ : ∃ B, w.heap.size = B := ⟨_, rfl⟩
  clear hg hu hL hP
  go_enter Try.func187, Try.ntmps187
  go_wp2_with fail
  refine kv.out.mono ?_
  rintro e w1 ⟨x1, rfl, ho, hb⟩
  rw [hB] at ho
  have H1 := Lib.hid (show _ ∧ _ from ⟨ho, hb⟩)
  clear kv ho hb
  go_wp2_with fail
  go_loopg [0, 15] m (fun gg s0 s15 wr => ∃ i : Nat, i + gg = m ∧ s15 = .int .i64 (i : Int) ∧ Hid (Ob wr B s0 (P ++ (E.take i).flatMap evB)) ∧ Hid (Below w.heap.size w wr))
  case atStart => exact ⟨0, by omega, rfl, Lib.hid (by rw [List.take_zero, List.flatMap_nil, List.append_nil]; exact H1.out.1), Lib.hid H1.out.2⟩
  case round =>
    clear H1
    obtain ⟨i, him, rfl, hob, hinv⟩ := hrel
    obtain ⟨g1, rfl⟩ : ∃ g1 : Nat, g1 = gk := ⟨_, rfl⟩
    by_cases hi : i < m
    · obtain ⟨ev, he⟩ : ∃ ev, E[i]? = some ev := ⟨_, List.getElem?_eq_getElem (by omega)⟩
      obtain ⟨g, o, c', hu, hg, hok, hcs⟩ := HC.out.get hinv.out he
      simp only [Value.slice.injEq] at hu
      obtain ⟨rfl, -, -⟩ := hu
      have hke := (okE_is ev).1 (HG.out ev (List.mem_of_getElem? he))
      have hst := put_step he P
      obtain ⟨Z0, hZ0⟩ : ∃ Z, P ++ (E.take i).flatMap evB = Z := ⟨_, rfl⟩
      have hz0 : Z0.length ≤ 4000000 := by
        rw [← hZ0, List.length_append]
        have h1 := evs_len (E := E.take i) (fun e he => HG.out e (List.mem_of_mem_take he))
        rw [List.length_take] at h1
        have h2 := hPl.out
        omega
      rw [hZ0] at hob hst
      have he' := Lib.hid he
      clear he hok hZ0
      obtain ⟨k, qe, ce, le⟩ := ev
      obtain ⟨ne, hne⟩ : ∃ ne, le.length = ne := ⟨_, rfl⟩
      simp only [Ev.v, hne] at hcs
      simp only [hne] at hke hst
      obtain ⟨Z1, hZ1⟩ : ∃ Z, Z0 ++ enc k.toNat = Z := ⟨_, rfl⟩
      obtain ⟨Z2, hZ2⟩ : ∃ Z, Z1 ++ enc ne = Z := ⟨_, rfl⟩
      rw [hZ1, hZ2] at hst
      have hz1 : Z1.length ≤ 4000009 := by
        rw [← hZ1, List.length_append]
        have := enc_len9 (m := k.toNat) (by omega)
        omega
      have hz2 : Z2.length ≤ 4000018 := by
        rw [← hZ2, List.length_append]
        have := enc_len9 (m := ne) (by omega)
        omega
      have k1 := fun wx vx (h : Bs wx vx Z0) => var_any vx Z0 k wx h (by omega) (by omega)
      have k2 := fun wx vx (h : Bs wx vx Z1) => var_any vx Z1 (ne : Int) wx h (by omega) (by omega)
      rw [hZ1] at k1
      rw [Int.toNat_natCast, hZ2] at k2
      replace k1 := Lib.hid k1
      replace k2 := Lib.hid k2
      have HS := Lib.hid (show _ ∧ _ ∧ _ from ⟨hst, hz2, hne⟩)
      have hni : (ne : Int) ≤ 100 := by omega
      clear hst hz0 hz1 hz2 hZ1 hZ2 hne hke
      have hlt : (i : Int) < (m : Int) := by omega
      have hBr : B ≤ wr.heap.size := by have := hinv.out.size; omega
      go_upto_region 4 with (fail)
      let L : List Sp := [sA 2 26 [3] #[.int .i64 0, .slice none 0 0], sT 3 2 26 [1] (fun g => aggOf g 1)]
      refine wp_region_six0 (shs L) (look6 L) (None_) (by kernel_rfl) (by kernel_rfl) (mk_St L [] [] (by kernel_rfl) (by kernel_rfl) ⟨ok_A, ok_T aggOf_congr, trivial⟩ (by simp)) ?_
      intro QQ hQ
      -- 0: indexAddr<77> t13[t15]
      refine stepK rfl (by kernel_rfl) (fun K hK => ?_); go_simp
      apply Exists.intro; apply And.intro; (focus (intro wk hk; go_simp; exact ⟨rfl, rfl⟩)); refine hK _ _ ?_; clear hK K
      -- 1: load<26> *t17
      refine stepK rfl (by kernel_rfl) (fun K hK => ?_); go_simp
      apply Exists.intro; apply And.intro; (focus exact kLoadE rfl rfl aggT26 hcs rfl hg id); refine hK _ _ ?_; clear hK K
      -- 2: alloc<26>
      refine stepS _ rfl (by kernel_rfl) (fun K hK => ?_); go_simp
      refine ⟨?_, ?_⟩
      · intro wk hk hg hu; go_simp; exact left_A rfl rfl
      rintro ⟨v2, lo2, hi2⟩ hlo2 hhi2 ⟨e2, f2⟩
      replace e2 : v2 = .pointer (some ⟨lo2, 0, none⟩) := e2; replace f2 : hi2 = lo2 + 1 := f2; replace hlo2 : _ ≤ lo2 := hlo2; subst e2; subst f2
      refine hK _ _ ?_; clear hK K
      -- 3: store<26> *t6 = t18
      refine stepS _ rfl (by kernel_rfl) (fun K hK => ?_); go_simp
      refine ⟨?_, ?_⟩
      · exact sStoreT rfl rfl rfl rfl rfl rfl rfl (by kernel_rfl) rfl (by kernel_rfl) (by decide) aggOf_congr
      rintro ⟨v3, lo3, hi3⟩ - - (rfl : v3 = undef)
      refine hK _ _ ?_; clear hK K
      refine stepN ?_
      refine hQ _ _ ?_
      intro w1 hT hG hF
      have hbw1 := hT.below
      have r26 : Row w1 lo2 26 (#[.int .i64 k, .slice qe ne ce]) := (hF 3 _ rfl rfl (by decide)).2
      clear hT hG hF hQ QQ L
      have hs1 := hbw1.size
      have ob1 := hob.out.below hbw1
      have hl1 := Lib.hid (hinv.out.trans (hbw1.mono hinv.out.size))
      have hBw1 : B ≤ w1.heap.size := by omega
      clear hbw1 hinv hob hcs hg
      go_upto_region 5 with (fail)
      let L : List Sp := [sF 3 [] [] [] (fun _ => True) (fun x w => Ob w B x.v Z1), sF 7 [3] [3] [] (fun _ => True) (fun x w => Ob w B x.v Z2)]
      refine wp_region_six (shs L) (look6 L) (None_) (by kernel_rfl) (by kernel_rfl) (mk_St L [] [] (by kernel_rfl) (by kernel_rfl) ⟨ok_F (any_some _) (fun _ _ _ h hb => Ob.below h hb), ok_F (any_some _) (fun _ _ _ h hb => Ob.below h hb), trivial⟩ (by simp)) ?_
      intro QQ hQ
      -- 0: t0
      refine stepK rfl (by kernel_rfl) (fun K hK => ?_); go_simp
      apply Exists.intro; apply And.intro; (focus (intro wk hk; go_simp; exact ⟨rfl, rfl⟩)); refine hK _ _ ?_; clear hK K
      -- 1: fieldAddr<26> t6.0
      refine stepK rfl (by kernel_rfl) (fun K hK => ?_); go_simp
      apply Exists.intro; apply And.intro; (focus (intro wk hk; go_simp; exact ⟨rfl, rfl⟩)); refine hK _ _ ?_; clear hK K
      -- 2: load<3> *t20
      refine stepK rfl (by kernel_rfl) (fun K hK => ?_); go_simp
      apply Exists.intro; apply And.intro; (focus (intro wk hk; have cc : wk.cell? ⟨lo2, 0, none⟩ = some (.int .i64 k) := (by first | exact (K6.Row.tr r26 hk.undrew id).cell 0 | exact (K6.Row.tr r26 hk id).cell 0 | exact (r26.below hk.below r26.lt).cell 0); go_simp; exact ⟨rfl, rfl⟩)); refine hK _ _ ?_; clear hK K
      -- 3: call F38(t19, t21)
      refine stepS _ rfl (by kernel_rfl) (fun K hK => ?_); go_simp
      refine ⟨?_, ?_⟩
      · intro wk hk hg hu; go_simp; refine upon_enter ((k1.out _ u0 (ob1.below hk.undrew.below).bs).mono ?_); rintro e w' ⟨v, rfl, hv, hb9⟩; exact ⟨_, rfl, left_F rfl rfl hb9 trivial (hv.base (by have := hk.undrew.size; omega))⟩
      rintro ⟨v3, lo3, hi3⟩ - - -
      refine hK _ _ ?_; clear hK K
      -- 4: fieldAddr<26> t6.1
      refine stepK rfl (by kernel_rfl) (fun K hK => ?_); go_simp
      apply Exists.intro; apply And.intro; (focus (intro wk hk; go_simp; exact ⟨rfl, rfl⟩)); refine hK _ _ ?_; clear hK K
      -- 5: load<23> *t23
      refine stepK rfl (by kernel_rfl) (fun K hK => ?_); go_simp
      apply Exists.intro; apply And.intro; (focus (intro wk hk; have cc : wk.cell? ⟨lo2, 1, none⟩ = some (.slice qe ne ce) := (by first | exact (K6.Row.tr r26 hk.undrew id).cell 1 | exact (K6.Row.tr r26 hk id).cell 1 | exact (r26.below hk.below r26.lt).cell 1); go_simp; exact ⟨rfl, rfl⟩)); refine hK _ _ ?_; clear hK K
      -- 6: call builtin len<23>(t24)
      refine stepK rfl (by kernel_rfl) (fun K hK => ?_); go_simp
      apply Exists.intro; apply And.intro; (focus (intro wk hk; go_simp; exact ⟨rfl, rfl⟩)); refine hK _ _ ?_; clear hK K
      -- 7: call F38(t22, t25)
      refine stepS _ rfl (by kernel_rfl) (fun K hK => ?_); go_simp
      refine ⟨?_, ?_⟩
      · intro wk hk hg hu; have u3 := hu 3 (show 3 ∈ [3] by decide); go_simp; refine upon_enter ((k2.out _ v3 (show Ob wk B v3 Z1 from u3).bs).mono ?_); rintro e w' ⟨v, rfl, hv, hb9⟩; exact ⟨_, rfl, left_F rfl rfl hb9 trivial (hv.base (by have := hk.undrew.size; omega))⟩
      rintro ⟨v7, lo7, hi7⟩ - - -
      refine hK _ _ ?_; clear hK K
      -- 8: assign t26
      refine stepK rfl (by kernel_rfl) (fun K hK => ?_); go_simp
      apply Exists.intro; apply And.intro; (focus (intro wk hk; go_simp; exact ⟨rfl, rfl⟩)); refine hK _ _ ?_; clear hK K
      refine stepN ?_
      refine hQ _ _ ?_
      intro w2 hT hG hF
      have hb2 := hT.undrew.below
      have o7 : Ob w2 B v7 Z2 := hF 7 _ rfl rfl (by decide)
      have r26 := r26.below hb2 r26.lt
      have H2 := Lib.hid (show _ ∧ _ from ⟨o7, hl1.out.trans (hb2.mono hl1.out.size)⟩)
      have c1 := r26.cell 1
      clear hT hG hF hQ QQ L hb2 o7 hl1 ob1 k1 k2 r26
      go_wp2_with fail
      go_loopg [0, 30] ne (fun gg s0 s30 wi => ∃ j : Nat, j + gg = ne ∧ s30 = .int .i64 (j : Int) ∧ Hid (Ob wi B s0 (Z2 ++ (le.take j).flatMap amtL)) ∧ Hid (Below w.heap.size w wi))
      case atStart => exact ⟨0, by omega, rfl, Lib.hid (by rw [List.take_zero, List.flatMap_nil, List.append_nil]; exact H2.out.1), Lib.hid H2.out.2⟩
      case round =>
        clear H2 c1
        obtain ⟨j, hjm, rfl, hob, hinv⟩ := hrel
        by_cases hj : j < ne
        · obtain ⟨x, hx⟩ : ∃ x, le[j]? = some x := ⟨_, List.getElem?_eq_getElem (by have := HS.out.2.2; omega)⟩
          obtain ⟨_, _, _, -, -, hok, -⟩ := HC.out.get hinv.out he'.out
          have hxM : x < M := hok.lt x (List.mem_of_getElem? hx)
          obtain ⟨gx, ox, cx, hu, hgx, hcx⟩ := hok.us.elem hx
          simp only [Ev.v, HS.out.2.2, Value.slice.injEq] at hu
          obtain ⟨rfl, -, -⟩ := hu
          have hst := amt_step hx Z2
          obtain ⟨Y0, hY0⟩ : ∃ Z, Z2 ++ (le.take j).flatMap amtL = Z := ⟨_, rfl⟩
          have hy0 : Y0.length ≤ 5000000 := by
            rw [← hY0, List.length_append]
            have h1 := amts_len (le.take j)
            rw [List.length_take] at h1
            have h2 := HS.out.2.1
            omega
          rw [hY0] at hob hst
          have k4 := fun wx vx (h : Bs wx vx Y0) => amt_any vx Y0 x wx h (by omega) hxM
          rw [hst] at k4
          replace k4 := Lib.hid k4
          clear hok hx hY0 hst hy0 hxM
          have hltj : (j : Int) < (ne : Int) := by omega
          have hBr : B ≤ wr.heap.size := by have := hinv.out.size; omega
          go_upto_region 8 with (fail)
          let L : List Sp := [sA 2 31 [3] #[.int .u64 0, .int .u64 0, .int .u64 0, .int .u64 0], sT 3 2 31 [1] (fun g => aggOf g 1)]
          refine wp_region_six0 (shs L) (look6 L) (None_) (by kernel_rfl) (by kernel_rfl) (mk_St L [] [] (by kernel_rfl) (by kernel_rfl) ⟨ok_A, ok_T aggOf_congr, trivial⟩ (by simp)) ?_
          intro QQ hQ
          -- 0: indexAddr<23> t28[t30]
          refine stepK rfl (by kernel_rfl) (fun K hK => ?_); go_simp
          apply Exists.intro; apply And.intro; (focus (intro wk hk; go_simp; exact ⟨rfl, rfl⟩)); refine hK _ _ ?_; clear hK K
          -- 1: load<31> *t32
          refine stepK rfl (by kernel_rfl) (fun K hK => ?_); go_simp
          apply Exists.intro; apply And.intro; (focus exact kLoadA rfl rfl aggT31 hcx rfl hgx id); refine hK _ _ ?_; clear hK K
          -- 2: alloc<31>
          refine stepS _ rfl (by kernel_rfl) (fun K hK => ?_); go_simp
          refine ⟨?_, ?_⟩
          · intro wk hk hg hu; go_simp; exact left_A rfl rfl
          rintro ⟨v2, lo2, hi2⟩ hlo2 hhi2 ⟨e2, f2⟩
          replace e2 : v2 = .pointer (some ⟨lo2, 0, none⟩) := e2; replace f2 : hi2 = lo2 + 1 := f2; replace hlo2 : _ ≤ lo2 := hlo2; subst e2; subst f2
          refine hK _ _ ?_; clear hK K
          -- 3: store<31> *t8 = t33
          refine stepS _ rfl (by kernel_rfl) (fun K hK => ?_); go_simp
          refine ⟨?_, ?_⟩
          · exact sStoreT rfl rfl rfl rfl rfl rfl rfl (by kernel_rfl) rfl (by kernel_rfl) (by decide) aggOf_congr
          rintro ⟨v3, lo3, hi3⟩ - - (rfl : v3 = undef)
          refine hK _ _ ?_; clear hK K
          refine stepN ?_
          refine hQ _ _ ?_
          intro w4 hT hG hF
          have hb4 := hT.below
          have r8 : Row w4 lo2 31 (W4 x) := (hF 3 _ rfl rfl (by decide)).2
          clear hT hG hF hQ QQ L hcx
          have k5 := k4.out w4 u0 (hob.out.below hb4).bs
          have hl4 := Lib.hid (hinv.out.trans (hb4.mono hinv.out.size))
          have hs4 := hb4.size
          obtain ⟨y0, y1, y2, y3, hW⟩ : ∃ y0 y1 y2 y3 : Int, W4 x = #[.int .u64 y0, .int .u64 y1, .int .u64 y2, .int .u64 y3] := ⟨_, _, _, _, rfl⟩
          simp only [hW] at k5 r8
          have d0 : w4.cell? ⟨lo2, 0, none⟩ = some (.int .u64 y0) := r8.cell 0
          have d1 : w4.cell? ⟨lo2, 1, none⟩ = some (.int .u64 y1) := r8.cell 1
          have d2 : w4.cell? ⟨lo2, 2, none⟩ = some (.int .u64 y2) := r8.cell 2
          have d3 : w4.cell? ⟨lo2, 3, none⟩ = some (.int .u64 y3) := r8.cell 3
          replace k5 := Lib.hid k5
          clear r8 hb4 hob hinv k4 hW
          go_wp2_with fail
          refine k5.out.mono ?_
          rintro e w5 ⟨x5, rfl, ho5, hb5⟩
          have H5 := Lib.hid (show _ ∧ _ from ⟨ho5.base (b' := B) (by omega), hl4.out.trans (hb5.mono hl4.out.size)⟩)
          clear k5 d0 d1 d2 d3 ho5 hb5 hl4
          go_wp2_with fail
          go_roundg (gk - 1)
          case measure => omega
          case rel => exact ⟨j + 1, by omega, by go_num, Lib.hid H5.out.1, Lib.hid H5.out.2⟩
        · obtain rfl : j = ne := by omega
          have hltj : ¬ (j : Int) < (j : Int) := by omega
          rw [List.take_of_length_le (by have := HS.out.2.2; omega), HS.out.1] at hob
          go_wp2_with fail
          go_roundg (g1 - 1)
          case measure => omega
          case rel => exact ⟨i + 1, by omega, by go_num, hob, hinv⟩
    · obtain rfl : i = m := by omega
      have hlt : ¬ (i : Int) < (i : Int) := by omega
      rw [List.take_of_length_le (by omega)] at hob
      go_wp2_with fail
      go_ret
      exact ⟨_, rfl, by rw [← hPe.out]; exact hob.out, by first | exact hinv.out | (rw [hB]; exact hinv.out) | (rw [← hB]; exact hinv.out)⟩
set_option maxRecDepth 100000 in
set_option maxHeartbeats 32000000 in
theorem refbytes_at (v : Value) (E : List Ev) (w : World) (h : Es w v E) (hEm : E.length ≤ 100000) (hlen : ∀ e ∈ E, e.l.length ≤ 5000) :
    Calls Try.prog 74 #[v] w fun e w' => ∃ x, e = .returned x ∧ Ob w' w.heap.size x (bytesB E) ∧ Below w.heap.size w w' := by
  have kg := refgood_at v E w h hEm hlen
  clear hEm hlen
  by_cases hg : goodE E = true
  case neg =>
    have hg' : goodE E = false := by simpa using hg
    rw [hg'] at kg
    replace kg := Lib.hid kg
    have e : bytesB E = [] := if_neg hg
    rw [e]
    clear h hg hg' e
    go_enter Try.func74, Try.ntmps74
    go_wp2_with fail
    refine kg.out.mono ?_
    rintro e w1 ⟨rfl, hb⟩
    clear kg
    go_wp2_with fail
    go_ret
    exact ⟨_, rfl, Ob.nil _ _, hb⟩
  rw [hg] at kg
  replace kg := Lib.hid kg
  have e9 : bytesB E = putB E := if_pos hg
  rw [e9]
  have HC := Lib.hid h
  obtain ⟨q, c, rfl, -, -⟩ := h
  have HG := Lib.hid ((good_is E).1 hg).2
  have hm1 := ((good_is E).1 hg).1
  obtain ⟨m, hm⟩ : ∃ m, E.length = m := ⟨_, rfl⟩
  rw [hm] at HC hm1 kg
  obtain ⟨P, hP⟩ : ∃ P, enc m = P := ⟨_, rfl⟩
  have hPl := Lib.hid (show P.length ≤ 1009 by rw [← hP]; have := enc_len9 (m := m) (by omega); omega)
  have hPe := Lib.hid (show P ++ E.flatMap evB = putB E by unfold putB; rw [← hP, hm])
  have kv := fun wx => refvar_any (.slice none 0 0) [] (m : Int) wx (Bs.nil wx) (by decide) (by omega)
  rw [Int.toNat_natCast, List.nil_append, hP] at kv
  replace kv := Lib.hid kv
  rw [hm]
  have hmi : (m : Int) ≤ 1000 := by omega
  obtain ⟨B, hB⟩ : ∃ B, w.heap.size = B := ⟨_, rfl⟩
  clear hg hP e9
  go_enter Try.func74, Try.ntmps74
  go_wp2_with fail
  refine kg.out.mono ?_
  rintro e w0 ⟨rfl, hb0⟩
  have hs0 := hb0.size
  have H0 := Lib.hid hb0
  clear kg hb0
  go_wp2_with fail
  refine (kv.out _).mono ?_
  rintro e w1 ⟨x1, rfl, ho, hb⟩
  have H1 := Lib.hid (show _ ∧ _ from ⟨ho.base (b' := B) (by omega), H0.out.trans (hb.mono H0.out.size)⟩)
  clear kv ho hb H0
  go_wp2_with fail
  go_loopg [3, 16] m (fun gg s3 s16 wr => ∃ i : Nat, i + gg = m ∧ s16 = .int .i64 (i : Int) ∧ Hid (Ob wr B s3 (P ++ (E.take i).flatMap evB)) ∧ Hid (Below w.heap.size w wr))
  case atStart => exact ⟨0, by omega, rfl, Lib.hid (by rw [List.take_zero, List.flatMap_nil, List.append_nil]; exact H1.out.1), Lib.hid H1.out.2⟩
  case round =>
    clear H1
    obtain ⟨i, him, rfl, hob, hinv⟩ := hrel
    obtain ⟨g1, rfl⟩ : ∃ g1 : Nat, g1 = gk := ⟨_, rfl⟩
    by_cases hi : i < m
    · obtain ⟨ev, he⟩ : ∃ ev, E[i]? = some ev := ⟨_, List.getElem?_eq_getElem (by omega)⟩
      obtain ⟨g, o, c', hu, hg, hok, hcs⟩ := HC.out.get hinv.out he
      simp only [Value.slice.injEq] at hu
      obtain ⟨rfl, -, -⟩ := hu
      have hke := (okE_is ev).1 (HG.out ev (List.mem_of_getElem? he))
      have hst := put_step he P
      obtain ⟨Z0, hZ0⟩ : ∃ Z, P ++ (E.take i).flatMap evB = Z := ⟨_, rfl⟩
      have hz0 : Z0.length ≤ 4000000 := by
        rw [← hZ0, List.length_append]
        have h1 := evs_len (E := E.take i) (fun e he => HG.out e (List.mem_of_mem_take he))
        rw [List.length_take] at h1
        have h2 := hPl.out
        omega
      rw [hZ0] at hob hst
      have he' := Lib.hid he
      clear he hok hZ0
      obtain ⟨k, qe, ce, le⟩ := ev
      obtain ⟨ne, hne⟩ : ∃ ne, le.length = ne := ⟨_, rfl⟩
      simp only [Ev.v, hne] at hcs
      simp only [hne] at hke hst
      obtain ⟨Z1, hZ1⟩ : ∃ Z, Z0 ++ enc k.toNat = Z := ⟨_, rfl⟩
      obtain ⟨Z2, hZ2⟩ : ∃ Z, Z1 ++ enc ne = Z := ⟨_, rfl⟩
      rw [hZ1, hZ2] at hst
      have hz1 : Z1.length ≤ 4000009 := by
        rw [← hZ1, List.length_append]
        have := enc_len9 (m := k.toNat) (by omega)
        omega
      have hz2 : Z2.length ≤ 4000018 := by
        rw [← hZ2, List.length_append]
        have := enc_len9 (m := ne) (by omega)
        omega
      have k1 := fun wx vx (h : Bs wx vx Z0) => refvar_any vx Z0 k wx h (by omega) (by omega)
      have k2 := fun wx vx (h : Bs wx vx Z1) => refvar_any vx Z1 (ne : Int) wx h (by omega) (by omega)
      rw [hZ1] at k1
      rw [Int.toNat_natCast, hZ2] at k2
      replace k1 := Lib.hid k1
      replace k2 := Lib.hid k2
      have HS := Lib.hid (show _ ∧ _ ∧ _ from ⟨hst, hz2, hne⟩)
      have hni : (ne : Int) ≤ 100 := by omega
      clear hst hz0 hz1 hz2 hZ1 hZ2 hne hke
      have hlt : (i : Int) < (m : Int) := by omega
      have hBr : B ≤ wr.heap.size := by have := hinv.out.size; omega
      go_upto_region 6 with (fail)
      let L : List Sp := [sA 2 26 [3] #[.int .i64 0, .slice none 0 0], sT 3 2 26 [1] (fun g => aggOf g 1)]
      refine wp_region_six0 (shs L) (look6 L) (None_) (by kernel_rfl) (by kernel_rfl) (mk_St L [] [] (by kernel_rfl) (by kernel_rfl) ⟨ok_A, ok_T aggOf_congr, trivial⟩ (by simp)) ?_
      intro QQ hQ
      -- 0: indexAddr<77> t14[t16]
      refine stepK rfl (by kernel_rfl) (fun K hK => ?_); go_simp
      apply Exists.intro; apply And.intro; (focus (intro wk hk; go_simp; exact ⟨rfl, rfl⟩)); refine hK _ _ ?_; clear hK K
      -- 1: load<26> *t18
      refine stepK rfl (by kernel_rfl) (fun K hK => ?_); go_simp
      apply Exists.intro; apply And.intro; (focus exact kLoadE rfl rfl aggT26 hcs rfl hg id); refine hK _ _ ?_; clear hK K
      -- 2: alloc<26>
      refine stepS _ rfl (by kernel_rfl) (fun K hK => ?_); go_simp
      refine ⟨?_, ?_⟩
      · intro wk hk hg hu; go_simp; exact left_A rfl rfl
      rintro ⟨v2, lo2, hi2⟩ hlo2 hhi2 ⟨e2, f2⟩
      replace e2 : v2 = .pointer (some ⟨lo2, 0, none⟩) := e2; replace f2 : hi2 = lo2 + 1 := f2; replace hlo2 : _ ≤ lo2 := hlo2; subst e2; subst f2
      refine hK _ _ ?_; clear hK K
      -- 3: store<26> *t5 = t19
      refine stepS _ rfl (by kernel_rfl) (fun K hK => ?_); go_simp
      refine ⟨?_, ?_⟩
      · exact sStoreT rfl rfl rfl rfl rfl rfl rfl (by kernel_rfl) rfl (by kernel_rfl) (by decide) aggOf_congr
      rintro ⟨v3, lo3, hi3⟩ - - (rfl : v3 = undef)
      refine hK _ _ ?_; clear hK K
      refine stepN ?_
      refine hQ _ _ ?_
      intro w1 hT hG hF
      have hbw1 := hT.below
      have r26 : Row w1 lo2 26 (#[.int .i64 k, .slice qe ne ce]) := (hF 3 _ rfl rfl (by decide)).2
      clear hT hG hF hQ QQ L
      have hs1 := hbw1.size
      have ob1 := hob.out.below hbw1
      have hl1 := Lib.hid (hinv.out.trans (hbw1.mono hinv.out.size))
      have hBw1 : B ≤ w1.heap.size := by omega
      clear hbw1 hinv hob hcs hg
      go_upto_region 7 with (fail)
      let L : List Sp := [sF 3 [] [] [] (fun _ => True) (fun x w => Ob w B x.v Z1), sF 7 [3] [3] [] (fun _ => True) (fun x w => Ob w B x.v Z2)]
      refine wp_region_six (shs L) (look6 L) (None_) (by kernel_rfl) (by kernel_rfl) (mk_St L [] [] (by kernel_rfl) (by kernel_rfl) ⟨ok_F (any_some _) (fun _ _ _ h hb => Ob.below h hb), ok_F (any_some _) (fun _ _ _ h hb => Ob.below h hb), trivial⟩ (by simp)) ?_
      intro QQ hQ
      -- 0: t3
      refine stepK rfl (by kernel_rfl) (fun K hK => ?_); go_simp
      apply Exists.intro; apply And.intro; (focus (intro wk hk; go_simp; exact ⟨rfl, rfl⟩)); refine hK _ _ ?_; clear hK K
      -- 1: fieldAddr<26> t5.0
      refine stepK rfl (by kernel_rfl) (fun K hK => ?_); go_simp
      apply Exists.intro; apply And.intro; (focus (intro wk hk; go_simp; exact ⟨rfl, rfl⟩)); refine hK _ _ ?_; clear hK K
      -- 2: load<3> *t21
      refine stepK rfl (by kernel_rfl) (fun K hK => ?_); go_simp
      apply Exists.intro; apply And.intro; (focus (intro wk hk; have cc : wk.cell? ⟨lo2, 0, none⟩ = some (.int .i64 k) := (by first | exact (K6.Row.tr r26 hk.undrew id).cell 0 | exact (K6.Row.tr r26 hk id).cell 0 | exact (r26.below hk.below r26.lt).cell 0); go_simp; exact ⟨rfl, rfl⟩)); refine hK _ _ ?_; clear hK K
      -- 3: call F39(t20, t22)
      refine stepS _ rfl (by kernel_rfl) (fun K hK => ?_); go_simp
      refine ⟨?_, ?_⟩
      · intro wk hk hg hu; go_simp; refine upon_enter ((k1.out _ u3 (ob1.below hk.undrew.below).bs).mono ?_); rintro e w' ⟨v, rfl, hv, hb9⟩; exact ⟨_, rfl, left_F rfl rfl hb9 trivial (hv.base (by have := hk.undrew.size; omega))⟩
      rintro ⟨v3, lo3, hi3⟩ - - -
      refine hK _ _ ?_; clear hK K
      -- 4: fieldAddr<26> t5.1
      refine stepK rfl (by kernel_rfl) (fun K hK => ?_); go_simp
      apply Exists.intro; apply And.intro; (focus (intro wk hk; go_simp; exact ⟨rfl, rfl⟩)); refine hK _ _ ?_; clear hK K
      -- 5: load<23> *t24
      refine stepK rfl (by kernel_rfl) (fun K hK => ?_); go_simp
      apply Exists.intro; apply And.intro; (focus (intro wk hk; have cc : wk.cell? ⟨lo2, 1, none⟩ = some (.slice qe ne ce) := (by first | exact (K6.Row.tr r26 hk.undrew id).cell 1 | exact (K6.Row.tr r26 hk id).cell 1 | exact (r26.below hk.below r26.lt).cell 1); go_simp; exact ⟨rfl, rfl⟩)); refine hK _ _ ?_; clear hK K
      -- 6: call builtin len<23>(t25)
      refine stepK rfl (by kernel_rfl) (fun K hK => ?_); go_simp
      apply Exists.intro; apply And.intro; (focus (intro wk hk; go_simp; exact ⟨rfl, rfl⟩)); refine hK _ _ ?_; clear hK K
      -- 7: call F39(t23, t26)
      refine stepS _ rfl (by kernel_rfl) (fun K hK => ?_); go_simp
      refine ⟨?_, ?_⟩
      · intro wk hk hg hu; have u3 := hu 3 (show 3 ∈ [3] by decide); go_simp; refine upon_enter ((k2.out _ v3 (show Ob wk B v3 Z1 from u3).bs).mono ?_); rintro e w' ⟨v, rfl, hv, hb9⟩; exact ⟨_, rfl, left_F rfl rfl hb9 trivial (hv.base (by have := hk.undrew.size; omega))⟩
      rintro ⟨v7, lo7, hi7⟩ - - -
      refine hK _ _ ?_; clear hK K
      -- 8: assign t27
      refine stepK rfl (by kernel_rfl) (fun K hK => ?_); go_simp
      apply Exists.intro; apply And.intro; (focus (intro wk hk; go_simp; exact ⟨rfl, rfl⟩)); refine hK _ _ ?_; clear hK K
      refine stepN ?_
      refine hQ _ _ ?_
      intro w2 hT hG hF
      have hb2 := hT.undrew.below
      have o7 : Ob w2 B v7 Z2 := hF 7 _ rfl rfl (by decide)
      have r26 := r26.below hb2 r26.lt
      have H2 := Lib.hid (show _ ∧ _ from ⟨o7, hl1.out.trans (hb2.mono hl1.out.size)⟩)
      have c1 := r26.cell 1
      clear hT hG hF hQ QQ L hb2 o7 hl1 ob1 k1 k2 r26
      go_wp2_with fail
      go_loopg [3, 31] ne (fun gg s3 s31 wi => ∃ j : Nat, j + gg = ne ∧ s31 = .int .i64 (j : Int) ∧ Hid (Ob wi B s3 (Z2 ++ (le.take j).flatMap amtL)) ∧ Hid (Below w.heap.size w wi))
      case atStart => exact ⟨0, by omega, rfl, Lib.hid (by rw [List.take_zero, List.flatMap_nil, List.append_nil]; exact H2.out.1), Lib.hid H2.out.2⟩
      case round =>
        clear H2 c1
        obtain ⟨j, hjm, rfl, hob, hinv⟩ := hrel
        by_cases hj : j < ne
        · obtain ⟨x, hx⟩ : ∃ x, le[j]? = some x := ⟨_, List.getElem?_eq_getElem (by have := HS.out.2.2; omega)⟩
          obtain ⟨_, _, _, -, -, hok, -⟩ := HC.out.get hinv.out he'.out
          have hxM : x < M := hok.lt x (List.mem_of_getElem? hx)
          obtain ⟨gx, ox, cx, hu, hgx, hcx⟩ := hok.us.elem hx
          simp only [Ev.v, HS.out.2.2, Value.slice.injEq] at hu
          obtain ⟨rfl, -, -⟩ := hu
          have hst := amt_step hx Z2
          obtain ⟨Y0, hY0⟩ : ∃ Z, Z2 ++ (le.take j).flatMap amtL = Z := ⟨_, rfl⟩
          have hy0 : Y0.length ≤ 5000000 := by
            rw [← hY0, List.length_append]
            have h1 := amts_len (le.take j)
            rw [List.length_take] at h1
            have h2 := HS.out.2.1
            omega
          rw [hY0] at hob hst
          have k4 := fun wx vx (h : Bs wx vx Y0) => refamt_any vx Y0 x wx h (by omega) hxM
          rw [hst] at k4
          replace k4 := Lib.hid k4
          clear hok hx hY0 hst hy0 hxM
          have hltj : (j : Int) < (ne : Int) := by omega
          have hBr : B ≤ wr.heap.size := by have := hinv.out.size; omega
          go_upto_region 10 with (fail)
          let L : List Sp := [sA 2 31 [3] #[.int .u64 0, .int .u64 0, .int .u64 0, .int .u64 0], sT 3 2 31 [1] (fun g => aggOf g 1)]
          refine wp_region_six0 (shs L) (look6 L) (None_) (by kernel_rfl) (by kernel_rfl) (mk_St L [] [] (by kernel_rfl) (by kernel_rfl) ⟨ok_A, ok_T aggOf_congr, trivial⟩ (by simp)) ?_
          intro QQ hQ
          -- 0: indexAddr<23> t29[t31]
          refine stepK rfl (by kernel_rfl) (fun K hK => ?_); go_simp
          apply Exists.intro; apply And.intro; (focus (intro wk hk; go_simp; exact ⟨rfl, rfl⟩)); refine hK _ _ ?_; clear hK K
          -- 1: load<31> *t33
          refine stepK rfl (by kernel_rfl) (fun K hK => ?_); go_simp
          apply Exists.intro; apply And.intro; (focus exact kLoadA rfl rfl aggT31 hcx rfl hgx id); refine hK _ _ ?_; clear hK K
          -- 2: alloc<31>
          refine stepS _ rfl (by kernel_rfl) (fun K hK => ?_); go_simp
          refine ⟨?_, ?_⟩
          · intro wk hk hg hu; go_simp; exact left_A rfl rfl
          rintro ⟨v2, lo2, hi2⟩ hlo2 hhi2 ⟨e2, f2⟩
          replace e2 : v2 = .pointer (some ⟨lo2, 0, none⟩) := e2; replace f2 : hi2 = lo2 + 1 := f2; replace hlo2 : _ ≤ lo2 := hlo2; subst e2; subst f2
          refine hK _ _ ?_; clear hK K
          -- 3: store<31> *t7 = t34
          refine stepS _ rfl (by kernel_rfl) (fun K hK => ?_); go_simp
          refine ⟨?_, ?_⟩
          · exact sStoreT rfl rfl rfl rfl rfl rfl rfl (by kernel_rfl) rfl (by kernel_rfl) (by decide) aggOf_congr
          rintro ⟨v3, lo3, hi3⟩ - - (rfl : v3 = undef)
          refine hK _ _ ?_; clear hK K
          refine stepN ?_
          refine hQ _ _ ?_
          intro w4 hT hG hF
          have hb4 := hT.below
          have r8 : Row w4 lo2 31 (W4 x) := (hF 3 _ rfl rfl (by decide)).2
          clear hT hG hF hQ QQ L hcx
          have k5 := k4.out w4 u3 (hob.out.below hb4).bs
          have hl4 := Lib.hid (hinv.out.trans (hb4.mono hinv.out.size))
          have hs4 := hb4.size
          obtain ⟨y0, y1, y2, y3, hW⟩ : ∃ y0 y1 y2 y3 : Int, W4 x = #[.int .u64 y0, .int .u64 y1, .int .u64 y2, .int .u64 y3] := ⟨_, _, _, _, rfl⟩
          simp only [hW] at k5 r8
          have d0 : w4.cell? ⟨lo2, 0, none⟩ = some (.int .u64 y0) := r8.cell 0
          have d1 : w4.cell? ⟨lo2, 1, none⟩ = some (.int .u64 y1) := r8.cell 1
          have d2 : w4.cell? ⟨lo2, 2, none⟩ = some (.int .u64 y2) := r8.cell 2
          have d3 : w4.cell? ⟨lo2, 3, none⟩ = some (.int .u64 y3) := r8.cell 3
          replace k5 := Lib.hid k5
          clear r8 hb4 hob hinv k4 hW
          go_wp2_with fail
          refine k5.out.mono ?_
          rintro e w5 ⟨x5, rfl, ho5, hb5⟩
          have H5 := Lib.hid (show _ ∧ _ from ⟨ho5.base (b' := B) (by omega), hl4.out.trans (hb5.mono hl4.out.size)⟩)
          clear k5 d0 d1 d2 d3 ho5 hb5 hl4
          go_wp2_with fail
          go_roundg (gk - 1)
          case measure => omega
          case rel => exact ⟨j + 1, by omega, by go_num, Lib.hid H5.out.1, Lib.hid H5.out.2⟩
        · obtain rfl : j = ne := by omega
          have hltj : ¬ (j : Int) < (j : Int) := by omega
          rw [List.take_of_length_le (by have := HS.out.2.2; omega), HS.out.1] at hob
          go_wp2_with fail
          go_roundg (g1 - 1)
          case measure => omega
          case rel => exact ⟨i + 1, by omega, by go_num, hob, hinv⟩
    · obtain rfl : i = m := by omega
      have hlt : ¬ (i : Int) < (i : Int) := by omega
      rw [List.take_of_length_le (by omega)] at hob
      go_wp2_with fail
      go_ret
      exact ⟨_, rfl, by rw [← hPe.out]; exact hob.out, by first | exact hinv.out | (rw [hB]; exact hinv.out) | (rw [← hB]; exact hinv.out)⟩
set_option maxRecDepth 100000 in
set_option maxHeartbeats 16000000 in
theorem bytes_at (v : Value) (E : List Ev) (w : World) (h : Es w v E) (hEm : E.length ≤ 140737488355328) :
    Calls Try.prog 73 #[v] w fun e w' => ∃ x, e = .returned x ∧ Ob w' w.heap.size x (bytesB E) ∧ Below w.heap.size w w' := by
  have kg := evgood_at v E w h hEm
  by_cases hg : goodE E = true
  · rw [hg] at kg
    replace kg := Lib.hid kg
    have e9 : bytesB E = putB E := if_pos hg
    rw [e9]
    have kp := Lib.hid fun wx (hb : Below w.heap.size w wx) => put_at (.slice none 0 0) v [] E wx (Bs.nil wx) (by decide) (h.below hb) hg
    clear h hg e9
    go_enter Try.func73, Try.ntmps73
    go_wp2_with fail
    refine kg.out.mono ?_
    rintro e w1 ⟨rfl, hb⟩
    have H1 := Lib.hid hb
    clear kg hb
    go_wp2_with fail
    refine (kp.out _ H1.out).mono ?_
    rintro e w2 ⟨x, rfl, ho, hb⟩
    have H2 := Lib.hid (show _ ∧ _ from ⟨ho.base H1.out.size, H1.out.trans (hb.mono H1.out.size)⟩)
    clear kp ho hb
    go_wp2_with fail
    go_ret
    exact ⟨_, rfl, H2.out.1, H2.out.2⟩
  · have hg' : goodE E = false := by simpa using hg
    rw [hg'] at kg
    replace kg := Lib.hid kg
    have e : bytesB E = [] := if_neg hg
    rw [e]
    clear h hg hg' e
    go_enter Try.func73, Try.ntmps73
    go_wp2_with fail
    refine kg.out.mono ?_
    rintro e w1 ⟨rfl, hb⟩
    clear kg
    go_wp2_with fail
    go_ret
    exact ⟨_, rfl, Ob.nil _ _, hb⟩
set_option maxRecDepth 100000 in
set_option maxHeartbeats 16000000 in
theorem result_at (code : Int) (v : Value) (E : List Ev) (w : World) (h : Es w v E) (hEm : E.length ≤ 140737488355328) :
    Calls Try.prog 75 #[.int .i64 code, v] w fun e w' => ∃ x, e = .returned x ∧ Ob w' w.heap.size x (resB code E) ∧ Below w.heap.size w w' := by
  have hca : code < 0 ∨ (¬ code < 0 ∧ 19 < code) ∨ (¬ code < 0 ∧ ¬ 19 < code) := by omega
  rcases hca with h1 | ⟨h1, h2⟩ | ⟨h1, h2⟩
  · rw [show resB code E = [] from if_pos (by omega)]
    clear h
    go_enter Try.func75, Try.ntmps75
    go_wp2_with fail
    go_ret
    exact ⟨_, rfl, Ob.nil _ _, Below.refl _ _⟩
  · rw [show resB code E = [] from if_pos (by omega)]
    clear h
    go_enter Try.func75, Try.ntmps75
    go_wp2_with fail
    go_ret
    exact ⟨_, rfl, Ob.nil _ _, Below.refl _ _⟩
  · have e8 : resB code E = if goodE E = true then enc code.toNat ++ putB E else [] := if_neg (by omega)
    have kg := evgood_at v E w h hEm
    by_cases hg : goodE E = true
    · rw [hg] at kg
      replace kg := Lib.hid kg
      rw [e8, if_pos hg]
      have kv := Lib.hid fun wx => var_any (.slice none 0 0) [] code wx (Bs.nil wx) (by decide) (by omega)
      have hel := enc_len9 (m := code.toNat) (by omega)
      have kp := Lib.hid fun wx vx (hb : Below w.heap.size w wx) (hv : Bs wx vx (enc code.toNat)) => put_at vx v (enc code.toNat) E wx hv (by omega) (h.below hb) hg
      clear h hg e8 hel
      go_enter Try.func75, Try.ntmps75
      go_wp2_with fail
      refine kg.out.mono ?_
      rintro e w1 ⟨rfl, hb⟩
      have H1 := Lib.hid hb
      clear kg hb
      go_wp2_with fail
      refine (kv.out _).mono ?_
      rintro e w2 ⟨x, rfl, ho, hb⟩
      rw [List.nil_append] at ho
      have H2 := Lib.hid (show _ ∧ _ from ⟨ho.bs, H1.out.trans (hb.mono H1.out.size)⟩)
      clear kv ho hb H1
      go_wp2_with fail
      refine (kp.out _ _ H2.out.2 H2.out.1).mono ?_
      rintro e w3 ⟨y, rfl, ho, hb⟩
      have H3 := Lib.hid (show _ ∧ _ from ⟨ho.base H2.out.2.size, H2.out.2.trans (hb.mono H2.out.2.size)⟩)
      clear kp ho hb H2
      go_wp2_with fail
      go_ret
      exact ⟨_, rfl, H3.out.1, H3.out.2⟩
    · have hg' : goodE E = false := by simpa using hg
      rw [hg'] at kg
      replace kg := Lib.hid kg
      rw [e8, if_neg hg]
      clear h hg hg' e8
      go_enter Try.func75, Try.ntmps75
      go_wp2_with fail
      refine kg.out.mono ?_
      rintro e w1 ⟨rfl, hb⟩
      clear kg
      go_wp2_with fail
      go_ret
      exact ⟨_, rfl, Ob.nil _ _, hb⟩
set_option maxRecDepth 100000 in
set_option maxHeartbeats 16000000 in
theorem refresult_at (code : Int) (v : Value) (E : List Ev) (w : World) (h : Es w v E) (hEm : E.length ≤ 100000) (hlen : ∀ e ∈ E, e.l.length ≤ 5000) :
    Calls Try.prog 76 #[.int .i64 code, v] w fun e w' => ∃ x, e = .returned x ∧ Ob w' w.heap.size x (resB code E) ∧ Below w.heap.size w w' := by
  have hca : code < 0 ∨ (¬ code < 0 ∧ 19 < code) ∨ (¬ code < 0 ∧ ¬ 19 < code) := by omega
  rcases hca with h1 | ⟨h1, h2⟩ | ⟨h1, h2⟩
  · rw [show resB code E = [] from if_pos (by omega)]
    clear h
    go_enter Try.func76, Try.ntmps76
    go_wp2_with fail
    go_ret
    exact ⟨_, rfl, Ob.nil _ _, Below.refl _ _⟩
  · rw [show resB code E = [] from if_pos (by omega)]
    clear h
    go_enter Try.func76, Try.ntmps76
    go_wp2_with fail
    go_ret
    exact ⟨_, rfl, Ob.nil _ _, Below.refl _ _⟩
  · have e8 : resB code E = if goodE E = true then enc code.toNat ++ putB E else [] := if_neg (by omega)
    have kg := refgood_at v E w h hEm hlen
    by_cases hg : goodE E = true
    · rw [hg] at kg
      replace kg := Lib.hid kg
      rw [e8, if_pos hg]
      have kv := Lib.hid fun wx => refvar_any (.slice none 0 0) [] code wx (Bs.nil wx) (by decide) (by omega)
      have hel := enc_len9 (m := code.toNat) (by omega)
      have kb := fun wx (hb : Below w.heap.size w wx) => refbytes_at v E wx (h.below hb) hEm hlen
      rw [show bytesB E = putB E from if_pos hg] at kb
      replace kb := Lib.hid kb
      have hpl : (putB E).length ≤ 4000000 := by
        unfold putB
        obtain ⟨hm1, hall⟩ := (good_is E).1 hg
        rw [List.length_append]
        have a1 := enc_len9 (m := E.length) (by omega)
        have a2 := evs_len hall
        omega
      have HL := Lib.hid (show _ ∧ _ from ⟨hel, hpl⟩)
      clear h hg e8 hel hpl hlen
      go_enter Try.func76, Try.ntmps76
      go_wp2_with fail
      refine kg.out.mono ?_
      rintro e w1 ⟨rfl, hb⟩
      have H1 := Lib.hid hb
      clear kg hb
      go_wp2_with fail
      refine (kv.out _).mono ?_
      rintro e w2 ⟨x, rfl, ho, hb⟩
      rw [List.nil_append] at ho
      have H2 := Lib.hid (show _ ∧ _ from ⟨ho.base (b' := w.heap.size) H1.out.size, H1.out.trans (hb.mono H1.out.size)⟩)
      clear kv ho hb H1
      go_wp2_with fail
      refine (kb.out _ H2.out.2).mono ?_
      rintro e w3 ⟨y, rfl, ho, hb⟩
      have ho2 := H2.out.1.below hb
      have hl3 := H2.out.2.trans (hb.mono H2.out.2.size)
      obtain ⟨z, w4, hrun, ho4, hg4, -⟩ := append_run ho2 ho.bs (by have := HL.out; omega) hl3.size
      have hl4 : Below w.heap.size w w4 := hl3.trans ⟨hg4.os, hg4.tape, hg4.output, hg4.size, fun k hk => hg4.block k (Nat.lt_of_lt_of_le hk hl3.size) (fun e => by have := (ho2.lt k e.symm).1; omega)⟩
      have H4 := Lib.hid (show _ ∧ _ from ⟨ho4, hl4⟩)
      clear kb ho hb H2 ho2 hl3 ho4 hg4 hl4
      go_wp2_with (at_builtin; refine wpList_app rfl rfl rfl rfl hrun ?_)
      go_ret
      exact ⟨_, rfl, H4.out.1, H4.out.2⟩
    · have hg' : goodE E = false := by simpa using hg
      rw [hg'] at kg
      replace kg := Lib.hid kg
      rw [e8, if_neg hg]
      clear h hg hg' e8
      go_enter Try.func76, Try.ntmps76
      go_wp2_with fail
      refine kg.out.mono ?_
      rintro e w1 ⟨rfl, hb⟩
      clear kg
      go_wp2_with fail
      go_ret
      exact ⟨_, rfl, Ob.nil _ _, hb⟩
end Go.Proofs.Ytpdenhmkpiafiaa
