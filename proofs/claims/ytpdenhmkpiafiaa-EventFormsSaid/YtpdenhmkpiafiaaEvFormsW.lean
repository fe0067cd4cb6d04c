/-
  tallagelaw14.EventForms, THE WALK.
-/
import Derived.Test.YtpdenhmkpiafiaaEvPut
import Derived.Test.YtpdenhmkpiafiaaEvSame
import Derived.Test.YtpdenhmkpiafiaaEvRef
import Derived.Test.YtpdenhmkpiafiaaOctKU
namespace Go.Proofs.Ytpdenhmkpiafiaa
open Go Go.RowKit K6

set_option maxRecDepth 100000 in
set_option maxHeartbeats 32000000 in
theorem forms14_walk (u v : Value) (E F : List Ev) (code : Int) (w : World) (hE : Es w u E) (hF : Es w v F) (hlE : ∀ e ∈ E, e.l.length ≤ 140737488355328) (hlF : ∀ e ∈ F, e.l.length ≤ 140737488355328) :
    Calls Try.prog 11 #[u, v, .int .i64 code] w fun e w' => e = .returned (.bool true) ∧ Below w.heap.size w w' := by
  have lv := Lib.hid fun wx => lives14U wx
  have l1 := Lib.hid (light_at u E w hE hlE)
  have l2 := Lib.hid fun wx (hb : Below w.heap.size w wx) => light_at v F wx (hF.below hb) hlF
  have HE := Lib.hid hE
  have HF := Lib.hid hF
  clear hlE hlF
  obtain ⟨q1, c1, rfl, -, -⟩ := hE
  obtain ⟨q2, c2, rfl, -, -⟩ := hF
  obtain ⟨m, hm⟩ : ∃ m, E.length = m := ⟨_, rfl⟩
  obtain ⟨m2, hm2⟩ : ∃ m, F.length = m := ⟨_, rfl⟩
  rw [hm] at l1 HE ⊢
  rw [hm2] at l2 HF ⊢
  go_enter Try.func11, Try.ntmps11
  go_wp2_with fail
  refine l1.out.mono ?_
  rintro e w1 ⟨b1, rfl, h1, hb⟩
  have H := Lib.hid hb
  clear l1 hb
  cases b1
  · go_wp2_with fail
    refine (lv.out _).mono ?_
    rintro e w9 ⟨rfl, hb⟩
    have H9 := Lib.hid (H.out.trans (hb.mono H.out.size))
    clear hb H
    go_wp2_with fail
    go_ret
    exact ⟨rfl, H9.out⟩
  have H1 := Lib.hid (h1 rfl)
  clear h1
  go_wp2_with fail
  refine (l2.out _ H.out).mono ?_
  rintro e w2 ⟨b2, rfl, h2, hb⟩
  replace H := Lib.hid (H.out.trans (hb.mono H.out.size))
  clear l2 hb
  cases b2
  · go_wp2_with fail
    refine (lv.out _).mono ?_
    rintro e w9 ⟨rfl, hb⟩
    have H9 := Lib.hid (H.out.trans (hb.mono H.out.size))
    clear hb H
    go_wp2_with fail
    go_ret
    exact ⟨rfl, H9.out⟩
  have H2 := Lib.hid (h2 rfl)
  clear h2
  have hmi : (m : Int) ≤ 1100 := by have := H1.out.1; omega
  go_wp2_with fail
  go_loopg [20] m (fun gg s20 wr => ∃ i : Nat, i + gg = m ∧ s20 = .int .i64 (i : Int) ∧ Hid (Below w.heap.size w wr))
  case atStart => exact ⟨0, by omega, rfl, H⟩
  case round =>
    clear H
    obtain ⟨i, him, rfl, hinv⟩ := hrel
    by_cases hi : i < m
    · obtain ⟨ev, he⟩ : ∃ ev, E[i]? = some ev := ⟨_, List.getElem?_eq_getElem (by omega)⟩
      obtain ⟨g, o, c', hu, hg, hok, hcs⟩ := HE.out.get hinv.out he
      simp only [Value.slice.injEq] at hu
      obtain ⟨rfl, -, -⟩ := hu
      have hle := H1.out.2 ev (List.mem_of_getElem? he)
      have k1 := fun wx (hb : Below wr.heap.size wr wx) => evtext_at ev.k ev.v ev.l wx (hok.us.below hb) hok.lt (by omega)
      have k2 := fun wx (hb : Below wr.heap.size wr wx) => reftext_at ev.k ev.v ev.l wx (hok.us.below hb) hok.lt (by omega)
      obtain ⟨T, hT0⟩ : ∃ T, textT ev.k ev.l = T := ⟨_, rfl⟩
      rw [hT0] at k1 k2
      clear he hok hle hT0
      obtain ⟨k, qe, ce, le⟩ := ev
      obtain ⟨ne, hne⟩ : ∃ ne, le.length = ne := ⟨_, rfl⟩
      simp only [Ev.v, hne] at hcs
      simp only [Ev.v, hne] at k1 k2
      replace k1 := Lib.hid k1
      replace k2 := Lib.hid k2
      clear hne
      have hlt : (i : Int) < (m : Int) := by omega
      go_upto_region 5 with (fail)
      let L : List Sp := [sA 3 26 [5] #[.int .i64 0, .slice none 0 0], sT 5 3 26 [2] (fun g => aggOf g 2)]
      refine wp_region_six0 (shs L) (look6 L) (None_) (by kernel_rfl) (by kernel_rfl) (mk_St L [] [] (by kernel_rfl) (by kernel_rfl) ⟨ok_A, ok_T aggOf_congr, trivial⟩ (by simp)) ?_
      intro QQ hQ
      -- 0: t20
      refine stepK rfl (by kernel_rfl) (fun K hK => ?_); go_simp
      apply Exists.intro; apply And.intro; (focus (intro wk hk; go_simp; exact ⟨rfl, rfl⟩)); refine hK _ _ ?_; clear hK K
      -- 1: indexAddr<77> t18[t20]
      refine stepK rfl (by kernel_rfl) (fun K hK => ?_); go_simp
      apply Exists.intro; apply And.intro; (focus (intro wk hk; go_simp; exact ⟨rfl, rfl⟩)); refine hK _ _ ?_; clear hK K
      -- 2: load<26> *t23
      refine stepK rfl (by kernel_rfl) (fun K hK => ?_); go_simp
      apply Exists.intro; apply And.intro; (focus exact kLoadE rfl rfl aggT26 hcs rfl hg id); refine hK _ _ ?_; clear hK K
      -- 3: alloc<26>
      refine stepS _ rfl (by kernel_rfl) (fun K hK => ?_); go_simp
      refine ⟨?_, ?_⟩
      · intro wk hk hg hu; go_simp; exact left_A rfl rfl
      rintro ⟨v3, lo3, hi3⟩ hlo3 hhi3 ⟨e3, f3⟩
      replace e3 : v3 = .pointer (some ⟨lo3, 0, none⟩) := e3; replace f3 : hi3 = lo3 + 1 := f3; replace hlo3 : _ ≤ lo3 := hlo3; subst e3; subst f3
      refine hK _ _ ?_; clear hK K
      -- 4: assign t22
      refine stepK rfl (by kernel_rfl) (fun K hK => ?_); go_simp
      apply Exists.intro; apply And.intro; (focus (intro wk hk; go_simp; exact ⟨rfl, rfl⟩)); refine hK _ _ ?_; clear hK K
      -- 5: store<26> *t8 = t24
      refine stepS _ rfl (by kernel_rfl) (fun K hK => ?_); go_simp
      refine ⟨?_, ?_⟩
      · exact sStoreT rfl rfl rfl rfl rfl rfl rfl (by kernel_rfl) rfl (by kernel_rfl) (by decide) aggOf_congr
      rintro ⟨v5, lo5, hi5⟩ - - (rfl : v5 = undef)
      refine hK _ _ ?_; clear hK K
      refine stepN ?_
      refine hQ _ _ ?_
      intro w1 hT hG hF
      have hbw1 := hT.below
      have r26 : Row w1 lo3 26 (#[.int .i64 k, .slice qe ne ce]) := (hF 5 _ rfl rfl (by decide)).2
      clear hT hG hF hQ QQ L
      have hl1 := Lib.hid (hinv.out.trans (hbw1.mono hinv.out.size))
      have hbw := Lib.hid hbw1
      have hsw := Nat.le_trans hinv.out.size hbw1.size
      clear hbw1 hinv hcs hg
      by_cases h20 : (i : Int) < 20
      · go_upto_region 6 with (fail)
        let L : List Sp := [sV 4 [] [] (fun u => u = .string T), sV 6 [] [] (fun u => u = .string T)]
        refine wp_region_six (shs L) (look6 L) (None_) (by kernel_rfl) (by kernel_rfl) (mk_St L [] [] (by kernel_rfl) (by kernel_rfl) ⟨ok_V ⟨_, rfl⟩, ok_V ⟨_, rfl⟩, trivial⟩ (by simp)) ?_
        intro QQ hQ
        -- 0: t7
        refine stepK rfl (by kernel_rfl) (fun K hK => ?_); go_simp
        apply Exists.intro; apply And.intro; (focus (intro wk hk; go_simp; exact ⟨rfl, rfl⟩)); refine hK _ _ ?_; clear hK K
        -- 1: lss<3> t25, 20
        refine stepK rfl (by kernel_rfl) (fun K hK => ?_); go_simp
        apply Exists.intro; apply And.intro; (focus (intro wk hk; go_simp; exact ⟨rfl, rfl⟩)); refine hK _ _ ?_; clear hK K
        -- 2: t26
        refine stepK rfl (by kernel_rfl) (fun K hK => ?_); go_simp
        apply Exists.intro; apply And.intro; (focus (intro wk hk; go_simp; exact ⟨rfl, rfl⟩)); refine hK _ _ ?_; clear hK K
        -- 3: load<26> *t8
        refine stepK rfl (by kernel_rfl) (fun K hK => ?_); go_simp
        first | (refine hK _ _ ?_; clear hK K) | (apply Exists.intro; apply And.intro; (focus exact kLoad rfl rfl aggT26 r26 rfl id); refine hK _ _ ?_; clear hK K)
        -- 4: call F71(t28)
        refine stepS _ rfl (by kernel_rfl) (fun K hK => ?_); go_simp
        refine ⟨?_, ?_⟩
        · intro wk hk hg hu; go_simp; refine upon_enter ((k1.out _ (hbw.out.trans (hk.undrew.below.mono hbw.out.size))).mono ?_); rintro e w' ⟨rfl, hb⟩; exact ⟨_, rfl, left_V (p := fun u => u = .string T) rfl (hb) rfl⟩
        rintro ⟨v4, lo4, hi4⟩ - - (rfl : v4 = _)
        refine hK _ _ ?_; clear hK K
        -- 5: load<26> *t8
        refine stepK rfl (by kernel_rfl) (fun K hK => ?_); go_simp
        first | (refine hK _ _ ?_; clear hK K) | (apply Exists.intro; apply And.intro; (focus exact kLoad rfl rfl aggT26 r26 rfl id); refine hK _ _ ?_; clear hK K)
        -- 6: call F72(t30)
        refine stepS _ rfl (by kernel_rfl) (fun K hK => ?_); go_simp
        refine ⟨?_, ?_⟩
        · intro wk hk hg hu; go_simp; refine upon_enter ((k2.out _ (hbw.out.trans (hk.undrew.below.mono hbw.out.size))).mono ?_); rintro e w' ⟨rfl, hb⟩; exact ⟨_, rfl, left_V (p := fun u => u = .string T) rfl (hb) rfl⟩
        rintro ⟨v6, lo6, hi6⟩ - - (rfl : v6 = _)
        refine hK _ _ ?_; clear hK K
        -- 7: neq<9> t29, t31
        refine stepK rfl (by kernel_rfl) (fun K hK => ?_); go_simp
        first | (refine hK _ _ ?_; clear hK K) | (apply Exists.intro; apply And.intro; (focus (intro wk hk; go_simp; exact ⟨rfl, rfl⟩)); refine hK _ _ ?_; clear hK K)
        -- 8: pick t27 ? t32 : false
        refine stepK rfl (by kernel_rfl) (fun K hK => ?_); go_simp
        apply Exists.intro; apply And.intro; (focus (intro wk hk; go_simp; exact ⟨rfl, rfl⟩)); refine hK _ _ ?_; clear hK K
        refine stepN ?_
        refine hQ _ _ ?_
        intro w4 hT hG hF
        have hl4 := Lib.hid (hl1.out.trans (hT.undrew.below.mono hsw))
        clear hT hG hF hQ QQ L r26 k1 k2 hbw hl1
        go_wp2_with fail
        go_roundg (gk - 1)
        case measure => omega
        case rel => exact ⟨i + 1, by omega, by go_num, hl4⟩
      · go_upto_region 6 with (fail)
        let L : List Sp := []
        refine wp_region_six (shs L) (look6 L) (None_) (by kernel_rfl) (by kernel_rfl) (mk_St L [] [] (by kernel_rfl) (by kernel_rfl) trivial (by simp)) ?_
        intro QQ hQ
        -- 0: t7
        refine stepK rfl (by kernel_rfl) (fun K hK => ?_); go_simp
        apply Exists.intro; apply And.intro; (focus (intro wk hk; go_simp; exact ⟨rfl, rfl⟩)); refine hK _ _ ?_; clear hK K
        -- 1: lss<3> t25, 20
        refine stepK rfl (by kernel_rfl) (fun K hK => ?_); go_simp
        apply Exists.intro; apply And.intro; (focus (intro wk hk; go_simp; exact ⟨rfl, rfl⟩)); refine hK _ _ ?_; clear hK K
        -- 2: t26
        refine stepK rfl (by kernel_rfl) (fun K hK => ?_); go_simp
        apply Exists.intro; apply And.intro; (focus (intro wk hk; go_simp; exact ⟨rfl, rfl⟩)); refine hK _ _ ?_; clear hK K
        -- 3: load<26> *t8
        refine stepK rfl (by kernel_rfl) (fun K hK => ?_); go_simp
        first | (refine hK _ _ ?_; clear hK K) | (apply Exists.intro; apply And.intro; (focus (intro wk hk; go_simp; exact ⟨rfl, rfl⟩)); refine hK _ _ ?_; clear hK K)
        -- 4: call F71(t28)
        refine stepK rfl (by kernel_rfl) (fun K hK => ?_); go_simp
        first | (refine hK _ _ ?_; clear hK K) | (apply Exists.intro; apply And.intro; (focus (intro wk hk; go_simp; exact ⟨rfl, rfl⟩)); refine hK _ _ ?_; clear hK K)
        -- 5: load<26> *t8
        refine stepK rfl (by kernel_rfl) (fun K hK => ?_); go_simp
        first | (refine hK _ _ ?_; clear hK K) | (apply Exists.intro; apply And.intro; (focus (intro wk hk; go_simp; exact ⟨rfl, rfl⟩)); refine hK _ _ ?_; clear hK K)
        -- 6: call F72(t30)
        refine stepK rfl (by kernel_rfl) (fun K hK => ?_); go_simp
        first | (refine hK _ _ ?_; clear hK K) | (apply Exists.intro; apply And.intro; (focus (intro wk hk; go_simp; exact ⟨rfl, rfl⟩)); refine hK _ _ ?_; clear hK K)
        -- 7: neq<9> t29, t31
        refine stepK rfl (by kernel_rfl) (fun K hK => ?_); go_simp
        first | (refine hK _ _ ?_; clear hK K) | (apply Exists.intro; apply And.intro; (focus (intro wk hk; go_simp; exact ⟨rfl, rfl⟩)); refine hK _ _ ?_; clear hK K)
        -- 8: pick t27 ? t32 : false
        refine stepK rfl (by kernel_rfl) (fun K hK => ?_); go_simp
        apply Exists.intro; apply And.intro; (focus (intro wk hk; go_simp; exact ⟨rfl, rfl⟩)); refine hK _ _ ?_; clear hK K
        refine stepN ?_
        refine hQ _ _ ?_
        intro w4 hT hG hF
        have hl4 := Lib.hid (hl1.out.trans (hT.undrew.below.mono hsw))
        clear hT hG hF hQ QQ L r26 k1 k2 hbw hl1
        go_wp2_with fail
        go_roundg (gk - 1)
        case measure => omega
        case rel => exact ⟨i + 1, by omega, by go_num, hl4⟩
    · obtain rfl : i = m := by omega
      have hlt : ¬ (i : Int) < (i : Int) := by omega
      go_upto_region 9 with (fail)
      have k73 := fun wx (hb : Below wr.heap.size wr wx) => bytes_at _ E wx (HE.out.below (hinv.out.trans (hb.mono hinv.out.size))) (by omega)
      have k74 := fun wx (hb : Below wr.heap.size wr wx) => refbytes_at _ E wx (HE.out.below (hinv.out.trans (hb.mono hinv.out.size))) (by omega) H1.out.2
      have k75 := fun wx (hb : Below wr.heap.size wr wx) => result_at code _ E wx (HE.out.below (hinv.out.trans (hb.mono hinv.out.size))) (by omega)
      have k76 := fun wx (hb : Below wr.heap.size wr wx) => refresult_at code _ E wx (HE.out.below (hinv.out.trans (hb.mono hinv.out.size))) (by omega) H1.out.2
      have k77 := fun wx (hb : Below wr.heap.size wr wx) => same_at _ _ E F wx (HE.out.below (hinv.out.trans (hb.mono hinv.out.size))) (HF.out.below (hinv.out.trans (hb.mono hinv.out.size))) (by omega) H1.out.2
      have k78 := fun wx (hb : Below wr.heap.size wr wx) => refsame_at _ _ E F wx (HE.out.below (hinv.out.trans (hb.mono hinv.out.size))) (HF.out.below (hinv.out.trans (hb.mono hinv.out.size))) (by omega) H1.out.2
      have k79 := fun wx => name_at code wx
      have k80 := fun wx => refname_at code wx
      obtain ⟨l1, hl1⟩ : ∃ l, bytesB E = l := ⟨_, rfl⟩
      obtain ⟨l2, hl2⟩ : ∃ l, resB code E = l := ⟨_, rfl⟩
      obtain ⟨b, hb⟩ : ∃ b, sameE E F = b := ⟨_, rfl⟩
      obtain ⟨N, hN⟩ : ∃ N, nmOf code = N := ⟨_, rfl⟩
      rw [hl1] at k73 k74
      rw [hl2] at k75 k76
      rw [hb] at k77 k78
      rw [hN] at k79 k80
      clear hl1 hl2 hb hN
      replace k73 := Lib.hid k73
      replace k74 := Lib.hid k74
      replace k75 := Lib.hid k75
      replace k76 := Lib.hid k76
      replace k77 := Lib.hid k77
      replace k78 := Lib.hid k78
      replace k79 := Lib.hid k79
      replace k80 := Lib.hid k80
      obtain ⟨B1, hB1⟩ : ∃ B, Hid (strOfNums l1 = B) := ⟨_, Lib.hid rfl⟩
      obtain ⟨B2, hB2⟩ : ∃ B, Hid (strOfNums l2 = B) := ⟨_, Lib.hid rfl⟩
      let L : List Sp := [sF 1 [] [] [] (fun _ => True) (fun x w => Bs w x.v l1), sV 2 [1] [1] (fun u => u = .string B1), sF 4 [] [] [] (fun _ => True) (fun x w => Bs w x.v l1), sV 5 [4] [4] (fun u => u = .string B1), sF 10 [] [] [] (fun _ => True) (fun x w => Bs w x.v l2), sV 11 [10] [10] (fun u => u = .string B2), sF 14 [] [] [] (fun _ => True) (fun x w => Bs w x.v l2), sV 15 [14] [14] (fun u => u = .string B2), sV 21 [] [] (fun u => u = .bool b), sV 24 [] [] (fun u => u = .bool b), sV 29 [] [] (fun u => u = .string N), sV 31 [] [] (fun u => u = .string N), sV 35 [] [] (fun u => u = .bool true)]
      refine wp_region_six7 (shs L) (look6 L) (None_) (by kernel_rfl) (by kernel_rfl) (mk_St L [] [] (by kernel_rfl) (by kernel_rfl) ⟨ok_F (any_some _) (fun _ _ _ h hb => Bs.below h hb), ok_V ⟨_, rfl⟩, ok_F (any_some _) (fun _ _ _ h hb => Bs.below h hb), ok_V ⟨_, rfl⟩, ok_F (any_some _) (fun _ _ _ h hb => Bs.below h hb), ok_V ⟨_, rfl⟩, ok_F (any_some _) (fun _ _ _ h hb => Bs.below h hb), ok_V ⟨_, rfl⟩, ok_V ⟨_, rfl⟩, ok_V ⟨_, rfl⟩, ok_V ⟨_, rfl⟩, ok_V ⟨_, rfl⟩, ok_V ⟨_, rfl⟩, trivial⟩ (by simp)) ?_
      intro QQ hQ
      -- 0: t0
      refine stepK rfl (by kernel_rfl) (fun K hK => ?_); go_simp
      apply Exists.intro; apply And.intro; (focus (intro wk hk; go_simp; exact ⟨rfl, rfl⟩)); refine hK _ _ ?_; clear hK K
      -- 1: call F73(t35)
      refine stepS _ rfl (by kernel_rfl) (fun K hK => ?_); go_simp
      refine ⟨?_, ?_⟩
      · intro wk hk hg hu; go_simp; refine upon_enter ((k73.out _ hk.undrew.below).mono ?_); rintro e w' ⟨v, rfl, hv, hb9⟩; exact ⟨_, rfl, left_F rfl rfl hb9 trivial hv.bs⟩
      rintro ⟨v1, lo1, hi1⟩ - - -
      refine hK _ _ ?_; clear hK K
      -- 2: convert<33->9> t36
      refine stepS _ rfl (by kernel_rfl) (fun K hK => ?_); go_simp
      refine ⟨?_, ?_⟩
      · intro wk hk hg hu; have u1 := hu 1 (show 1 ∈ [1] by decide); have b1 : Bs wk v1 l1 := u1; have cv := Bs.convA b1; rw [hB1.out] at cv; go_simp; exact left_V (p := fun u => u = .string B1) rfl (Below.refl _ _) rfl
      rintro ⟨v2, lo2, hi2⟩ - - (rfl : v2 = _)
      refine hK _ _ ?_; clear hK K
      -- 3: t0
      refine stepK rfl (by kernel_rfl) (fun K hK => ?_); go_simp
      apply Exists.intro; apply And.intro; (focus (intro wk hk; go_simp; exact ⟨rfl, rfl⟩)); refine hK _ _ ?_; clear hK K
      -- 4: call F74(t38)
      refine stepS _ rfl (by kernel_rfl) (fun K hK => ?_); go_simp
      refine ⟨?_, ?_⟩
      · intro wk hk hg hu; go_simp; refine upon_enter ((k74.out _ hk.undrew.below).mono ?_); rintro e w' ⟨v, rfl, hv, hb9⟩; exact ⟨_, rfl, left_F rfl rfl hb9 trivial hv.bs⟩
      rintro ⟨v4, lo4, hi4⟩ - - -
      refine hK _ _ ?_; clear hK K
      -- 5: convert<33->9> t39
      refine stepS _ rfl (by kernel_rfl) (fun K hK => ?_); go_simp
      refine ⟨?_, ?_⟩
      · intro wk hk hg hu; have u4 := hu 4 (show 4 ∈ [4] by decide); have b4 : Bs wk v4 l1 := u4; have cv := Bs.convA b4; rw [hB1.out] at cv; go_simp; exact left_V (p := fun u => u = .string B1) rfl (Below.refl _ _) rfl
      rintro ⟨v5, lo5, hi5⟩ - - (rfl : v5 = _)
      refine hK _ _ ?_; clear hK K
      -- 6: eql<9> t37, t40
      refine stepK rfl (by kernel_rfl) (fun K hK => ?_); go_simp
      apply Exists.intro; apply And.intro; (focus (intro wk hk; go_simp; exact ⟨rfl, rfl⟩)); refine hK _ _ ?_; clear hK K
      -- 7: t41
      refine stepK rfl (by kernel_rfl) (fun K hK => ?_); go_simp
      apply Exists.intro; apply And.intro; (focus (intro wk hk; go_simp; exact ⟨rfl, rfl⟩)); refine hK _ _ ?_; clear hK K
      -- 8: t2
      refine stepK rfl (by kernel_rfl) (fun K hK => ?_); go_simp
      first | (refine hK _ _ ?_; clear hK K) | (apply Exists.intro; apply And.intro; (focus (intro wk hk; go_simp; exact ⟨rfl, rfl⟩)); refine hK _ _ ?_; clear hK K)
      -- 9: t0
      refine stepK rfl (by kernel_rfl) (fun K hK => ?_); go_simp
      first | (refine hK _ _ ?_; clear hK K) | (apply Exists.intro; apply And.intro; (focus (intro wk hk; go_simp; exact ⟨rfl, rfl⟩)); refine hK _ _ ?_; clear hK K)
      -- 10: call F75(t43, t44)
      refine stepS _ rfl (by kernel_rfl) (fun K hK => ?_); go_simp
      refine ⟨?_, ?_⟩
      · intro wk hk hg hu; go_simp; refine upon_enter ((k75.out _ hk.undrew.below).mono ?_); rintro e w' ⟨v, rfl, hv, hb9⟩; exact ⟨_, rfl, left_F rfl rfl hb9 trivial hv.bs⟩
      rintro ⟨v10, lo10, hi10⟩ - - -
      refine hK _ _ ?_; clear hK K
      -- 11: convert<33->9> t45
      refine stepS _ rfl (by kernel_rfl) (fun K hK => ?_); go_simp
      refine ⟨?_, ?_⟩
      · intro wk hk hg hu; have u10 := hu 10 (show 10 ∈ [10] by decide); have b10 : Bs wk v10 l2 := u10; have cv := Bs.convA b10; rw [hB2.out] at cv; go_simp; exact left_V (p := fun u => u = .string B2) rfl (Below.refl _ _) rfl
      rintro ⟨v11, lo11, hi11⟩ - - (rfl : v11 = _)
      refine hK _ _ ?_; clear hK K
      -- 12: t2
      refine stepK rfl (by kernel_rfl) (fun K hK => ?_); go_simp
      first | (refine hK _ _ ?_; clear hK K) | (apply Exists.intro; apply And.intro; (focus (intro wk hk; go_simp; exact ⟨rfl, rfl⟩)); refine hK _ _ ?_; clear hK K)
      -- 13: t0
      refine stepK rfl (by kernel_rfl) (fun K hK => ?_); go_simp
      first | (refine hK _ _ ?_; clear hK K) | (apply Exists.intro; apply And.intro; (focus (intro wk hk; go_simp; exact ⟨rfl, rfl⟩)); refine hK _ _ ?_; clear hK K)
      -- 14: call F76(t47, t48)
      refine stepS _ rfl (by kernel_rfl) (fun K hK => ?_); go_simp
      refine ⟨?_, ?_⟩
      · intro wk hk hg hu; go_simp; refine upon_enter ((k76.out _ hk.undrew.below).mono ?_); rintro e w' ⟨v, rfl, hv, hb9⟩; exact ⟨_, rfl, left_F rfl rfl hb9 trivial hv.bs⟩
      rintro ⟨v14, lo14, hi14⟩ - - -
      refine hK _ _ ?_; clear hK K
      -- 15: convert<33->9> t49
      refine stepS _ rfl (by kernel_rfl) (fun K hK => ?_); go_simp
      refine ⟨?_, ?_⟩
      · intro wk hk hg hu; have u14 := hu 14 (show 14 ∈ [14] by decide); have b14 : Bs wk v14 l2 := u14; have cv := Bs.convA b14; rw [hB2.out] at cv; go_simp; exact left_V (p := fun u => u = .string B2) rfl (Below.refl _ _) rfl
      rintro ⟨v15, lo15, hi15⟩ - - (rfl : v15 = _)
      refine hK _ _ ?_; clear hK K
      -- 16: eql<9> t46, t50
      refine stepK rfl (by kernel_rfl) (fun K hK => ?_); go_simp
      first | (refine hK _ _ ?_; clear hK K) | (apply Exists.intro; apply And.intro; (focus (intro wk hk; go_simp; exact ⟨rfl, rfl⟩)); refine hK _ _ ?_; clear hK K)
      -- 17: pick t42 ? t51 : false
      refine stepK rfl (by kernel_rfl) (fun K hK => ?_); go_simp
      apply Exists.intro; apply And.intro; (focus (intro wk hk; go_simp; exact ⟨rfl, rfl⟩)); refine hK _ _ ?_; clear hK K
      -- 18: t52
      refine stepK rfl (by kernel_rfl) (fun K hK => ?_); go_simp
      apply Exists.intro; apply And.intro; (focus (intro wk hk; go_simp; exact ⟨rfl, rfl⟩)); refine hK _ _ ?_; clear hK K
      -- 19: t0
      refine stepK rfl (by kernel_rfl) (fun K hK => ?_); go_simp
      first | (refine hK _ _ ?_; clear hK K) | (apply Exists.intro; apply And.intro; (focus (intro wk hk; go_simp; exact ⟨rfl, rfl⟩)); refine hK _ _ ?_; clear hK K)
      -- 20: t1
      refine stepK rfl (by kernel_rfl) (fun K hK => ?_); go_simp
      first | (refine hK _ _ ?_; clear hK K) | (apply Exists.intro; apply And.intro; (focus (intro wk hk; go_simp; exact ⟨rfl, rfl⟩)); refine hK _ _ ?_; clear hK K)
      -- 21: call F77(t54, t55)
      refine stepS _ rfl (by kernel_rfl) (fun K hK => ?_); go_simp
      refine ⟨?_, ?_⟩
      · intro wk hk hg hu; go_simp; refine upon_enter ((k77.out _ hk.undrew.below).mono ?_); rintro e w' ⟨rfl, hb⟩; exact ⟨_, rfl, left_V (p := fun u => u = .bool b) rfl (hb) rfl⟩
      rintro ⟨v21, lo21, hi21⟩ - - (rfl : v21 = _)
      refine hK _ _ ?_; clear hK K
      -- 22: t0
      refine stepK rfl (by kernel_rfl) (fun K hK => ?_); go_simp
      first | (refine hK _ _ ?_; clear hK K) | (apply Exists.intro; apply And.intro; (focus (intro wk hk; go_simp; exact ⟨rfl, rfl⟩)); refine hK _ _ ?_; clear hK K)
      -- 23: t1
      refine stepK rfl (by kernel_rfl) (fun K hK => ?_); go_simp
      first | (refine hK _ _ ?_; clear hK K) | (apply Exists.intro; apply And.intro; (focus (intro wk hk; go_simp; exact ⟨rfl, rfl⟩)); refine hK _ _ ?_; clear hK K)
      -- 24: call F78(t57, t58)
      refine stepS _ rfl (by kernel_rfl) (fun K hK => ?_); go_simp
      refine ⟨?_, ?_⟩
      · intro wk hk hg hu; go_simp; refine upon_enter ((k78.out _ hk.undrew.below).mono ?_); rintro e w' ⟨rfl, hb⟩; exact ⟨_, rfl, left_V (p := fun u => u = .bool b) rfl (hb) rfl⟩
      rintro ⟨v24, lo24, hi24⟩ - - (rfl : v24 = _)
      refine hK _ _ ?_; clear hK K
      -- 25: eql<4> t56, t59
      refine stepK rfl (by kernel_rfl) (fun K hK => ?_); go_simp
      first | (refine hK _ _ ?_; clear hK K) | (apply Exists.intro; apply And.intro; (focus (intro wk hk; go_simp; exact ⟨rfl, rfl⟩)); refine hK _ _ ?_; clear hK K)
      -- 26: pick t53 ? t60 : false
      refine stepK rfl (by kernel_rfl) (fun K hK => ?_); go_simp
      apply Exists.intro; apply And.intro; (focus (intro wk hk; go_simp; exact ⟨rfl, rfl⟩)); refine hK _ _ ?_; clear hK K
      -- 27: t61
      refine stepK rfl (by kernel_rfl) (fun K hK => ?_); go_simp
      apply Exists.intro; apply And.intro; (focus (intro wk hk; go_simp; exact ⟨rfl, rfl⟩)); refine hK _ _ ?_; clear hK K
      -- 28: t2
      refine stepK rfl (by kernel_rfl) (fun K hK => ?_); go_simp
      first | (refine hK _ _ ?_; clear hK K) | (apply Exists.intro; apply And.intro; (focus (intro wk hk; go_simp; exact ⟨rfl, rfl⟩)); refine hK _ _ ?_; clear hK K)
      -- 29: call F79(t63)
      refine stepS _ rfl (by kernel_rfl) (fun K hK => ?_); go_simp
      refine ⟨?_, ?_⟩
      · intro wk hk hg hu; go_simp; refine upon_enter ((k79.out _).mono ?_); rintro e w' ⟨rfl, hb⟩; exact ⟨_, rfl, left_V (p := fun u => u = .string N) rfl (hb) rfl⟩
      rintro ⟨v29, lo29, hi29⟩ - - (rfl : v29 = _)
      refine hK _ _ ?_; clear hK K
      -- 30: t2
      refine stepK rfl (by kernel_rfl) (fun K hK => ?_); go_simp
      first | (refine hK _ _ ?_; clear hK K) | (apply Exists.intro; apply And.intro; (focus (intro wk hk; go_simp; exact ⟨rfl, rfl⟩)); refine hK _ _ ?_; clear hK K)
      -- 31: call F80(t65)
      refine stepS _ rfl (by kernel_rfl) (fun K hK => ?_); go_simp
      refine ⟨?_, ?_⟩
      · intro wk hk hg hu; go_simp; refine upon_enter ((k80.out _).mono ?_); rintro e w' ⟨rfl, hb⟩; exact ⟨_, rfl, left_V (p := fun u => u = .string N) rfl (hb) rfl⟩
      rintro ⟨v31, lo31, hi31⟩ - - (rfl : v31 = _)
      refine hK _ _ ?_; clear hK K
      -- 32: eql<9> t64, t66
      refine stepK rfl (by kernel_rfl) (fun K hK => ?_); go_simp
      first | (refine hK _ _ ?_; clear hK K) | (apply Exists.intro; apply And.intro; (focus (intro wk hk; go_simp; exact ⟨rfl, rfl⟩)); refine hK _ _ ?_; clear hK K)
      -- 33: pick t62 ? t67 : false
      refine stepK rfl (by kernel_rfl) (fun K hK => ?_); go_simp
      apply Exists.intro; apply And.intro; (focus (intro wk hk; go_simp; exact ⟨rfl, rfl⟩)); refine hK _ _ ?_; clear hK K
      -- 34: t68
      refine stepK rfl (by kernel_rfl) (fun K hK => ?_); go_simp
      apply Exists.intro; apply And.intro; (focus (intro wk hk; go_simp; exact ⟨rfl, rfl⟩)); refine hK _ _ ?_; clear hK K
      -- 35: call F34()
      refine stepS _ rfl (by kernel_rfl) (fun K hK => ?_); go_simp
      refine ⟨?_, ?_⟩
      · intro wk hk hg hu; go_simp; refine upon_enter ((lv.out _).mono ?_); rintro e w' ⟨rfl, hb⟩; exact ⟨_, rfl, left_V (p := fun u => u = .bool true) rfl (hb) rfl⟩
      rintro ⟨v35, lo35, hi35⟩ - - (rfl : v35 = _)
      refine hK _ _ ?_; clear hK K
      -- 36: pick t69 ? t70 : false
      refine stepK rfl (by kernel_rfl) (fun K hK => ?_); go_simp
      apply Exists.intro; apply And.intro; (focus (intro wk hk; go_simp; exact ⟨rfl, rfl⟩)); refine hK _ _ ?_; clear hK K
      -- 37: assign t71
      refine stepK rfl (by kernel_rfl) (fun K hK => ?_); go_simp
      apply Exists.intro; apply And.intro; (focus (intro wk hk; go_simp; exact ⟨rfl, rfl⟩)); refine hK _ _ ?_; clear hK K
      refine stepN ?_
      refine hQ _ _ ?_
      intro w4 hT hG hF
      have hl4 := Lib.hid (hinv.out.trans (hT.undrew.below.mono hinv.out.size))
      clear hT hG hF hQ QQ L k73 k74 k75 k76 k77 k78 k79 k80 hinv
      go_wp2_with fail
      go_ret
      exact ⟨by first | rfl | (simp; done), hl4.out⟩
end Go.Proofs.Ytpdenhmkpiafiaa
