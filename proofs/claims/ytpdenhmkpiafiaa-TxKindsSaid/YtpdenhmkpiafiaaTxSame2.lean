/-
  Rows of leaves, and claims, compared: EqualFunc (256), alike (240), sameClaim (212).
-/
import Derived.Test.YtpdenhmkpiafiaaTxSame
namespace Go.Proofs.Ytpdenhmkpiafiaa
open Go Go.RowKit K6

def sameL (E F : List Lf) : Bool := decide (E.map Lf.key = F.map Lf.key)
set_option maxRecDepth 100000 in
set_option maxHeartbeats 32000000 in
theorem lsEq_at (u v : Value) (E F : List Lf) (w : World) (hE : Ls w u E) (hF : Ls w v F) (hEm : E.length ≤ 100000) (hlen : ∀ e ∈ E, e.p.length ≤ 100000) :
    Calls Try.prog 256 #[u, v, .func (.func 241) #[] #[]] w fun r w' => r = .returned (.bool (sameL E F)) ∧ Below w.heap.size w w' := by
  have HC := Lib.hid (show _ ∧ _ from ⟨hE, hF⟩)
  obtain ⟨⟨q1, c1, rfl, -⟩, -⟩ := hE
  obtain ⟨⟨q2, c2, rfl, -⟩, -⟩ := hF
  obtain ⟨n1, hn1⟩ : ∃ n, E.length = n := ⟨_, rfl⟩
  obtain ⟨n2, hn2⟩ : ∃ n, F.length = n := ⟨_, rfl⟩
  obtain ⟨b, hb⟩ : ∃ b, sameL E F = b := ⟨_, rfl⟩
  rw [hb, hn1, hn2]
  have hni : (n1 : Int) ≤ 100000 := by omega
  have HB := Lib.hid (show _ ∧ _ ∧ _ ∧ _ from ⟨hb, hn1, hn2, hlen⟩)
  rw [hn1, hn2] at HC
  clear hb hn1 hn2 hEm hlen
  by_cases hne : n1 = n2
  case neg =>
    have hd : ¬ (n1 : Int) = (n2 : Int) := by omega
    have hbf : b = false := by rw [← HB.out.1]; exact decide_eq_false (fun h => hne (by rw [← HB.out.2.1, ← HB.out.2.2.1]; have := congrArg List.length h; simpa using this))
    subst hbf
    clear hne HC
    go_enter Try.func256, Try.ntmps256
    go_wp2_with fail
    go_ret
    exact ⟨rfl, Below.refl _ _⟩
  subst hne
  go_enter Try.func256, Try.ntmps256
  go_wp2_with fail
  go_loopg [7, 8, 9, 17] n1 (fun gg s7 s8 s9 s17 wr => ∃ i : Nat, i + gg = n1 ∧ s17 = .int .i64 (i : Int) ∧ Hid ((E.map Lf.key).take i = (F.map Lf.key).take i) ∧ Hid (Below w.heap.size w wr))
  case atStart => exact ⟨0, by omega, rfl, Lib.hid (by rw [List.take_zero, List.take_zero]), Lib.hid (Below.refl _ _)⟩
  case round =>
    obtain ⟨i, him, rfl, heq, hinv⟩ := hrel
    by_cases hi : i < n1
    · obtain ⟨e, hee⟩ : ∃ e, E[i]? = some e := ⟨_, List.getElem?_eq_getElem (by have := HB.out.2.1; omega)⟩
      obtain ⟨f, hff⟩ : ∃ f, F[i]? = some f := ⟨_, List.getElem?_eq_getElem (by have := HB.out.2.2.1; omega)⟩
      obtain ⟨g1, o1, c1', hu, hg1, hcs1⟩ := (HC.out.1.below hinv.out).1.get hee
      simp only [Value.slice.injEq] at hu
      obtain ⟨rfl, -, -⟩ := hu
      obtain ⟨g2, o2, c2', hu, hg2, hcs2⟩ := (HC.out.2.below hinv.out).1.get hff
      simp only [Value.slice.injEq] at hu
      obtain ⟨rfl, -, -⟩ := hu
      have hok1 := HC.out.1.2 e (List.mem_of_getElem? hee)
      have hok2 := HC.out.2.2 f (List.mem_of_getElem? hff)
      have hle := HB.out.2.2.2 e (List.mem_of_getElem? hee)
      have hke : (E.map Lf.key)[i]? = some e.key := by rw [List.getElem?_map, hee]; rfl
      have hkf : (F.map Lf.key)[i]? = some f.key := by rw [List.getElem?_map, hff]; rfl
      have hgo := Lib.hid (show (e.key = f.key → (E.map Lf.key).take (i + 1) = (F.map Lf.key).take (i + 1)) ∧ (e.key ≠ f.key → b = false) from ⟨fun h => take_app_eq' hke hkf heq.out h, fun h => by rw [← HB.out.1]; exact decide_eq_false (get_ne' hke hkf h)⟩)
      clear hee hff hke hkf heq
      have hlt : (i : Int) < (n1 : Int) := by omega
      have k0 := Lib.hid fun wx (hb : Below w.heap.size w wx) => sameLeaf_at e f wx (hok1.below hb) (hok2.below hb) (by omega)
      obtain ⟨d, hd⟩ : ∃ d, decide (e.key = f.key) = d := ⟨_, rfl⟩
      rw [hd] at k0
      have hd' := Lib.hid hd
      clear hok1 hok2 hle hd
      go_upto_region 5 with (fail)
      let L : List Sp := [sA 3 198 [5] #[.int .i64 0, .int .i64 0, .int .u64 0, .int .u64 0, .int .u64 0, .int .u64 0, .slice none 0 0], sT 5 3 198 [2] (fun g => aggOf g 2)]
      refine wp_region_six0 (shs L) (look6 L) (None_) (by kernel_rfl) (by kernel_rfl) (mk_St L [] [] (by kernel_rfl) (by kernel_rfl) ⟨ok_A, ok_T aggOf_congr, trivial⟩ (by simp)) ?_
      intro QQ hQ
      -- 0: t17
      refine stepK rfl (by kernel_rfl) (fun K hK => ?_); go_simp
      apply Exists.intro; apply And.intro; (focus (intro wk hk; go_simp; exact ⟨rfl, rfl⟩)); refine hK _ _ ?_; clear hK K
      -- 1: indexAddr<112> t15[t17]
      refine stepK rfl (by kernel_rfl) (fun K hK => ?_); go_simp
      apply Exists.intro; apply And.intro; (focus (intro wk hk; go_simp; exact ⟨rfl, rfl⟩)); refine hK _ _ ?_; clear hK K
      -- 2: load<198> *t20
      refine stepK rfl (by kernel_rfl) (fun K hK => ?_); go_simp
      apply Exists.intro; apply And.intro; (focus exact kLoadE rfl rfl aggT198 hcs1 (lfc_len e) hg1 id); refine hK _ _ ?_; clear hK K
      -- 3: alloc<198>
      refine stepS _ rfl (by kernel_rfl) (fun K hK => ?_); go_simp
      refine ⟨?_, ?_⟩
      · intro wk hk hg hu; go_simp; exact left_A rfl rfl
      rintro ⟨v3, lo3, hi3⟩ hlo3 hhi3 ⟨e3, f3⟩
      replace e3 : v3 = .pointer (some ⟨lo3, 0, none⟩) := e3; replace f3 : hi3 = lo3 + 1 := f3; replace hlo3 : _ ≤ lo3 := hlo3; subst e3; subst f3
      refine hK _ _ ?_; clear hK K
      -- 4: assign t19
      refine stepK rfl (by kernel_rfl) (fun K hK => ?_); go_simp
      apply Exists.intro; apply And.intro; (focus (intro wk hk; go_simp; exact ⟨rfl, rfl⟩)); refine hK _ _ ?_; clear hK K
      -- 5: store<198> *t8 = t21
      refine stepS _ rfl (by kernel_rfl) (fun K hK => ?_); go_simp
      refine ⟨?_, ?_⟩
      · exact sStoreT rfl rfl rfl rfl rfl rfl rfl (by kernel_rfl) rfl (by kernel_rfl) (by decide) aggOf_congr
      rintro ⟨v5, lo5, hi5⟩ - - (rfl : v5 = undef)
      refine hK _ _ ?_; clear hK K
      refine stepN ?_
      refine hQ _ _ ?_
      intro w1 hT hG hF
      have hbw1 := hT.below
      have r8 : Row w1 lo3 198 (lfc e).toArray := (hF 5 _ rfl rfl (by decide)).2
      clear hT hG hF hQ QQ L
      have hcs2' : ∀ j v, (lfc f)[j]? = some v → w1.cell? ⟨g2, o2 + i * 7 + j, none⟩ = some v := fun j v hj => (World.cell?_of_block (hbw1.block g2 hg2)).trans (hcs2 j v hj)
      have hg2' : g2 < w1.heap.size := Nat.lt_of_lt_of_le hg2 hbw1.size
      have HW1 := Lib.hid hbw1
      clear hbw1 hcs1 hcs2 hg1 hg2
      go_upto_region 6 with (fail)
      let L : List Sp := [sA 4 198 [5] #[.int .i64 0, .int .i64 0, .int .u64 0, .int .u64 0, .int .u64 0, .int .u64 0, .slice none 0 0], sT 5 4 198 [3] (fun g => aggOf g 3)]
      refine wp_region_six0 (shs L) (look6 L) (None_) (by kernel_rfl) (by kernel_rfl) (mk_St L [] [] (by kernel_rfl) (by kernel_rfl) ⟨ok_A, ok_T aggOf_congr, trivial⟩ (by simp)) ?_
      intro QQ hQ
      -- 0: t1
      refine stepK rfl (by kernel_rfl) (fun K hK => ?_); go_simp
      apply Exists.intro; apply And.intro; (focus (intro wk hk; go_simp; exact ⟨rfl, rfl⟩)); refine hK _ _ ?_; clear hK K
      -- 1: t7
      refine stepK rfl (by kernel_rfl) (fun K hK => ?_); go_simp
      apply Exists.intro; apply And.intro; (focus (intro wk hk; go_simp; exact ⟨rfl, rfl⟩)); refine hK _ _ ?_; clear hK K
      -- 2: indexAddr<112> t22[t23]
      refine stepK rfl (by kernel_rfl) (fun K hK => ?_); go_simp
      apply Exists.intro; apply And.intro; (focus (intro wk hk; go_simp; exact ⟨rfl, rfl⟩)); refine hK _ _ ?_; clear hK K
      -- 3: load<198> *t24
      refine stepK rfl (by kernel_rfl) (fun K hK => ?_); go_simp
      apply Exists.intro; apply And.intro; (focus exact kLoadE rfl rfl aggT198 hcs2' (lfc_len f) hg2' id); refine hK _ _ ?_; clear hK K
      -- 4: alloc<198>
      refine stepS _ rfl (by kernel_rfl) (fun K hK => ?_); go_simp
      refine ⟨?_, ?_⟩
      · intro wk hk hg hu; go_simp; exact left_A rfl rfl
      rintro ⟨v4, lo4, hi4⟩ hlo4 hhi4 ⟨e4, f4⟩
      replace e4 : v4 = .pointer (some ⟨lo4, 0, none⟩) := e4; replace f4 : hi4 = lo4 + 1 := f4; replace hlo4 : _ ≤ lo4 := hlo4; subst e4; subst f4
      refine hK _ _ ?_; clear hK K
      -- 5: store<198> *t9 = t25
      refine stepS _ rfl (by kernel_rfl) (fun K hK => ?_); go_simp
      refine ⟨?_, ?_⟩
      · exact sStoreT rfl rfl rfl rfl rfl rfl rfl (by kernel_rfl) rfl (by kernel_rfl) (by decide) aggOf_congr
      rintro ⟨v5, lo5, hi5⟩ - - (rfl : v5 = undef)
      refine hK _ _ ?_; clear hK K
      refine stepN ?_
      refine hQ _ _ ?_
      intro w2 hT hG hF
      have hbw2 := hT.below
      have r9 : Row w2 lo4 198 (lfc f).toArray := (hF 5 _ rfl rfl (by decide)).2
      clear hT hG hF hQ QQ L
      have r8 := r8.below hbw2 r8.lt
      have hb02 := HW1.out.trans (hbw2.mono HW1.out.size)
      have hl2 := Lib.hid (hinv.out.trans (hb02.mono hinv.out.size))
      clear hbw2 HW1 hcs2' hb02 hinv
      go_upto_region 7 with (fail)
      let L : List Sp := [sV 3 [] [] (fun u => u = .bool d)]
      refine wp_region_six0 (shs L) (look6 L) (None_) (by kernel_rfl) (by kernel_rfl) (mk_St L [] [] (by kernel_rfl) (by kernel_rfl) ⟨ok_V ⟨_, rfl⟩, trivial⟩ (by simp)) ?_
      intro QQ hQ
      -- 0: t2
      refine stepK rfl (by kernel_rfl) (fun K hK => ?_); go_simp
      apply Exists.intro; apply And.intro; (focus (intro wk hk; go_simp; exact ⟨rfl, rfl⟩)); refine hK _ _ ?_; clear hK K
      -- 1: load<198> *t8
      refine stepK rfl (by kernel_rfl) (fun K hK => ?_); go_simp
      apply Exists.intro; apply And.intro; (focus exact kLoad rfl rfl aggT198 r8 (lfc_len e) id); refine hK _ _ ?_; clear hK K
      -- 2: load<198> *t9
      refine stepK rfl (by kernel_rfl) (fun K hK => ?_); go_simp
      apply Exists.intro; apply And.intro; (focus exact kLoad rfl rfl aggT198 r9 (lfc_len f) id); refine hK _ _ ?_; clear hK K
      -- 3: call t26(t27, t28)
      refine stepS _ rfl (by kernel_rfl) (fun K hK => ?_); go_simp
      refine ⟨?_, ?_⟩
      · intro wk hk hg hu; go_simp; refine upon_enter ((k0.out _ (hl2.out.trans (hk.below.mono hl2.out.size))).mono ?_); rintro e w' ⟨rfl, hb⟩; exact ⟨_, rfl, left_V (p := fun u => u = .bool d) rfl (hb) rfl⟩
      rintro ⟨v3, lo3, hi3⟩ - - (rfl : v3 = _)
      refine hK _ _ ?_; clear hK K
      -- 4: not<4> t29
      refine stepK rfl (by kernel_rfl) (fun K hK => ?_); go_simp
      apply Exists.intro; apply And.intro; (focus (intro wk hk; go_simp; exact ⟨rfl, rfl⟩)); refine hK _ _ ?_; clear hK K
      refine stepN ?_
      refine hQ _ _ ?_
      intro w3 hT hG hF
      have hl3 := Lib.hid (hl2.out.trans (hT.below.mono hl2.out.size))
      clear hT hG hF hQ QQ L r8 r9 k0 hl2
      cases d
      · have hbf : b = false := hgo.out.2 (of_decide_eq_false hd'.out)
        subst hbf
        go_wp2_with fail
        go_ret
        exact ⟨rfl, hl3.out⟩
      · have hnx := Lib.hid (hgo.out.1 (of_decide_eq_true hd'.out))
        go_wp2_with fail
        go_roundg (gk - 1)
        case measure => omega
        case rel => exact ⟨i + 1, by omega, by go_num, hnx, hl3⟩
    · obtain rfl : i = n1 := by omega
      have hlt : ¬ (i : Int) < (i : Int) := by omega
      have hbt : b = true := by
        rw [← HB.out.1]
        have h := heq.out
        rw [List.take_of_length_le (by rw [List.length_map]; have := HB.out.2.1; omega), List.take_of_length_le (by rw [List.length_map]; have := HB.out.2.2.1; omega)] at h
        exact decide_eq_true h
      subst hbt
      clear heq
      go_wp2_with fail
      go_ret
      exact ⟨rfl, hinv.out⟩
set_option maxRecDepth 100000 in
set_option maxHeartbeats 16000000 in
theorem alike_at (u v : Value) (E F : List Lf) (w : World) (hE : Ls w u E) (hF : Ls w v F) (hEm : E.length ≤ 100000) (hlen : ∀ e ∈ E, e.p.length ≤ 100000) :
    Calls Try.prog 240 #[u, v, .func (.func 241) #[] #[]] w fun r w' => r = .returned (.bool (sameL E F)) ∧ Below w.heap.size w w' := by
  have kk := Lib.hid (lsEq_at u v E F w hE hF hEm hlen)
  obtain ⟨b, hb⟩ : ∃ b, sameL E F = b := ⟨_, rfl⟩
  rw [hb] at kk ⊢
  clear hE hF hEm hlen hb
  go_enter Try.func240, Try.ntmps240
  go_wp2_with fail
  refine kk.out.mono ?_
  rintro e w1 ⟨rfl, hb⟩
  clear kk
  go_wp2_with fail
  go_ret
  exact ⟨rfl, hb⟩
end Go.Proofs.Ytpdenhmkpiafiaa
