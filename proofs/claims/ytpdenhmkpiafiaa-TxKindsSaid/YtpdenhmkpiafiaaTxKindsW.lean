/-
  tallagelaw15.TxKinds, THE WALK.
-/
import Derived.Test.YtpdenhmkpiafiaaTxLives
namespace Go.Proofs.Ytpdenhmkpiafiaa
open Go Go.RowKit K6

set_option maxRecDepth 100000 in
theorem names_ne : ∀ j, j < 29 → ∀ k, k < 29 → j ≠ k → ((txB.getD j txU).toList == (txB.getD k txU).toList) = false := by decide +kernel
set_option maxRecDepth 100000 in
theorem names_un : ∀ k, k < 29 → k ≠ 0 → ((txB.getD k txU).toList == [117, 110, 107, 110, 111, 119, 110]) = false := by decide +kernel
theorem okK_is (k : Int) : okK k = decide (1 ≤ k ∧ k ≤ 28) := by
  unfold okK
  rw [Bool.decide_and]
theorem tx_ne {j k : Int} (hj : 1 ≤ j ∧ j ≤ 28) (hk : 1 ≤ k ∧ k ≤ 28) (h : j ≠ k) : ((txOf j).toList == (txOf k).toList) = false := by
  unfold txOf
  rw [if_pos hj, if_pos hk]
  exact names_ne _ (by omega) _ (by omega) (by omega)
theorem tx_un {k : Int} (hk : 1 ≤ k ∧ k ≤ 28) : ((txOf k).toList == [117, 110, 107, 110, 111, 119, 110]) = false := by
  unfold txOf
  rw [if_pos hk]
  exact names_un _ (by omega) (by omega)
theorem tx_no {k : Int} (hk : ¬ (1 ≤ k ∧ k ≤ 28)) : txOf k = ByteArray.mk #[117, 110, 107, 110, 111, 119, 110] := if_neg hk
set_option maxRecDepth 100000 in
set_option maxHeartbeats 64000000 in
theorem kinds15_walk (k : Int) (w : World) : Calls Try.prog 25 #[.int .i64 k] w fun e w' => e = .returned (.bool true) ∧ Below w.heap.size w w' := by
  have lv := Lib.hid fun wx => lives15U wx
  have kO := fun wx => txof_any k wx
  have kN := fun j wx => txname_at j wx
  unfold OfP at kO
  rw [okK_is] at kO
  obtain ⟨S, hS⟩ : ∃ S, shpOf k = S := ⟨_, rfl⟩
  rw [hS] at kO
  obtain ⟨sn, st, sa, se, sh, sc⟩ := S
  simp only [Shp.cs] at kO
  clear hS
  by_cases hk : 1 ≤ k ∧ k ≤ 28
  · rw [decide_eq_true hk] at kO
    have hk1 := hk.1
    have hk2 := hk.2
    obtain ⟨N, hN⟩ : ∃ N, txOf k = N := ⟨_, rfl⟩
    have qu : (N.toList == [117, 110, 107, 110, 111, 119, 110]) = false := by rw [← hN]; exact tx_un hk
    have kk := fun wx => kN k wx
    rw [hN] at kk
    have HN := Lib.hid (show _ ∧ _ from ⟨hN, hk⟩)
    replace kO := Lib.hid kO
    replace kk := Lib.hid kk
    replace kN := Lib.hid kN
    clear hN hk
    go_enter Try.func25, Try.ntmps25
    go_upto_region 1 with (fail)
    let L : List Sp := [sV 1 [] [] (fun u => u = .tuple #[.agg #[.int .i64 sn, .bool st, .int .i64 sa, .bool se, .int .i64 sh, .bool sc], .bool true]), sA 5 107 [6] #[.int .i64 0, .bool false, .int .i64 0, .bool false, .int .i64 0, .bool false], sT 6 5 107 [3] (fun g => aggOf g 3)]
    refine wp_region_six0 (shs L) (look6 L) (None_) (by kernel_rfl) (by kernel_rfl) (mk_St L [] [] (by kernel_rfl) (by kernel_rfl) ⟨ok_V ⟨_, rfl⟩, ok_A, ok_T aggOf_congr, trivial⟩ (by simp)) ?_
    intro QQ hQ
    -- 0: t0
    refine stepK rfl (by kernel_rfl) (fun K hK => ?_); go_simp
    apply Exists.intro; apply And.intro; (focus (intro wk hk; go_simp; exact ⟨rfl, rfl⟩)); refine hK _ _ ?_; clear hK K
    -- 1: call F131(t7)
    refine stepS _ rfl (by kernel_rfl) (fun K hK => ?_); go_simp
    refine ⟨?_, ?_⟩
    · intro wk hk hg hu; go_simp; refine upon_enter ((kO.out _).mono ?_); rintro e w' ⟨rfl, hb⟩; exact ⟨_, rfl, left_V (p := fun u => u = .tuple #[.agg #[.int .i64 sn, .bool st, .int .i64 sa, .bool se, .int .i64 sh, .bool sc], .bool true]) rfl (hb) rfl⟩
    rintro ⟨v1, lo1, hi1⟩ - - (rfl : v1 = _)
    refine hK _ _ ?_; clear hK K
    -- 2: t8
    refine stepK rfl (by kernel_rfl) (fun K hK => ?_); go_simp
    apply Exists.intro; apply And.intro; (focus (intro wk hk; go_simp; exact ⟨rfl, rfl⟩)); refine hK _ _ ?_; clear hK K
    -- 3: extract t6 #0
    refine stepK rfl (by kernel_rfl) (fun K hK => ?_); go_simp
    apply Exists.intro; apply And.intro; (focus (intro wk hk; go_simp; exact ⟨rfl, rfl⟩)); refine hK _ _ ?_; clear hK K
    -- 4: extract t6 #1
    refine stepK rfl (by kernel_rfl) (fun K hK => ?_); go_simp
    apply Exists.intro; apply And.intro; (focus (intro wk hk; go_simp; exact ⟨rfl, rfl⟩)); refine hK _ _ ?_; clear hK K
    -- 5: alloc<107>
    refine stepS _ rfl (by kernel_rfl) (fun K hK => ?_); go_simp
    refine ⟨?_, ?_⟩
    · intro wk hk hg hu; go_simp; exact left_A rfl rfl
    rintro ⟨v5, lo5, hi5⟩ hlo5 hhi5 ⟨e5, f5⟩
    replace e5 : v5 = .pointer (some ⟨lo5, 0, none⟩) := e5; replace f5 : hi5 = lo5 + 1 := f5; replace hlo5 : _ ≤ lo5 := hlo5; subst e5; subst f5
    refine hK _ _ ?_; clear hK K
    -- 6: store<107> *t3 = t9
    refine stepS _ rfl (by kernel_rfl) (fun K hK => ?_); go_simp
    refine ⟨?_, ?_⟩
    · exact sStoreT rfl rfl rfl rfl rfl rfl rfl (by kernel_rfl) rfl (by kernel_rfl) (by decide) aggOf_congr
    rintro ⟨v6, lo6, hi6⟩ - - (rfl : v6 = undef)
    refine hK _ _ ?_; clear hK K
    -- 7: assign t10
    refine stepK rfl (by kernel_rfl) (fun K hK => ?_); go_simp
    apply Exists.intro; apply And.intro; (focus (intro wk hk; go_simp; exact ⟨rfl, rfl⟩)); refine hK _ _ ?_; clear hK K
    refine stepN ?_
    refine hQ _ _ ?_
    intro w1 hT hG hF
    have H1 := Lib.hid (hT.below)
    clear hT hG hF hQ QQ L kO
    go_wp2_with fail
    refine (kk.out _).mono ?_
    rintro e w2 ⟨rfl, hb⟩
    have H2 := Lib.hid (H1.out.trans (hb.mono H1.out.size))
    clear hb H1
    have HL := H2
    go_wp2_with fail
    go_loopg [5] 28 (fun gg s5 wr => ∃ i : Nat, i + gg = 28 ∧ s5 = .int .i64 ((i : Int) + 1) ∧ Hid (Below w.heap.size w wr))
    case atStart => exact ⟨0, by omega, rfl, HL⟩
    case round =>
      clear HL
      obtain ⟨i, him, rfl, hinv⟩ := hrel
      by_cases hi : i < 28
      · have hlt : (i : Int) + 1 ≤ 28 := by omega
        have wi : IntKind.i64.wrap ((i : Int) + 1 + 1) = (i : Int) + 1 + 1 := by rw [IntKind.wrap_i64]; omega
        by_cases hj : (i : Int) + 1 = k
        · have q1 : ((i : Int) + 1 != k) = false := by rw [hj]; exact bne_self_eq_false k
          have hj' := Lib.hid hj
          clear hj
          go_wp2_with fail
          go_roundg (gk - 1)
          case measure => omega
          case rel => exact ⟨i + 1, by omega, by go_num, hinv⟩
        · have q1 : ((i : Int) + 1 != k) = true := by rw [bne_iff_ne]; exact hj
          have q2 := tx_ne (j := (i : Int) + 1) (k := k) ⟨by omega, by omega⟩ HN.out.2 hj
          rw [HN.out.1] at q2
          obtain ⟨A, hA⟩ : ∃ A, txOf ((i : Int) + 1) = A := ⟨_, rfl⟩
          have kj := kN.out ((i : Int) + 1)
          rw [hA] at q2 kj
          replace kj := Lib.hid kj
          clear hA hj
          go_wp2_with fail
          refine (kj.out _).mono ?_
          rintro e w3 ⟨rfl, hb⟩
          have H3 := Lib.hid (hinv.out.trans (hb.mono hinv.out.size))
          clear hb kj hinv
          go_wp2_with fail
          refine (kk.out _).mono ?_
          rintro e w4 ⟨rfl, hb⟩
          have hinv := Lib.hid (H3.out.trans (hb.mono H3.out.size))
          clear hb H3
          go_wp2_with fail
          go_roundg (gk - 1)
          case measure => omega
          case rel => exact ⟨i + 1, by omega, by go_num, hinv⟩
      · obtain rfl : i = 28 := by omega
        have hlt : ¬ ((28 : Nat) : Int) + 1 ≤ 28 := by omega
        go_wp2_with fail
        refine (lv.out _).mono ?_
        rintro e w9 ⟨rfl, hb⟩
        have H9 := Lib.hid (hinv.out.trans (hb.mono hinv.out.size))
        clear hb hinv
        go_wp2_with fail
        go_ret
        exact ⟨rfl, H9.out⟩
  · rw [decide_eq_false hk] at kO
    have kk := fun wx => kN k wx
    rw [tx_no hk] at kk
    replace kO := Lib.hid kO
    replace kk := Lib.hid kk
    clear kN
    have hc : k < 1 ∨ (1 ≤ k ∧ 28 < k) := by omega
    clear hk
    go_enter Try.func25, Try.ntmps25
    go_upto_region 1 with (fail)
    let L : List Sp := [sV 1 [] [] (fun u => u = .tuple #[.agg #[.int .i64 sn, .bool st, .int .i64 sa, .bool se, .int .i64 sh, .bool sc], .bool false]), sA 5 107 [6] #[.int .i64 0, .bool false, .int .i64 0, .bool false, .int .i64 0, .bool false], sT 6 5 107 [3] (fun g => aggOf g 3)]
    refine wp_region_six0 (shs L) (look6 L) (None_) (by kernel_rfl) (by kernel_rfl) (mk_St L [] [] (by kernel_rfl) (by kernel_rfl) ⟨ok_V ⟨_, rfl⟩, ok_A, ok_T aggOf_congr, trivial⟩ (by simp)) ?_
    intro QQ hQ
    -- 0: t0
    refine stepK rfl (by kernel_rfl) (fun K hK => ?_); go_simp
    apply Exists.intro; apply And.intro; (focus (intro wk hk; go_simp; exact ⟨rfl, rfl⟩)); refine hK _ _ ?_; clear hK K
    -- 1: call F131(t7)
    refine stepS _ rfl (by kernel_rfl) (fun K hK => ?_); go_simp
    refine ⟨?_, ?_⟩
    · intro wk hk hg hu; go_simp; refine upon_enter ((kO.out _).mono ?_); rintro e w' ⟨rfl, hb⟩; exact ⟨_, rfl, left_V (p := fun u => u = .tuple #[.agg #[.int .i64 sn, .bool st, .int .i64 sa, .bool se, .int .i64 sh, .bool sc], .bool false]) rfl (hb) rfl⟩
    rintro ⟨v1, lo1, hi1⟩ - - (rfl : v1 = _)
    refine hK _ _ ?_; clear hK K
    -- 2: t8
    refine stepK rfl (by kernel_rfl) (fun K hK => ?_); go_simp
    apply Exists.intro; apply And.intro; (focus (intro wk hk; go_simp; exact ⟨rfl, rfl⟩)); refine hK _ _ ?_; clear hK K
    -- 3: extract t6 #0
    refine stepK rfl (by kernel_rfl) (fun K hK => ?_); go_simp
    apply Exists.intro; apply And.intro; (focus (intro wk hk; go_simp; exact ⟨rfl, rfl⟩)); refine hK _ _ ?_; clear hK K
    -- 4: extract t6 #1
    refine stepK rfl (by kernel_rfl) (fun K hK => ?_); go_simp
    apply Exists.intro; apply And.intro; (focus (intro wk hk; go_simp; exact ⟨rfl, rfl⟩)); refine hK _ _ ?_; clear hK K
    -- 5: alloc<107>
    refine stepS _ rfl (by kernel_rfl) (fun K hK => ?_); go_simp
    refine ⟨?_, ?_⟩
    · intro wk hk hg hu; go_simp; exact left_A rfl rfl
    rintro ⟨v5, lo5, hi5⟩ hlo5 hhi5 ⟨e5, f5⟩
    replace e5 : v5 = .pointer (some ⟨lo5, 0, none⟩) := e5; replace f5 : hi5 = lo5 + 1 := f5; replace hlo5 : _ ≤ lo5 := hlo5; subst e5; subst f5
    refine hK _ _ ?_; clear hK K
    -- 6: store<107> *t3 = t9
    refine stepS _ rfl (by kernel_rfl) (fun K hK => ?_); go_simp
    refine ⟨?_, ?_⟩
    · exact sStoreT rfl rfl rfl rfl rfl rfl rfl (by kernel_rfl) rfl (by kernel_rfl) (by decide) aggOf_congr
    rintro ⟨v6, lo6, hi6⟩ - - (rfl : v6 = undef)
    refine hK _ _ ?_; clear hK K
    -- 7: assign t10
    refine stepK rfl (by kernel_rfl) (fun K hK => ?_); go_simp
    apply Exists.intro; apply And.intro; (focus (intro wk hk; go_simp; exact ⟨rfl, rfl⟩)); refine hK _ _ ?_; clear hK K
    refine stepN ?_
    refine hQ _ _ ?_
    intro w1 hT hG hF
    have H1 := Lib.hid (hT.below)
    clear hT hG hF hQ QQ L kO
    rcases hc with hc | ⟨hc1, hc⟩
    · have hz := hc
      go_wp2_with fail
      refine (kk.out _).mono ?_
      rintro e w2 ⟨rfl, hb⟩
      have H2 := Lib.hid (H1.out.trans (hb.mono H1.out.size))
      clear hb H1 kk
      have HL := H2
      go_wp2_with fail
      go_loopg [5] 28 (fun gg s5 wr => ∃ i : Nat, i + gg = 28 ∧ s5 = .int .i64 ((i : Int) + 1) ∧ Hid (Below w.heap.size w wr))
      case atStart => exact ⟨0, by omega, rfl, HL⟩
      case round =>
        clear HL
        obtain ⟨i, him, rfl, hinv⟩ := hrel
        by_cases hi : i < 28
        · have hlt : (i : Int) + 1 ≤ 28 := by omega
          have wi : IntKind.i64.wrap ((i : Int) + 1 + 1) = (i : Int) + 1 + 1 := by rw [IntKind.wrap_i64]; omega
          go_wp2_with fail
          go_roundg (gk - 1)
          case measure => omega
          case rel => exact ⟨i + 1, by omega, by go_num, hinv⟩
        · obtain rfl : i = 28 := by omega
          have hlt : ¬ ((28 : Nat) : Int) + 1 ≤ 28 := by omega
          go_wp2_with fail
          refine (lv.out _).mono ?_
          rintro e w9 ⟨rfl, hb⟩
          have H9 := Lib.hid (hinv.out.trans (hb.mono hinv.out.size))
          clear hb hinv
          go_wp2_with fail
          go_ret
          exact ⟨rfl, H9.out⟩
    · have hz := hc
      go_wp2_with fail
      refine (kk.out _).mono ?_
      rintro e w2 ⟨rfl, hb⟩
      have H2 := Lib.hid (H1.out.trans (hb.mono H1.out.size))
      clear hb H1 kk
      have HL := H2
      go_wp2_with fail
      go_loopg [5] 28 (fun gg s5 wr => ∃ i : Nat, i + gg = 28 ∧ s5 = .int .i64 ((i : Int) + 1) ∧ Hid (Below w.heap.size w wr))
      case atStart => exact ⟨0, by omega, rfl, HL⟩
      case round =>
        clear HL
        obtain ⟨i, him, rfl, hinv⟩ := hrel
        by_cases hi : i < 28
        · have hlt : (i : Int) + 1 ≤ 28 := by omega
          have wi : IntKind.i64.wrap ((i : Int) + 1 + 1) = (i : Int) + 1 + 1 := by rw [IntKind.wrap_i64]; omega
          go_wp2_with fail
          go_roundg (gk - 1)
          case measure => omega
          case rel => exact ⟨i + 1, by omega, by go_num, hinv⟩
        · obtain rfl : i = 28 := by omega
          have hlt : ¬ ((28 : Nat) : Int) + 1 ≤ 28 := by omega
          go_wp2_with fail
          refine (lv.out _).mono ?_
          rintro e w9 ⟨rfl, hb⟩
          have H9 := Lib.hid (hinv.out.trans (hb.mono hinv.out.size))
          clear hb hinv
          go_wp2_with fail
          go_ret
          exact ⟨rfl, H9.out⟩
end Go.Proofs.Ytpdenhmkpiafiaa
