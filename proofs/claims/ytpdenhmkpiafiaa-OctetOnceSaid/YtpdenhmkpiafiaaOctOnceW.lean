/-
  tallagelaw04.OctetOnce, THE WALK.
-/
import Derived.Test.YtpdenhmkpiafiaaOctRead
import Derived.Test.YtpdenhmkpiafiaaOctLives
import Derived.Test.YtpdenhmkpiafiaaOctKU
namespace Go.Proofs.Ytpdenhmkpiafiaa
open Go Go.RowKit K6

theorem SA.lo_le {w : World} {lo hi g : Nat} {e : Int} {xs : List Int} (h : SA w lo hi g e xs) : lo ≤ g := h.1
theorem Bs.old {w : World} {u : Value} {xs : List Int} {g : Nat} (h0 : Bs w u xs) (hg : w.heap.size ≤ g) (w1 w2 : World) (h : Bs w1 u xs) (hT : Tr (fun b => b = g) w1 w2) : Bs w2 u xs := by
  by_cases hx : xs = []
  · obtain ⟨q, c, rfl, hn, h1⟩ := h
    subst hx
    exact ⟨q, c, rfl, hn, fun a ha j v hj => by simp [bv] at hj⟩
  · refine h.keep hT fun b hb e => ?_
    obtain ⟨q, c, rfl, hn, h1⟩ := h0
    cases q with
    | none => exact hx (hn rfl).2
    | some a =>
      obtain ⟨x, ys, rfl⟩ := List.exists_cons_of_ne_nil hx
      have h2 := h1 a rfl 0 _ rfl
      rw [show a.add 0 = a from by unfold Addr.add; rfl] at h2
      have h3 := cell_lt h2
      have h4 : some a.block = some b := hb
      injection h4 with h4
      omega
/-- End yields this, and changes the source -/
theorem end_call {w : World} {lo hi g : Nat} {e : Int} {xs : List Int} {F : Int} (h : SA w lo hi g e xs) (hF : edE e xs = F) : Calls Try.prog 61 #[.pointer (some ⟨g, 0, none⟩)] w fun r w' => r = .returned (.int .i64 F) ∧ SA w' lo hi g F [] ∧ Tr (fun b => b = g) w w' := by
  subst hF
  exact end_at h
set_option maxRecDepth 100000 in
set_option maxHeartbeats 32000000 in
theorem once_walk (q : Option Addr) (c : Nat) (xs : List Int) (hx : By xs) (w : World) (hb0 : Bs w (.slice q xs.length c) xs) :
    Calls Try.prog 7 #[.slice q xs.length c] w (Ret w (.bool true)) := by
  have lv := Lib.hid lives4U
  obtain ⟨n0, hn0⟩ : ∃ n, xs.length = n := ⟨_, rfl⟩
  by_cases h100 : 100 < n0
  · rw [hn0]
    have hn1 : (100 : Int) < (n0 : Int) := by omega
    clear hb0 h100 hn0
    go_enter Try.func7, Try.ntmps7
    go_wp2_with fail
    refine (lv.out _).mono ?_
    rintro e w1 ⟨rfl, hb⟩
    have H := Lib.hid hb
    clear hb
    go_wp2_with fail
    go_ret
    exact ⟨rfl, H.out⟩
  · have rd := Lib.hid (fun wx (h : Bs wx (.slice q n0 c) xs) => (read_any _ xs wx h (by omega)).mono fun r w' h => h.sa hx (by omega))
    rw [hn0] at hb0 ⊢
    have hn1 : (n0 : Int) ≤ 100 := by omega
    clear h100 hn0
    have gb := Lib.hid (fun n r (h : gV 9223372036854775807 (0, xs) = (n, 0, r)) => gV_back hx h)
    have ga := Lib.hid (fun a r (h : gA (0, xs) = (a, 0, r)) => gA_back hx h)
    have gal := Lib.hid (gA_lt (s := (0, xs)) hx)
    have gvl := Lib.hid (gV_lt (most := 9223372036854775807) (s := (0, xs)))
    obtain ⟨B, hB⟩ : ∃ B, strOfNums xs = B := ⟨_, rfl⟩
    replace hB := Lib.hid hB
    have h0 := Lib.hid hb0
    clear hb0 hx
    go_enter Try.func7, Try.ntmps7
    go_wp2_with fail
    refine (rd.out _ h0.out).mono ?_
    rintro r w1 ⟨g, rfl, hs, hl⟩
    have sv := svar_at 9223372036854775807 hs
    unfold Varred at sv
    obtain ⟨lo, hlo⟩ : ∃ lo, w.heap.size = lo := ⟨_, rfl⟩
    obtain ⟨hi, hhi⟩ : ∃ hi, w1.heap.size = hi := ⟨_, rfl⟩
    have hg1 := hs.1
    have hg2 := hs.2.1
    rw [hlo, hhi] at sv
    rw [hlo] at hg1
    rw [hhi] at hg2
    unfold gV at gb gvl
    simp only [Prod.mk.injEq] at gb
    obtain ⟨n, hn⟩ : ∃ n, svN 9223372036854775807 0 xs = n := ⟨_, rfl⟩
    obtain ⟨E, hE⟩ : ∃ E, svE 9223372036854775807 0 xs = E := ⟨_, rfl⟩
    obtain ⟨R, hR⟩ : ∃ R, svR 9223372036854775807 0 xs = R := ⟨_, rfl⟩
    rw [hn, hE, hR] at sv
    simp only [hn, hE, hR] at gb
    have gvl2 := gvl.out
    simp only [hn] at gvl2
    have sb := h0.out.below hl
    have hbn := Lib.hid (h0.out.old (g := g) (by omega))
    replace sv := Lib.hid sv
    have HL := Lib.hid (show _ ∧ _ from ⟨hl, sb⟩)
    clear hs hl sb gvl
    go_wp2_with fail
    refine sv.out.mono ?_
    rintro r w2 ⟨rfl, hs, ht⟩
    obtain ⟨hl, sb⟩ := HL.out
    replace sb := hbn.out _ _ sb ht
    replace hl : Below w.heap.size w w2 := hl.trans (ht.below_of hl.size (by intro c hc; have hc' : c = g := hc; omega))
    clear HL sv ht
    have gb2 := Lib.hid (show edE E R = 0 → xs = enc n from fun h => by
      obtain ⟨h1, h2⟩ := edE_zero.1 h
      subst h1
      subst h2
      have := (gb.out n [] ⟨rfl, rfl, rfl⟩).1
      rwa [List.append_nil] at this)
    clear gb hn hE hR
    go_upto_region 5 with (fail)
    obtain ⟨F, hFF⟩ : ∃ F, edE E R = F := ⟨_, rfl⟩
    rw [hFF] at gb2
    replace hFF := Lib.hid hFF
    by_cases hF0 : F = 0
    · subst hF0
      have hxe := gb2.out rfl
      have k38 := Lib.hid (fun wx => var_any (.slice none 0 0) [] (n : Int) wx (Bs.nil wx) (by decide) (by omega))
      rw [Int.toNat_natCast, List.nil_append, ← hxe] at k38
      clear hxe gb2 gvl2
      let L : List Sp := [sW 1 [] [] [] g (fun _ => False) (fun u => u = .int .i64 0) (fun _ _ => True), sG 5 [] [] [] (fun _ => True) (ObF (fun _ => True) xs), sV 6 [5] [5] (fun u => u = .string B)]
      refine wp_region_six (shs L) (look6 L) (fun c => c = g) (by kernel_rfl) (by kernel_rfl) (mk_St L [1, 5] [1] (by kernel_rfl) (by kernel_rfl) ⟨ok_W ⟨_, rfl⟩ (fun _ _ _ _ _ => trivial) hs.lt rfl (fun _ h => h.elim), ok_G ⟨⟨undef, _, _⟩, Nat.le_refl _, Nat.le_refl _, trivial⟩ (fun x w w' h hT => ⟨h.1.keep hT fun b hb hx => hx ⟨(h.1.lt b hb).1, h.2.1 b hb⟩, h.2.1, trivial⟩), ok_V ⟨_, rfl⟩, trivial⟩ (by intro i hi j hj hne b hb hx; simp only [List.mem_cons, List.not_mem_nil, or_false] at hi hj; subst hj; rcases hi with rfl | rfl; exact absurd rfl hne; exact False.elim hb)) ?_
      intro QQ hQ
      -- 0: t3
      refine stepK rfl (by kernel_rfl) (fun K hK => ?_); go_simp
      apply Exists.intro; apply And.intro; (focus (intro wk hk; go_simp; exact ⟨rfl, rfl⟩)); refine hK _ _ ?_; clear hK K
      -- 1: call F61(t15)
      refine stepS _ rfl (by kernel_rfl) (fun K hK => ?_); go_simp
      refine ⟨?_, ?_⟩
      · intro wk hk hg hu; go_simp; refine upon_enter ((end_call (hs.below hk.undrew.below) hFF.out).mono ?_); rintro e w' ⟨rfl, -, ht⟩; exact ⟨_, rfl, left_W (p := fun u => u = .int .i64 0) (f := fun _ _ => True) rfl rfl rfl ht trivial⟩
      rintro ⟨v1, lo1, hi1⟩ - - (rfl : v1 = _)
      refine hK _ _ ?_; clear hK K
      -- 2: eql<53> t16, 0
      refine stepKz rfl (fun K hK => ?_); go_simp
      apply Exists.intro; apply And.intro; (focus (intro wk hk; go_simp; exact ⟨rfl, rfl⟩)); refine hK _ _ ?_; clear hK K
      -- 3: t17
      refine stepKz rfl (fun K hK => ?_); go_simp
      apply Exists.intro; apply And.intro; (focus (intro wk hk; go_simp; exact ⟨rfl, rfl⟩)); refine hK _ _ ?_; clear hK K
      -- 4: t4
      refine stepKz rfl (fun K hK => ?_); go_simp
      first | (refine hK _ _ ?_; clear hK K) | (apply Exists.intro; apply And.intro; (focus (intro wk hk; go_simp; exact ⟨rfl, rfl⟩)); refine hK _ _ ?_; clear hK K)
      -- 5: call F38(nilslice, t19)
      refine stepSz _ rfl (fun K hK => ?_); go_simp
      refine ⟨?_, ?_⟩
      · intro wk hk hg hu; go_simp; refine upon_enter ((k38.out _).mono ?_); rintro e w' ⟨v, rfl, hv, hb9⟩; exact ⟨_, rfl, left_G rfl rfl hb9 trivial ⟨hv, fun b hb => (hv.lt b hb).2, trivial⟩⟩
      rintro ⟨v5, lo5, hi5⟩ - - -
      refine hK _ _ ?_; clear hK K
      -- 6: convert<33->9> t20
      refine stepSz _ rfl (fun K hK => ?_); go_simp
      refine ⟨?_, ?_⟩
      · intro wk hk hg hu; have u5 : ObF (fun _ => True) xs ⟨v5, _, _⟩ wk := hu 5 (show 5 ∈ [5] by decide); have cv := Bs.convA u5.1.bs; rw [hB.out] at cv; go_simp; exact left_V (p := fun u => u = .string B) rfl (Below.refl _ _) rfl
      rintro ⟨v6, lo6, hi6⟩ - - (rfl : v6 = _)
      refine hK _ _ ?_; clear hK K
      -- 7: t0
      refine stepKz rfl (fun K hK => ?_); go_simp
      first | (refine hK _ _ ?_; clear hK K) | (apply Exists.intro; apply And.intro; (focus (intro wk hk; go_simp; exact ⟨rfl, rfl⟩)); refine hK _ _ ?_; clear hK K)
      -- 8: convert<33->9> t22
      refine stepKz rfl (fun K hK => ?_); go_simp
      first | (refine hK _ _ ?_; clear hK K) | (apply Exists.intro; apply And.intro; (focus (intro wk hk; have cv := Bs.convA (hbn.out _ _ sb hk.undrew); rw [hB.out] at cv; go_simp; exact ⟨rfl, rfl⟩)); refine hK _ _ ?_; clear hK K)
      -- 9: neq<9> t21, t23
      refine stepKz rfl (fun K hK => ?_); go_simp
      first | (refine hK _ _ ?_; clear hK K) | (apply Exists.intro; apply And.intro; (focus (intro wk hk; go_simp; exact ⟨rfl, rfl⟩)); refine hK _ _ ?_; clear hK K)
      -- 10: pick t18 ? t24 : false
      refine stepKz rfl (fun K hK => ?_); go_simp
      apply Exists.intro; apply And.intro; (focus (intro wk hk; go_simp; exact ⟨rfl, rfl⟩)); refine hK _ _ ?_; clear hK K
      refine stepN ?_
      refine hQ _ _ ?_
      intro w3 hT hG hF
      have hT9 := hT.undrew
      have sb9 := hbn.out _ _ sb hT9
      have hl9 : Below w.heap.size w w3 := hl.trans (hT9.below_of hl.size (by intro c hc; have hc' : c = g := hc; omega))
      clear hT hG hF hQ QQ L sb hl hs hT9
      have sb := sb9
      have hl := hl9
      clear sb9 hl9
      clear hFF k38
      have H3 := Lib.hid (show _ ∧ _ from ⟨hl, sb⟩)
      clear hl sb hbn hg1 hg2
      go_wp2_with fail
      refine (rd.out _ H3.out.2).mono ?_
      rintro r w4 ⟨g2, rfl, hs, hl⟩
      have sm := samt_at hs (Nat.le_refl _)
      unfold Got at sm
      obtain ⟨lo2, hlo2⟩ : ∃ lo, w3.heap.size = lo := ⟨_, rfl⟩
      obtain ⟨hi2, hhi2⟩ : ∃ hi, w4.heap.size = hi := ⟨_, rfl⟩
      rw [hlo2, hhi2] at sm
      have hg1 := hs.1
      obtain ⟨a, ha⟩ : ∃ a, (gA (0, xs)).1 = a := ⟨_, rfl⟩
      obtain ⟨E2, hE2⟩ : ∃ a, (gA (0, xs)).2.1 = a := ⟨_, rfl⟩
      obtain ⟨R2, hR2⟩ : ∃ a, (gA (0, xs)).2.2 = a := ⟨_, rfl⟩
      have haM := gal.out
      rw [ha] at haM
      have ga2 := Lib.hid (show edE E2 R2 = 0 → xs = amtL a from fun h => by
        obtain ⟨h1, h2⟩ := edE_zero.1 h
        rw [h1] at hE2
        rw [h2] at hR2
        have := (ga.out a [] (Prod.ext ha (Prod.ext hE2 hR2))).1
        rwa [List.append_nil] at this)
      rw [ha, hE2, hR2] at sm
      obtain ⟨y0, y1, y2, y3, hW⟩ : ∃ y0 y1 y2 y3 : Int, W4 a = #[.int .u64 y0, .int .u64 y1, .int .u64 y2, .int .u64 y3] := ⟨_, _, _, _, rfl⟩
      rw [hW] at sm
      replace hW := Lib.hid hW
      replace sm := Lib.hid sm
      have hbn := Lib.hid (h0.out.old (g := g2) (by have := H3.out.1.size; omega))
      have HL := Lib.hid (show Below w.heap.size w w4 ∧ Bs w4 (.slice q n0 c) xs from ⟨H3.out.1.trans (hl.mono H3.out.1.size), H3.out.2.below hl⟩)
      have hgw : w.heap.size ≤ g2 := by have := H3.out.1.size; omega
      clear hs hl H3 ha hE2 hR2 gal ga rd hlo2 hhi2 hg1
      go_wp2_with fail
      refine sm.out.mono ?_
      rintro r w5 ⟨rfl, hs, ht⟩
      obtain ⟨hl, sb⟩ := HL.out
      replace sb := hbn.out _ _ sb ht
      replace hl : Below w.heap.size w w5 := hl.trans (ht.below_of hl.size (by intro c hc; have hc' : c = g2 := hc; omega))
      clear HL sm ht
      go_upto_region 9 with (fail)
      have hA : Below w5.heap.size w5 (w5.alloc (.cells #[.int .u64 y0, .int .u64 y1, .int .u64 y2, .int .u64 y3] 31)) := (Below.refl _ _).alloc (Nat.le_refl _) _
      have hg5 : g2 < w5.heap.size := hs.lt
      refine wp_abs (fun wx => Below w.heap.size w wx ∧ Bs wx (.slice q n0 c) xs ∧ SA wx lo2 hi2 g2 E2 R2 ∧ Row wx w5.heap.size 31 #[.int .u64 y0, .int .u64 y1, .int .u64 y2, .int .u64 y3]) ⟨hl.trans (hA.mono hl.size), sb.below hA, hs.below hA, Row.new_at rfl⟩ ?_
      clear hl sb hs hA
      rintro w6 ⟨hl, sb, hs, ra⟩
      obtain ⟨F2, hFF⟩ : ∃ F, edE E2 R2 = F := ⟨_, rfl⟩
      rw [hFF] at ga2
      replace hFF := Lib.hid hFF
      by_cases hF2 : F2 = 0
      · subst hF2
        have hxe := ga2.out rfl
        have k40 := Lib.hid (fun wx => amt_any (.slice none 0 0) [] a wx (Bs.nil wx) (by decide) haM)
        rw [List.nil_append, ← hxe, hW.out] at k40
        clear hxe ga2
        let L : List Sp := [sW 1 [] [] [] g2 (fun _ => False) (fun u => u = .int .i64 0) (fun _ _ => True), sG 5 [] [] [] (fun _ => True) (ObF (fun _ => True) xs), sV 6 [5] [5] (fun u => u = .string B), sV 12 [] [] (fun u => u = .bool true)]
        refine wp_region_six (shs L) (look6 L) (fun c => c = g2) (by kernel_rfl) (by kernel_rfl) (mk_St L [1, 5] [1] (by kernel_rfl) (by kernel_rfl) ⟨ok_W ⟨_, rfl⟩ (fun _ _ _ _ _ => trivial) hs.lt rfl (fun _ h => h.elim), ok_G ⟨⟨undef, _, _⟩, Nat.le_refl _, Nat.le_refl _, trivial⟩ (fun x w w' h hT => ⟨h.1.keep hT fun b hb hx => hx ⟨(h.1.lt b hb).1, h.2.1 b hb⟩, h.2.1, trivial⟩), ok_V ⟨_, rfl⟩, ok_V ⟨_, rfl⟩, trivial⟩ (by intro i hi j hj hne b hb hx; simp only [List.mem_cons, List.not_mem_nil, or_false] at hi hj; subst hj; rcases hi with rfl | rfl; exact absurd rfl hne; exact False.elim hb)) ?_
        intro QQ hQ
        -- 0: t5
        refine stepK rfl (by kernel_rfl) (fun K hK => ?_); go_simp
        apply Exists.intro; apply And.intro; (focus (intro wk hk; go_simp; exact ⟨rfl, rfl⟩)); refine hK _ _ ?_; clear hK K
        -- 1: call F61(t30)
        refine stepS _ rfl (by kernel_rfl) (fun K hK => ?_); go_simp
        refine ⟨?_, ?_⟩
        · intro wk hk hg hu; go_simp; refine upon_enter ((end_call (hs.below hk.undrew.below) hFF.out).mono ?_); rintro e w' ⟨rfl, -, ht⟩; exact ⟨_, rfl, left_W (p := fun u => u = .int .i64 0) (f := fun _ _ => True) rfl rfl rfl ht trivial⟩
        rintro ⟨v1, lo1, hi1⟩ - - (rfl : v1 = _)
        refine hK _ _ ?_; clear hK K
        -- 2: neq<53> t31, 0
        refine stepKz rfl (fun K hK => ?_); go_simp
        apply Exists.intro; apply And.intro; (focus (intro wk hk; go_simp; exact ⟨rfl, rfl⟩)); refine hK _ _ ?_; clear hK K
        -- 3: t32
        refine stepKz rfl (fun K hK => ?_); go_simp
        apply Exists.intro; apply And.intro; (focus (intro wk hk; go_simp; exact ⟨rfl, rfl⟩)); refine hK _ _ ?_; clear hK K
        -- 4: load<31> *t6
        refine stepKz rfl (fun K hK => ?_); go_simp
        first | (refine hK _ _ ?_; clear hK K) | (apply Exists.intro; apply And.intro; (focus exact kLoad rfl rfl aggT31 ra rfl (fun hc => by have hc1 : w5.heap.size = g2 := hc; omega)); refine hK _ _ ?_; clear hK K)
        -- 5: call F40(nilslice, t34)
        refine stepSz _ rfl (fun K hK => ?_); go_simp
        refine ⟨?_, ?_⟩
        · intro wk hk hg hu; go_simp; refine upon_enter ((k40.out _).mono ?_); rintro e w' ⟨v, rfl, hv, hb9⟩; exact ⟨_, rfl, left_G rfl rfl hb9 trivial ⟨hv, fun b hb => (hv.lt b hb).2, trivial⟩⟩
        rintro ⟨v5, lo5, hi5⟩ - - -
        refine hK _ _ ?_; clear hK K
        -- 6: convert<33->9> t35
        refine stepSz _ rfl (fun K hK => ?_); go_simp
        refine ⟨?_, ?_⟩
        · intro wk hk hg hu; have u5 : ObF (fun _ => True) xs ⟨v5, _, _⟩ wk := hu 5 (show 5 ∈ [5] by decide); have cv := Bs.convA u5.1.bs; rw [hB.out] at cv; go_simp; exact left_V (p := fun u => u = .string B) rfl (Below.refl _ _) rfl
        rintro ⟨v6, lo6, hi6⟩ - - (rfl : v6 = _)
        refine hK _ _ ?_; clear hK K
        -- 7: t0
        refine stepKz rfl (fun K hK => ?_); go_simp
        first | (refine hK _ _ ?_; clear hK K) | (apply Exists.intro; apply And.intro; (focus (intro wk hk; go_simp; exact ⟨rfl, rfl⟩)); refine hK _ _ ?_; clear hK K)
        -- 8: convert<33->9> t37
        refine stepKz rfl (fun K hK => ?_); go_simp
        first | (refine hK _ _ ?_; clear hK K) | (apply Exists.intro; apply And.intro; (focus (intro wk hk; have cv := Bs.convA (hbn.out _ _ sb hk.undrew); rw [hB.out] at cv; go_simp; exact ⟨rfl, rfl⟩)); refine hK _ _ ?_; clear hK K)
        -- 9: eql<9> t36, t38
        refine stepKz rfl (fun K hK => ?_); go_simp
        first | (refine hK _ _ ?_; clear hK K) | (apply Exists.intro; apply And.intro; (focus (intro wk hk; go_simp; exact ⟨rfl, rfl⟩)); refine hK _ _ ?_; clear hK K)
        -- 10: pick t33 ? true : t39
        refine stepKz rfl (fun K hK => ?_); go_simp
        apply Exists.intro; apply And.intro; (focus (intro wk hk; go_simp; exact ⟨rfl, rfl⟩)); refine hK _ _ ?_; clear hK K
        -- 11: t40
        refine stepKz rfl (fun K hK => ?_); go_simp
        apply Exists.intro; apply And.intro; (focus (intro wk hk; go_simp; exact ⟨rfl, rfl⟩)); refine hK _ _ ?_; clear hK K
        -- 12: call F37()
        refine stepSz _ rfl (fun K hK => ?_); go_simp
        refine ⟨?_, ?_⟩
        · intro wk hk hg hu; go_simp; refine upon_enter ((lv.out _).mono ?_); rintro e w' ⟨rfl, hb⟩; exact ⟨_, rfl, left_V (p := fun u => u = .bool true) rfl (hb) rfl⟩
        rintro ⟨v12, lo12, hi12⟩ - - (rfl : v12 = _)
        refine hK _ _ ?_; clear hK K
        -- 13: pick t41 ? t42 : false
        refine stepKz rfl (fun K hK => ?_); go_simp
        apply Exists.intro; apply And.intro; (focus (intro wk hk; go_simp; exact ⟨rfl, rfl⟩)); refine hK _ _ ?_; clear hK K
        -- 14: assign t43
        refine stepKz rfl (fun K hK => ?_); go_simp
        apply Exists.intro; apply And.intro; (focus (intro wk hk; go_simp; exact ⟨rfl, rfl⟩)); refine hK _ _ ?_; clear hK K
        refine stepN ?_
        refine hQ _ _ ?_
        intro w7 hT hG hF
        have hT9 := hT.undrew
        have sb9 := hbn.out _ _ sb hT9
        have hl9 : Below w.heap.size w w7 := hl.trans (hT9.below_of hl.size (by intro c hc; have hc' : c = g2 := hc; omega))
        clear hT hG hF hQ QQ L sb hl hs hT9
        have sb := sb9
        have hl := hl9
        clear sb9 hl9
        have H := Lib.hid hl
        clear hl sb
        go_wp2_with fail
        go_ret
        exact ⟨rfl, H.out⟩
      · have hFq : (F2 == 0) = false := by rw [beq_eq_false_iff_ne]; exact hF2
        clear ga2
        let L : List Sp := [sW 1 [] [] [] g2 (fun _ => False) (fun u => u = .int .i64 F2) (fun _ _ => True), sV 12 [] [] (fun u => u = .bool true)]
        refine wp_region_six (shs L) (look6 L) (fun c => c = g2) (by kernel_rfl) (by kernel_rfl) (mk_St L [1] [1] (by kernel_rfl) (by kernel_rfl) ⟨ok_W ⟨_, rfl⟩ (fun _ _ _ _ _ => trivial) hs.lt rfl (fun _ h => h.elim), ok_V ⟨_, rfl⟩, trivial⟩ (by simp)) ?_
        intro QQ hQ
        -- 0: t5
        refine stepK rfl (by kernel_rfl) (fun K hK => ?_); go_simp
        apply Exists.intro; apply And.intro; (focus (intro wk hk; go_simp; exact ⟨rfl, rfl⟩)); refine hK _ _ ?_; clear hK K
        -- 1: call F61(t30)
        refine stepS _ rfl (by kernel_rfl) (fun K hK => ?_); go_simp
        refine ⟨?_, ?_⟩
        · intro wk hk hg hu; go_simp; refine upon_enter ((end_call (hs.below hk.undrew.below) hFF.out).mono ?_); rintro e w' ⟨rfl, -, ht⟩; exact ⟨_, rfl, left_W (p := fun u => u = .int .i64 F2) (f := fun _ _ => True) rfl rfl rfl ht trivial⟩
        rintro ⟨v1, lo1, hi1⟩ - - (rfl : v1 = _)
        refine hK _ _ ?_; clear hK K
        -- 2: neq<53> t31, 0
        refine stepKz rfl (fun K hK => ?_); go_simp
        apply Exists.intro; apply And.intro; (focus (intro wk hk; go_simp; exact ⟨rfl, rfl⟩)); refine hK _ _ ?_; clear hK K
        -- 3: t32
        refine stepKz rfl (fun K hK => ?_); go_simp
        apply Exists.intro; apply And.intro; (focus (intro wk hk; go_simp; exact ⟨rfl, rfl⟩)); refine hK _ _ ?_; clear hK K
        -- 4: load<31> *t6
        refine stepKz rfl (fun K hK => ?_); go_simp
        first | (refine hK _ _ ?_; clear hK K) | (apply Exists.intro; apply And.intro; (focus (intro wk hk; go_simp; exact ⟨rfl, rfl⟩)); refine hK _ _ ?_; clear hK K)
        -- 5: call F40(nilslice, t34)
        refine stepKz rfl (fun K hK => ?_); go_simp
        first | (refine hK _ _ ?_; clear hK K) | (apply Exists.intro; apply And.intro; (focus (intro wk hk; go_simp; exact ⟨rfl, rfl⟩)); refine hK _ _ ?_; clear hK K)
        -- 6: convert<33->9> t35
        refine stepKz rfl (fun K hK => ?_); go_simp
        first | (refine hK _ _ ?_; clear hK K) | (apply Exists.intro; apply And.intro; (focus (intro wk hk; go_simp; exact ⟨rfl, rfl⟩)); refine hK _ _ ?_; clear hK K)
        -- 7: t0
        refine stepKz rfl (fun K hK => ?_); go_simp
        first | (refine hK _ _ ?_; clear hK K) | (apply Exists.intro; apply And.intro; (focus (intro wk hk; go_simp; exact ⟨rfl, rfl⟩)); refine hK _ _ ?_; clear hK K)
        -- 8: convert<33->9> t37
        refine stepKz rfl (fun K hK => ?_); go_simp
        first | (refine hK _ _ ?_; clear hK K) | (apply Exists.intro; apply And.intro; (focus (intro wk hk; go_simp; exact ⟨rfl, rfl⟩)); refine hK _ _ ?_; clear hK K)
        -- 9: eql<9> t36, t38
        refine stepKz rfl (fun K hK => ?_); go_simp
        first | (refine hK _ _ ?_; clear hK K) | (apply Exists.intro; apply And.intro; (focus (intro wk hk; go_simp; exact ⟨rfl, rfl⟩)); refine hK _ _ ?_; clear hK K)
        -- 10: pick t33 ? true : t39
        refine stepKz rfl (fun K hK => ?_); go_simp
        apply Exists.intro; apply And.intro; (focus (intro wk hk; go_simp; exact ⟨rfl, rfl⟩)); refine hK _ _ ?_; clear hK K
        -- 11: t40
        refine stepKz rfl (fun K hK => ?_); go_simp
        apply Exists.intro; apply And.intro; (focus (intro wk hk; go_simp; exact ⟨rfl, rfl⟩)); refine hK _ _ ?_; clear hK K
        -- 12: call F37()
        refine stepSz _ rfl (fun K hK => ?_); go_simp
        refine ⟨?_, ?_⟩
        · intro wk hk hg hu; go_simp; refine upon_enter ((lv.out _).mono ?_); rintro e w' ⟨rfl, hb⟩; exact ⟨_, rfl, left_V (p := fun u => u = .bool true) rfl (hb) rfl⟩
        rintro ⟨v12, lo12, hi12⟩ - - (rfl : v12 = _)
        refine hK _ _ ?_; clear hK K
        -- 13: pick t41 ? t42 : false
        refine stepKz rfl (fun K hK => ?_); go_simp
        apply Exists.intro; apply And.intro; (focus (intro wk hk; go_simp; exact ⟨rfl, rfl⟩)); refine hK _ _ ?_; clear hK K
        -- 14: assign t43
        refine stepKz rfl (fun K hK => ?_); go_simp
        apply Exists.intro; apply And.intro; (focus (intro wk hk; go_simp; exact ⟨rfl, rfl⟩)); refine hK _ _ ?_; clear hK K
        refine stepN ?_
        refine hQ _ _ ?_
        intro w7 hT hG hF
        have hT9 := hT.undrew
        have sb9 := hbn.out _ _ sb hT9
        have hl9 : Below w.heap.size w w7 := hl.trans (hT9.below_of hl.size (by intro c hc; have hc' : c = g2 := hc; omega))
        clear hT hG hF hQ QQ L sb hl hs hT9
        have sb := sb9
        have hl := hl9
        clear sb9 hl9
        have H := Lib.hid hl
        clear hl sb
        go_wp2_with fail
        go_ret
        exact ⟨rfl, H.out⟩
    · have hFq : (F == 0) = false := by rw [beq_eq_false_iff_ne]; exact hF0
      clear gb2 gvl2
      let L : List Sp := [sW 1 [] [] [] g (fun _ => False) (fun u => u = .int .i64 F) (fun _ _ => True)]
      refine wp_region_six (shs L) (look6 L) (fun c => c = g) (by kernel_rfl) (by kernel_rfl) (mk_St L [1] [1] (by kernel_rfl) (by kernel_rfl) ⟨ok_W ⟨_, rfl⟩ (fun _ _ _ _ _ => trivial) hs.lt rfl (fun _ h => h.elim), trivial⟩ (by simp)) ?_
      intro QQ hQ
      -- 0: t3
      refine stepK rfl (by kernel_rfl) (fun K hK => ?_); go_simp
      apply Exists.intro; apply And.intro; (focus (intro wk hk; go_simp; exact ⟨rfl, rfl⟩)); refine hK _ _ ?_; clear hK K
      -- 1: call F61(t15)
      refine stepS _ rfl (by kernel_rfl) (fun K hK => ?_); go_simp
      refine ⟨?_, ?_⟩
      · intro wk hk hg hu; go_simp; refine upon_enter ((end_call (hs.below hk.undrew.below) hFF.out).mono ?_); rintro e w' ⟨rfl, -, ht⟩; exact ⟨_, rfl, left_W (p := fun u => u = .int .i64 F) (f := fun _ _ => True) rfl rfl rfl ht trivial⟩
      rintro ⟨v1, lo1, hi1⟩ - - (rfl : v1 = _)
      refine hK _ _ ?_; clear hK K
      -- 2: eql<53> t16, 0
      refine stepKz rfl (fun K hK => ?_); go_simp
      apply Exists.intro; apply And.intro; (focus (intro wk hk; go_simp; exact ⟨rfl, rfl⟩)); refine hK _ _ ?_; clear hK K
      -- 3: t17
      refine stepKz rfl (fun K hK => ?_); go_simp
      apply Exists.intro; apply And.intro; (focus (intro wk hk; go_simp; exact ⟨rfl, rfl⟩)); refine hK _ _ ?_; clear hK K
      -- 4: t4
      refine stepKz rfl (fun K hK => ?_); go_simp
      first | (refine hK _ _ ?_; clear hK K) | (apply Exists.intro; apply And.intro; (focus (intro wk hk; go_simp; exact ⟨rfl, rfl⟩)); refine hK _ _ ?_; clear hK K)
      -- 5: call F38(nilslice, t19)
      refine stepKz rfl (fun K hK => ?_); go_simp
      first | (refine hK _ _ ?_; clear hK K) | (apply Exists.intro; apply And.intro; (focus (intro wk hk; go_simp; exact ⟨rfl, rfl⟩)); refine hK _ _ ?_; clear hK K)
      -- 6: convert<33->9> t20
      refine stepKz rfl (fun K hK => ?_); go_simp
      first | (refine hK _ _ ?_; clear hK K) | (apply Exists.intro; apply And.intro; (focus (intro wk hk; go_simp; exact ⟨rfl, rfl⟩)); refine hK _ _ ?_; clear hK K)
      -- 7: t0
      refine stepKz rfl (fun K hK => ?_); go_simp
      first | (refine hK _ _ ?_; clear hK K) | (apply Exists.intro; apply And.intro; (focus (intro wk hk; go_simp; exact ⟨rfl, rfl⟩)); refine hK _ _ ?_; clear hK K)
      -- 8: convert<33->9> t22
      refine stepKz rfl (fun K hK => ?_); go_simp
      first | (refine hK _ _ ?_; clear hK K) | (apply Exists.intro; apply And.intro; (focus (intro wk hk; go_simp; exact ⟨rfl, rfl⟩)); refine hK _ _ ?_; clear hK K)
      -- 9: neq<9> t21, t23
      refine stepKz rfl (fun K hK => ?_); go_simp
      first | (refine hK _ _ ?_; clear hK K) | (apply Exists.intro; apply And.intro; (focus (intro wk hk; go_simp; exact ⟨rfl, rfl⟩)); refine hK _ _ ?_; clear hK K)
      -- 10: pick t18 ? t24 : false
      refine stepKz rfl (fun K hK => ?_); go_simp
      apply Exists.intro; apply And.intro; (focus (intro wk hk; go_simp; exact ⟨rfl, rfl⟩)); refine hK _ _ ?_; clear hK K
      refine stepN ?_
      refine hQ _ _ ?_
      intro w3 hT hG hF
      have hT9 := hT.undrew
      have sb9 := hbn.out _ _ sb hT9
      have hl9 : Below w.heap.size w w3 := hl.trans (hT9.below_of hl.size (by intro c hc; have hc' : c = g := hc; omega))
      clear hT hG hF hQ QQ L sb hl hs hT9
      have sb := sb9
      have hl := hl9
      clear sb9 hl9
      clear hFF hFq hF0
      have H3 := Lib.hid (show _ ∧ _ from ⟨hl, sb⟩)
      clear hl sb hbn hg1 hg2
      go_wp2_with fail
      refine (rd.out _ H3.out.2).mono ?_
      rintro r w4 ⟨g2, rfl, hs, hl⟩
      have sm := samt_at hs (Nat.le_refl _)
      unfold Got at sm
      obtain ⟨lo2, hlo2⟩ : ∃ lo, w3.heap.size = lo := ⟨_, rfl⟩
      obtain ⟨hi2, hhi2⟩ : ∃ hi, w4.heap.size = hi := ⟨_, rfl⟩
      rw [hlo2, hhi2] at sm
      have hg1 := hs.1
      obtain ⟨a, ha⟩ : ∃ a, (gA (0, xs)).1 = a := ⟨_, rfl⟩
      obtain ⟨E2, hE2⟩ : ∃ a, (gA (0, xs)).2.1 = a := ⟨_, rfl⟩
      obtain ⟨R2, hR2⟩ : ∃ a, (gA (0, xs)).2.2 = a := ⟨_, rfl⟩
      have haM := gal.out
      rw [ha] at haM
      have ga2 := Lib.hid (show edE E2 R2 = 0 → xs = amtL a from fun h => by
        obtain ⟨h1, h2⟩ := edE_zero.1 h
        rw [h1] at hE2
        rw [h2] at hR2
        have := (ga.out a [] (Prod.ext ha (Prod.ext hE2 hR2))).1
        rwa [List.append_nil] at this)
      rw [ha, hE2, hR2] at sm
      obtain ⟨y0, y1, y2, y3, hW⟩ : ∃ y0 y1 y2 y3 : Int, W4 a = #[.int .u64 y0, .int .u64 y1, .int .u64 y2, .int .u64 y3] := ⟨_, _, _, _, rfl⟩
      rw [hW] at sm
      replace hW := Lib.hid hW
      replace sm := Lib.hid sm
      have hbn := Lib.hid (h0.out.old (g := g2) (by have := H3.out.1.size; omega))
      have HL := Lib.hid (show Below w.heap.size w w4 ∧ Bs w4 (.slice q n0 c) xs from ⟨H3.out.1.trans (hl.mono H3.out.1.size), H3.out.2.below hl⟩)
      have hgw : w.heap.size ≤ g2 := by have := H3.out.1.size; omega
      clear hs hl H3 ha hE2 hR2 gal ga rd hlo2 hhi2 hg1
      go_wp2_with fail
      refine sm.out.mono ?_
      rintro r w5 ⟨rfl, hs, ht⟩
      obtain ⟨hl, sb⟩ := HL.out
      replace sb := hbn.out _ _ sb ht
      replace hl : Below w.heap.size w w5 := hl.trans (ht.below_of hl.size (by intro c hc; have hc' : c = g2 := hc; omega))
      clear HL sm ht
      go_upto_region 9 with (fail)
      have hA : Below w5.heap.size w5 (w5.alloc (.cells #[.int .u64 y0, .int .u64 y1, .int .u64 y2, .int .u64 y3] 31)) := (Below.refl _ _).alloc (Nat.le_refl _) _
      have hg5 : g2 < w5.heap.size := hs.lt
      refine wp_abs (fun wx => Below w.heap.size w wx ∧ Bs wx (.slice q n0 c) xs ∧ SA wx lo2 hi2 g2 E2 R2 ∧ Row wx w5.heap.size 31 #[.int .u64 y0, .int .u64 y1, .int .u64 y2, .int .u64 y3]) ⟨hl.trans (hA.mono hl.size), sb.below hA, hs.below hA, Row.new_at rfl⟩ ?_
      clear hl sb hs hA
      rintro w6 ⟨hl, sb, hs, ra⟩
      obtain ⟨F2, hFF⟩ : ∃ F, edE E2 R2 = F := ⟨_, rfl⟩
      rw [hFF] at ga2
      replace hFF := Lib.hid hFF
      by_cases hF2 : F2 = 0
      · subst hF2
        have hxe := ga2.out rfl
        have k40 := Lib.hid (fun wx => amt_any (.slice none 0 0) [] a wx (Bs.nil wx) (by decide) haM)
        rw [List.nil_append, ← hxe, hW.out] at k40
        clear hxe ga2
        let L : List Sp := [sW 1 [] [] [] g2 (fun _ => False) (fun u => u = .int .i64 0) (fun _ _ => True), sG 5 [] [] [] (fun _ => True) (ObF (fun _ => True) xs), sV 6 [5] [5] (fun u => u = .string B), sV 12 [] [] (fun u => u = .bool true)]
        refine wp_region_six (shs L) (look6 L) (fun c => c = g2) (by kernel_rfl) (by kernel_rfl) (mk_St L [1, 5] [1] (by kernel_rfl) (by kernel_rfl) ⟨ok_W ⟨_, rfl⟩ (fun _ _ _ _ _ => trivial) hs.lt rfl (fun _ h => h.elim), ok_G ⟨⟨undef, _, _⟩, Nat.le_refl _, Nat.le_refl _, trivial⟩ (fun x w w' h hT => ⟨h.1.keep hT fun b hb hx => hx ⟨(h.1.lt b hb).1, h.2.1 b hb⟩, h.2.1, trivial⟩), ok_V ⟨_, rfl⟩, ok_V ⟨_, rfl⟩, trivial⟩ (by intro i hi j hj hne b hb hx; simp only [List.mem_cons, List.not_mem_nil, or_false] at hi hj; subst hj; rcases hi with rfl | rfl; exact absurd rfl hne; exact False.elim hb)) ?_
        intro QQ hQ
        -- 0: t5
        refine stepK rfl (by kernel_rfl) (fun K hK => ?_); go_simp
        apply Exists.intro; apply And.intro; (focus (intro wk hk; go_simp; exact ⟨rfl, rfl⟩)); refine hK _ _ ?_; clear hK K
        -- 1: call F61(t30)
        refine stepS _ rfl (by kernel_rfl) (fun K hK => ?_); go_simp
        refine ⟨?_, ?_⟩
        · intro wk hk hg hu; go_simp; refine upon_enter ((end_call (hs.below hk.undrew.below) hFF.out).mono ?_); rintro e w' ⟨rfl, -, ht⟩; exact ⟨_, rfl, left_W (p := fun u => u = .int .i64 0) (f := fun _ _ => True) rfl rfl rfl ht trivial⟩
        rintro ⟨v1, lo1, hi1⟩ - - (rfl : v1 = _)
        refine hK _ _ ?_; clear hK K
        -- 2: neq<53> t31, 0
        refine stepKz rfl (fun K hK => ?_); go_simp
        apply Exists.intro; apply And.intro; (focus (intro wk hk; go_simp; exact ⟨rfl, rfl⟩)); refine hK _ _ ?_; clear hK K
        -- 3: t32
        refine stepKz rfl (fun K hK => ?_); go_simp
        apply Exists.intro; apply And.intro; (focus (intro wk hk; go_simp; exact ⟨rfl, rfl⟩)); refine hK _ _ ?_; clear hK K
        -- 4: load<31> *t6
        refine stepKz rfl (fun K hK => ?_); go_simp
        first | (refine hK _ _ ?_; clear hK K) | (apply Exists.intro; apply And.intro; (focus exact kLoad rfl rfl aggT31 ra rfl (fun hc => by have hc1 : w5.heap.size = g2 := hc; omega)); refine hK _ _ ?_; clear hK K)
        -- 5: call F40(nilslice, t34)
        refine stepSz _ rfl (fun K hK => ?_); go_simp
        refine ⟨?_, ?_⟩
        · intro wk hk hg hu; go_simp; refine upon_enter ((k40.out _).mono ?_); rintro e w' ⟨v, rfl, hv, hb9⟩; exact ⟨_, rfl, left_G rfl rfl hb9 trivial ⟨hv, fun b hb => (hv.lt b hb).2, trivial⟩⟩
        rintro ⟨v5, lo5, hi5⟩ - - -
        refine hK _ _ ?_; clear hK K
        -- 6: convert<33->9> t35
        refine stepSz _ rfl (fun K hK => ?_); go_simp
        refine ⟨?_, ?_⟩
        · intro wk hk hg hu; have u5 : ObF (fun _ => True) xs ⟨v5, _, _⟩ wk := hu 5 (show 5 ∈ [5] by decide); have cv := Bs.convA u5.1.bs; rw [hB.out] at cv; go_simp; exact left_V (p := fun u => u = .string B) rfl (Below.refl _ _) rfl
        rintro ⟨v6, lo6, hi6⟩ - - (rfl : v6 = _)
        refine hK _ _ ?_; clear hK K
        -- 7: t0
        refine stepKz rfl (fun K hK => ?_); go_simp
        first | (refine hK _ _ ?_; clear hK K) | (apply Exists.intro; apply And.intro; (focus (intro wk hk; go_simp; exact ⟨rfl, rfl⟩)); refine hK _ _ ?_; clear hK K)
        -- 8: convert<33->9> t37
        refine stepKz rfl (fun K hK => ?_); go_simp
        first | (refine hK _ _ ?_; clear hK K) | (apply Exists.intro; apply And.intro; (focus (intro wk hk; have cv := Bs.convA (hbn.out _ _ sb hk.undrew); rw [hB.out] at cv; go_simp; exact ⟨rfl, rfl⟩)); refine hK _ _ ?_; clear hK K)
        -- 9: eql<9> t36, t38
        refine stepKz rfl (fun K hK => ?_); go_simp
        first | (refine hK _ _ ?_; clear hK K) | (apply Exists.intro; apply And.intro; (focus (intro wk hk; go_simp; exact ⟨rfl, rfl⟩)); refine hK _ _ ?_; clear hK K)
        -- 10: pick t33 ? true : t39
        refine stepKz rfl (fun K hK => ?_); go_simp
        apply Exists.intro; apply And.intro; (focus (intro wk hk; go_simp; exact ⟨rfl, rfl⟩)); refine hK _ _ ?_; clear hK K
        -- 11: t40
        refine stepKz rfl (fun K hK => ?_); go_simp
        apply Exists.intro; apply And.intro; (focus (intro wk hk; go_simp; exact ⟨rfl, rfl⟩)); refine hK _ _ ?_; clear hK K
        -- 12: call F37()
        refine stepSz _ rfl (fun K hK => ?_); go_simp
        refine ⟨?_, ?_⟩
        · intro wk hk hg hu; go_simp; refine upon_enter ((lv.out _).mono ?_); rintro e w' ⟨rfl, hb⟩; exact ⟨_, rfl, left_V (p := fun u => u = .bool true) rfl (hb) rfl⟩
        rintro ⟨v12, lo12, hi12⟩ - - (rfl : v12 = _)
        refine hK _ _ ?_; clear hK K
        -- 13: pick t41 ? t42 : false
        refine stepKz rfl (fun K hK => ?_); go_simp
        apply Exists.intro; apply And.intro; (focus (intro wk hk; go_simp; exact ⟨rfl, rfl⟩)); refine hK _ _ ?_; clear hK K
        -- 14: assign t43
        refine stepKz rfl (fun K hK => ?_); go_simp
        apply Exists.intro; apply And.intro; (focus (intro wk hk; go_simp; exact ⟨rfl, rfl⟩)); refine hK _ _ ?_; clear hK K
        refine stepN ?_
        refine hQ _ _ ?_
        intro w7 hT hG hF
        have hT9 := hT.undrew
        have sb9 := hbn.out _ _ sb hT9
        have hl9 : Below w.heap.size w w7 := hl.trans (hT9.below_of hl.size (by intro c hc; have hc' : c = g2 := hc; omega))
        clear hT hG hF hQ QQ L sb hl hs hT9
        have sb := sb9
        have hl := hl9
        clear sb9 hl9
        have H := Lib.hid hl
        clear hl sb
        go_wp2_with fail
        go_ret
        exact ⟨rfl, H.out⟩
      · have hFq : (F2 == 0) = false := by rw [beq_eq_false_iff_ne]; exact hF2
        clear ga2
        let L : List Sp := [sW 1 [] [] [] g2 (fun _ => False) (fun u => u = .int .i64 F2) (fun _ _ => True), sV 12 [] [] (fun u => u = .bool true)]
        refine wp_region_six (shs L) (look6 L) (fun c => c = g2) (by kernel_rfl) (by kernel_rfl) (mk_St L [1] [1] (by kernel_rfl) (by kernel_rfl) ⟨ok_W ⟨_, rfl⟩ (fun _ _ _ _ _ => trivial) hs.lt rfl (fun _ h => h.elim), ok_V ⟨_, rfl⟩, trivial⟩ (by simp)) ?_
        intro QQ hQ
        -- 0: t5
        refine stepK rfl (by kernel_rfl) (fun K hK => ?_); go_simp
        apply Exists.intro; apply And.intro; (focus (intro wk hk; go_simp; exact ⟨rfl, rfl⟩)); refine hK _ _ ?_; clear hK K
        -- 1: call F61(t30)
        refine stepS _ rfl (by kernel_rfl) (fun K hK => ?_); go_simp
        refine ⟨?_, ?_⟩
        · intro wk hk hg hu; go_simp; refine upon_enter ((end_call (hs.below hk.undrew.below) hFF.out).mono ?_); rintro e w' ⟨rfl, -, ht⟩; exact ⟨_, rfl, left_W (p := fun u => u = .int .i64 F2) (f := fun _ _ => True) rfl rfl rfl ht trivial⟩
        rintro ⟨v1, lo1, hi1⟩ - - (rfl : v1 = _)
        refine hK _ _ ?_; clear hK K
        -- 2: neq<53> t31, 0
        refine stepKz rfl (fun K hK => ?_); go_simp
        apply Exists.intro; apply And.intro; (focus (intro wk hk; go_simp; exact ⟨rfl, rfl⟩)); refine hK _ _ ?_; clear hK K
        -- 3: t32
        refine stepKz rfl (fun K hK => ?_); go_simp
        apply Exists.intro; apply And.intro; (focus (intro wk hk; go_simp; exact ⟨rfl, rfl⟩)); refine hK _ _ ?_; clear hK K
        -- 4: load<31> *t6
        refine stepKz rfl (fun K hK => ?_); go_simp
        first | (refine hK _ _ ?_; clear hK K) | (apply Exists.intro; apply And.intro; (focus (intro wk hk; go_simp; exact ⟨rfl, rfl⟩)); refine hK _ _ ?_; clear hK K)
        -- 5: call F40(nilslice, t34)
        refine stepKz rfl (fun K hK => ?_); go_simp
        first | (refine hK _ _ ?_; clear hK K) | (apply Exists.intro; apply And.intro; (focus (intro wk hk; go_simp; exact ⟨rfl, rfl⟩)); refine hK _ _ ?_; clear hK K)
        -- 6: convert<33->9> t35
        refine stepKz rfl (fun K hK => ?_); go_simp
        first | (refine hK _ _ ?_; clear hK K) | (apply Exists.intro; apply And.intro; (focus (intro wk hk; go_simp; exact ⟨rfl, rfl⟩)); refine hK _ _ ?_; clear hK K)
        -- 7: t0
        refine stepKz rfl (fun K hK => ?_); go_simp
        first | (refine hK _ _ ?_; clear hK K) | (apply Exists.intro; apply And.intro; (focus (intro wk hk; go_simp; exact ⟨rfl, rfl⟩)); refine hK _ _ ?_; clear hK K)
        -- 8: convert<33->9> t37
        refine stepKz rfl (fun K hK => ?_); go_simp
        first | (refine hK _ _ ?_; clear hK K) | (apply Exists.intro; apply And.intro; (focus (intro wk hk; go_simp; exact ⟨rfl, rfl⟩)); refine hK _ _ ?_; clear hK K)
        -- 9: eql<9> t36, t38
        refine stepKz rfl (fun K hK => ?_); go_simp
        first | (refine hK _ _ ?_; clear hK K) | (apply Exists.intro; apply And.intro; (focus (intro wk hk; go_simp; exact ⟨rfl, rfl⟩)); refine hK _ _ ?_; clear hK K)
        -- 10: pick t33 ? true : t39
        refine stepKz rfl (fun K hK => ?_); go_simp
        apply Exists.intro; apply And.intro; (focus (intro wk hk; go_simp; exact ⟨rfl, rfl⟩)); refine hK _ _ ?_; clear hK K
        -- 11: t40
        refine stepKz rfl (fun K hK => ?_); go_simp
        apply Exists.intro; apply And.intro; (focus (intro wk hk; go_simp; exact ⟨rfl, rfl⟩)); refine hK _ _ ?_; clear hK K
        -- 12: call F37()
        refine stepSz _ rfl (fun K hK => ?_); go_simp
        refine ⟨?_, ?_⟩
        · intro wk hk hg hu; go_simp; refine upon_enter ((lv.out _).mono ?_); rintro e w' ⟨rfl, hb⟩; exact ⟨_, rfl, left_V (p := fun u => u = .bool true) rfl (hb) rfl⟩
        rintro ⟨v12, lo12, hi12⟩ - - (rfl : v12 = _)
        refine hK _ _ ?_; clear hK K
        -- 13: pick t41 ? t42 : false
        refine stepKz rfl (fun K hK => ?_); go_simp
        apply Exists.intro; apply And.intro; (focus (intro wk hk; go_simp; exact ⟨rfl, rfl⟩)); refine hK _ _ ?_; clear hK K
        -- 14: assign t43
        refine stepKz rfl (fun K hK => ?_); go_simp
        apply Exists.intro; apply And.intro; (focus (intro wk hk; go_simp; exact ⟨rfl, rfl⟩)); refine hK _ _ ?_; clear hK K
        refine stepN ?_
        refine hQ _ _ ?_
        intro w7 hT hG hF
        have hT9 := hT.undrew
        have sb9 := hbn.out _ _ sb hT9
        have hl9 : Below w.heap.size w w7 := hl.trans (hT9.below_of hl.size (by intro c hc; have hc' : c = g2 := hc; omega))
        clear hT hG hF hQ QQ L sb hl hs hT9
        have sb := sb9
        have hl := hl9
        clear sb9 hl9
        have H := Lib.hid hl
        clear hl sb
        go_wp2_with fail
        go_ret
        exact ⟨rfl, H.out⟩
end Go.Proofs.Ytpdenhmkpiafiaa
