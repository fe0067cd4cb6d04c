/-
  Hashes, and a claim, in bytes: putProof (243; the reference's: 216), putClaim (215).
-/
import Derived.Test.YtpdenhmkpiafiaaTxDef
import Derived.Test.YtpdenhmkpiafiaaTxSame3
import Derived.Test.YtpdenhmkpiafiaaOctHash
import Derived.Test.YtpdenhmkpiafiaaOctAmt
import Derived.Test.YtpdenhmkpiafiaaOctPlain
namespace Go.Proofs.Ytpdenhmkpiafiaa
open Go Go.RowKit K6

theorem bv_arr {x : List Int} (h : x.length = 32) : (bv x).toArray.size = 32 := by rw [List.size_toArray, bv_len]; exact h
theorem bv_arr_one (x : List Int) : (bv x).toArray.all (·.oneCell') = true := by rw [List.all_toArray]; exact bv_all x
theorem W4_one_ (a : Nat) : (W4 a).all (·.oneCell') = true := by kernel_rfl
theorem info35 {Y : Array Value} (h : Y.size = 32) : (Try.prog.info? 35).map (·.size) = some Y.size := by rw [h]; kernel_rfl
theorem info31 {Y : Array Value} (h : Y.size = 4) : (Try.prog.info? 31).map (·.size) = some Y.size := by rw [h]; kernel_rfl
theorem info198 {Y : Array Value} (h : Y.size = 7) : (Try.prog.info? 198).map (·.size) = some Y.size := by rw [h]; kernel_rfl
set_option maxRecDepth 100000 in
set_option maxHeartbeats 16000000 in
theorem putProof_at (u v : Value) (xs : List Int) (l : List (List Int)) (w : World) (hu : Bs w u xs) (hL : xs.length ≤ 4000000) (h : Hs w v l) (hh : ∀ x ∈ l, x.length = 32) (hm1 : l.length ≤ 1000) :
    Calls Try.prog 243 #[u, v] w fun e w' => ∃ x, e = .returned x ∧ Ob w' w.heap.size x (xs ++ prfB l) ∧ Below w.heap.size w w' := by
  have HC1 := Lib.hid (show _ ∧ _ from ⟨h, hh⟩)
  obtain ⟨q, c, rfl, -⟩ := h
  obtain ⟨m, hm⟩ : ∃ m, l.length = m := ⟨_, rfl⟩
  rw [hm] at HC1 hm1
  obtain ⟨P, hP⟩ : ∃ P, xs ++ enc m = P := ⟨_, rfl⟩
  have hPl1 := Lib.hid (show P.length ≤ 4100000 by rw [← hP, List.length_append]; have := enc_len9 (m := m) (by omega); omega)
  have hPe := Lib.hid (show P ++ l.flatMap (fun y : List Int => y) = xs ++ prfB l by unfold prfB; rw [← hP, hm, List.append_assoc])
  have kv := var_any u xs (m : Int) w hu (by omega) (by omega)
  rw [Int.toNat_natCast, hP] at kv
  replace kv := Lib.hid kv
  rw [hm]
  have HM1 := Lib.hid hm
  have hmi : (m : Int) ≤ 1000 := by omega
  obtain ⟨B, hB⟩ : ∃ B, w.heap.size = B := ⟨_, rfl⟩
  clear hu hL hP hh hm
  go_enter Try.func243, Try.ntmps243
  go_wp2_with fail
  refine kv.out.mono ?_
  rintro e w1 ⟨x1, rfl, ho, hb⟩
  rw [hB] at ho
  have H1 := Lib.hid (show _ ∧ _ from ⟨ho, hb⟩)
  clear kv ho hb
  go_wp2_with fail
  go_loopg [0, 13] m (fun gg s0 s13 wr => ∃ i : Nat, i + gg = m ∧ s13 = .int .i64 (i : Int) ∧ Hid (Ob wr B s0 (P ++ (l.take i).flatMap (fun y : List Int => y))) ∧ Hid (Below w.heap.size w wr))
  case atStart => exact ⟨0, by omega, rfl, Lib.hid (by rw [List.take_zero, List.flatMap_nil, List.append_nil]; exact H1.out.1), Lib.hid H1.out.2⟩
  case round =>
    clear H1
    obtain ⟨i1, him1, rfl, hob1, hinv1⟩ := hrel
    by_cases hi : i1 < m
    · obtain ⟨x, hx⟩ : ∃ x, l[i1]? = some x := ⟨_, List.getElem?_eq_getElem (by have := HM1.out; omega)⟩
      obtain ⟨gx, ox, cx', hu, hgx, hcx⟩ := (HC1.out.1.below hinv1.out).get hx
      simp only [Value.slice.injEq] at hu
      obtain ⟨rfl, -, -⟩ := hu
      have hxl := HC1.out.2 x (List.mem_of_getElem? hx)
      have hst := flat_step (fun y : List Int => y) hx P
      obtain ⟨Y0, hY0⟩ : ∃ Z, P ++ (l.take i1).flatMap (fun y : List Int => y) = Z := ⟨_, rfl⟩
      obtain ⟨Z1, hZ1⟩ : ∃ Z, P ++ (l.take (i1 + 1)).flatMap (fun y : List Int => y) = Z := ⟨_, rfl⟩
      have hy0 : Y0.length ≤ 5000000 := by
        rw [← hY0, List.length_append]
        have h1 := flat_le (f := (fun y : List Int => y)) (c := 32) (l := l.take i1) (fun y hy => Nat.le_of_eq (HC1.out.2 y (List.mem_of_mem_take hy)))
        rw [List.length_take] at h1
        have h2 := hPl1.out
        omega
      rw [hY0] at hob1 hst
      rw [hZ1] at hst
      have k4 := fun wx vx (h : Bs wx vx Y0) => hash_put vx Y0 x wx h (by omega) hxl
      have hst2 := hst
      rw [hst2] at k4
      obtain ⟨Y, hY⟩ : ∃ Y, (bv x).toArray = Y := ⟨_, rfl⟩
      have hYsz := bv_arr hxl
      have hYone := bv_arr_one x
      replace hcx : ∀ j v, ((bv x).toArray).toList[j]? = some v → wr.cell? ⟨gx, ox + i1 * 32 + j, none⟩ = some v := hcx
      rw [hY] at k4 hYsz hYone hcx
      have hinf := info35 hYsz
      replace k4 := Lib.hid k4
      replace hZ1 := Lib.hid hZ1
      clear hx hY0 hst hst2 hy0 hxl hY
      have hlt : (i1 : Int) < (m : Int) := by omega
      have hBr : B ≤ wr.heap.size := by have := hinv1.out.size; omega
      go_upto_region 4 with (fail)
      let L : List Sp := [sA 2 35 [3] zr32, sT 3 2 35 [1] (fun g => aggOf g 1)]
      refine wp_region_six0 (shs L) (look6 L) (None_) (by kernel_rfl) (by kernel_rfl) (mk_St L [] [] (by kernel_rfl) (by kernel_rfl) ⟨ok_A, ok_T aggOf_congr, trivial⟩ (by simp)) ?_
      intro QQ hQ
      -- 0: indexAddr<111> t11[t13]
      refine stepK rfl (by kernel_rfl) (fun K hK => ?_); go_simp
      apply Exists.intro; apply And.intro; (focus (intro wk hk; go_simp; exact ⟨rfl, rfl⟩)); refine hK _ _ ?_; clear hK K
      -- 1: load<35> *t15
      refine stepK rfl (by kernel_rfl) (fun K hK => ?_); go_simp
      apply Exists.intro; apply And.intro; (focus exact kLoadA rfl rfl aggR35 hcx hYsz hgx id); refine hK _ _ ?_; clear hK K
      -- 2: alloc<35>
      refine stepS _ rfl (by kernel_rfl) (fun K hK => ?_); go_simp
      refine ⟨?_, ?_⟩
      · intro wk hk hg hu; go_simp; exact left_A rfl rfl
      rintro ⟨v2, lo2, hi2⟩ hlo2 hhi2 ⟨e2, f2⟩
      replace e2 : v2 = .pointer (some ⟨lo2, 0, none⟩) := e2; replace f2 : hi2 = lo2 + 1 := f2; replace hlo2 : _ ≤ lo2 := hlo2; subst e2; subst f2
      refine hK _ _ ?_; clear hK K
      -- 3: store<35> *t6 = t16
      refine stepS _ rfl (by kernel_rfl) (fun K hK => ?_); go_simp
      refine ⟨?_, ?_⟩
      · exact sStoreT rfl rfl rfl rfl rfl rfl rfl hinf hYsz.symm hYone (by decide) aggOf_congr
      rintro ⟨v3, lo3, hi3⟩ - - (rfl : v3 = undef)
      refine hK _ _ ?_; clear hK K
      refine stepN ?_
      refine hQ _ _ ?_
      intro w4 hT hG hF
      have hbw4 := hT.below
      have rY : Row w4 lo2 35 Y := (hF 3 _ rfl rfl (by decide)).2
      clear hT hG hF hQ QQ L hcx hgx
      have ob4 := hob1.out.below hbw4
      have hl4 := Lib.hid (hinv1.out.trans (hbw4.mono hinv1.out.size))
      have hs4 := hbw4.size
      have hB4 : B ≤ w4.heap.size := by omega
      clear hob1 hinv1 hbw4 hYone hinf hs4
      go_upto_region 5 with (fail)
      let L : List Sp := [sF 2 [] [] [] (fun _ => True) (fun x w => Ob w B x.v Z1)]
      refine wp_region_six0 (shs L) (look6 L) (None_) (by kernel_rfl) (by kernel_rfl) (mk_St L [] [] (by kernel_rfl) (by kernel_rfl) ⟨ok_F (any_some _) (fun _ _ _ h hb => Ob.below h hb), trivial⟩ (by simp)) ?_
      intro QQ hQ
      -- 0: t0
      refine stepK rfl (by kernel_rfl) (fun K hK => ?_); go_simp
      apply Exists.intro; apply And.intro; (focus (intro wk hk; go_simp; exact ⟨rfl, rfl⟩)); refine hK _ _ ?_; clear hK K
      -- 1: load<35> *t6
      refine stepK rfl (by kernel_rfl) (fun K hK => ?_); go_simp
      apply Exists.intro; apply And.intro; (focus exact kLoad rfl rfl aggR35 rY hYsz id); refine hK _ _ ?_; clear hK K
      -- 2: call F42(t17, t18)
      refine stepS _ rfl (by kernel_rfl) (fun K hK => ?_); go_simp
      refine ⟨?_, ?_⟩
      · intro wk hk hg hu; go_simp; refine upon_enter ((k4.out _ u0 (ob4.below hk.below).bs).mono ?_); rintro e w' ⟨v, rfl, hv, hb9⟩; exact ⟨_, rfl, left_F rfl rfl hb9 trivial (hv.base (by have := hk.size; omega))⟩
      rintro ⟨v2, lo2, hi2⟩ - - -
      refine hK _ _ ?_; clear hK K
      -- 3: assign t19
      refine stepK rfl (by kernel_rfl) (fun K hK => ?_); go_simp
      apply Exists.intro; apply And.intro; (focus (intro wk hk; go_simp; exact ⟨rfl, rfl⟩)); refine hK _ _ ?_; clear hK K
      refine stepN ?_
      refine hQ _ _ ?_
      intro w5 hT hG hF
      have o5 : Ob w5 B v2 Z1 := hF 2 _ rfl rfl (by decide)
      have hb5 := hT.below
      have H5 := Lib.hid (show Ob w5 B v2 (P ++ (l.take (i1 + 1)).flatMap (fun y : List Int => y)) ∧ Below w.heap.size w w5 from ⟨by rw [hZ1.out]; exact o5, hl4.out.trans (hb5.mono hl4.out.size)⟩)
      clear hT hG hF hQ QQ L k4 ob4 rY o5 hb5 hl4 hYsz hZ1
      go_wp2_with fail
      go_roundg (gk - 1)
      case measure => omega
      case rel => exact ⟨i1 + 1, by omega, by go_num, Lib.hid H5.out.1, Lib.hid H5.out.2⟩
    · obtain rfl : i1 = m := by omega
      have hlt : ¬ (i1 : Int) < (i1 : Int) := by omega
      rw [List.take_of_length_le (by have := HM1.out; omega)] at hob1
      go_wp2_with fail
      go_ret
      exact ⟨_, rfl, by rw [← hPe.out]; exact hob1.out, by first | exact hinv1.out | (rw [hB]; exact hinv1.out) | (rw [← hB]; exact hinv1.out)⟩
end Go.Proofs.Ytpdenhmkpiafiaa
