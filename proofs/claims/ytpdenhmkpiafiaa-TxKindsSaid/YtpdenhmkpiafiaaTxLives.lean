/-
  tallagelaw15.lives (133).
-/
import Derived.Test.YtpdenhmkpiafiaaTxBytes
import Derived.Test.YtpdenhmkpiafiaaOctKU
namespace Go.Proofs.Ytpdenhmkpiafiaa
open Go Go.RowKit K6

def t15 : Txv := ⟨15, 7, none, 0, [], none, 0, [], none, 0, [], cm0⟩
theorem t15_ok (w : World) : TxOk w t15 :=
  ⟨⟨by decide, by decide⟩, ⟨by decide, by decide⟩, Rs.nil _ _ _, (fun _ h => (by cases h)), Us.nil w, (fun _ h => (by cases h)), Rs.nil _ _ _, (fun _ h => (by cases h)), cm0_ok w⟩
theorem t15_light : LightT t15 := ⟨by decide, by decide, by decide, by decide, by decide, fun _ h => (by cases h)⟩
set_option maxRecDepth 100000 in
theorem t15_good : goodK t15.key = true := by
  unfold goodK
  have h1 : shpOf t15.key.1 = ⟨0, false, 0, false, 0, false⟩ := by kernel_rfl
  rw [h1]
  simp only [if_neg (show ¬ (false = true) by decide)]
  have h2 : decide (t15.key.2.2.2.2.2 = cm0.key) = true := decide_eq_true rfl
  rw [h2]
  decide +kernel
theorem t15_bytes : bytK t15.key = [15, 7] := by
  have h1 : shpOf t15.key.1 = ⟨0, false, 0, false, 0, false⟩ := by kernel_rfl
  have h2 : putK t15.key = [15, 7] := by
    unfold putK
    rw [h1]
    show enc 15 ++ (enc 7 ++ _) = _
    rw [enc_low (by decide), enc_low (by decide)]
    rfl
  unfold bytK
  rw [if_pos t15_good, h2]
  rfl
set_option maxRecDepth 100000 in
set_option maxHeartbeats 64000000 in
theorem lives15U (w : World) : Calls Try.prog 133 #[] w fun e w' => e = .returned (.bool true) ∧ Below w.heap.size w w' := by
  have kb := fun wx => txbytes_at t15 wx (t15_ok wx) t15_light
  rw [t15_bytes] at kb
  have hcs : t15.cs.toArray = #[.int .i64 15, .int .i64 7, .slice none 0 0, .slice none 0 0, .slice none 0 0, .int .i64 0, .int .i64 0, .int .i64 0, .int .u8 0, .int .u8 0, .int .u8 0, .int .u8 0, .int .u8 0, .int .u8 0, .int .u8 0, .int .u8 0, .int .u8 0, .int .u8 0, .int .u8 0, .int .u8 0, .int .u8 0, .int .u8 0, .int .u8 0, .int .u8 0, .int .u8 0, .int .u8 0, .int .u8 0, .int .u8 0, .int .u8 0, .int .u8 0, .int .u8 0, .int .u8 0, .int .u8 0, .int .u8 0, .int .u8 0, .int .u8 0, .int .u8 0, .int .u8 0, .int .u8 0, .int .u8 0, .slice none 0 0, .slice none 0 0, .int .i64 0] := by kernel_rfl
  rw [hcs] at kb
  replace kb := Lib.hid kb
  have hSB : Hid (strOfNums [15, 7] = ByteArray.mk #[15, 7]) := Lib.hid (by kernel_rfl)
  clear hcs
  go_enter Try.func133, Try.ntmps133
  go_upto_region 1 with (fail)
  let L : List Sp := [sF 1 [] [] [] (fun _ => True) (fun x w => Bs w x.v [15, 7]), sV 2 [1] [1] (fun u => u = .string (ByteArray.mk #[15, 7]))]
  refine wp_region_six0 (shs L) (look6 L) (None_) (by kernel_rfl) (by kernel_rfl) (mk_St L [] [] (by kernel_rfl) (by kernel_rfl) ⟨ok_F (any_some _) (fun _ _ _ h hb => Bs.below h hb), ok_V ⟨_, rfl⟩, trivial⟩ (by simp)) ?_
  intro QQ hQ
  -- 0: build<116> 0:15, 1:7
  refine stepK rfl (by kernel_rfl) (fun K hK => ?_); go_simp
  apply Exists.intro; apply And.intro; (focus (intro wk hk; go_simp; exact ⟨rfl, rfl⟩)); refine hK _ _ ?_; clear hK K
  -- 1: call F138(t1)
  refine stepS _ rfl (by kernel_rfl) (fun K hK => ?_); go_simp
  refine ⟨?_, ?_⟩
  · intro wk hk hg hu; go_simp; refine upon_enter ((kb.out _).mono ?_); rintro e w' ⟨v, rfl, hv, hb9⟩; exact ⟨_, rfl, left_F rfl rfl hb9 trivial hv.bs⟩
  rintro ⟨v1, lo1, hi1⟩ - - -
  refine hK _ _ ?_; clear hK K
  -- 2: convert<33->9> t2
  refine stepS _ rfl (by kernel_rfl) (fun K hK => ?_); go_simp
  refine ⟨?_, ?_⟩
  · intro wk hk hg hu; have u1 := hu 1 (show 1 ∈ [1] by decide); have b1 : Bs wk v1 [15, 7] := u1; have cv := Bs.convA b1; rw [hSB.out] at cv; go_simp; exact left_V (p := fun u => u = .string (ByteArray.mk #[15, 7])) rfl (Below.refl _ _) rfl
  rintro ⟨v2, lo2, hi2⟩ - - (rfl : v2 = _)
  refine hK _ _ ?_; clear hK K
  -- 3: eql<9> t3, str(ByteArray.mk (List.toArray (List.cons 15 (List.cons 7 List.nil))))
  refine stepK rfl (by kernel_rfl) (fun K hK => ?_); go_simp
  apply Exists.intro; apply And.intro; (focus (intro wk hk; go_simp; exact ⟨rfl, rfl⟩)); refine hK _ _ ?_; clear hK K
  -- 4: assign t4
  refine stepK rfl (by kernel_rfl) (fun K hK => ?_); go_simp
  apply Exists.intro; apply And.intro; (focus (intro wk hk; go_simp; exact ⟨rfl, rfl⟩)); refine hK _ _ ?_; clear hK K
  refine stepN ?_
  refine hQ _ _ ?_
  intro w9 hT hG hF
  have H9 := Lib.hid (hT.below)
  clear hT hG hF hQ QQ L kb
  go_wp2_with fail
  go_ret
  exact ⟨by first | rfl | (simp; done), H9.out⟩
end Go.Proofs.Ytpdenhmkpiafiaa
