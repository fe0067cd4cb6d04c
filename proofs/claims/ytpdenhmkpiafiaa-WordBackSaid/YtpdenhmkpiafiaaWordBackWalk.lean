/-
  tallagelaw01.WordBack, THE WALK: what was added is taken away; a product is divided again; quotient times divisor, and the rest, is the dividend; bytes and digits lead back.
-/
import Derived.Test.YtpdenhmkpiafiaaBackPlain
import Derived.Deep.DeepCutAuto
namespace Go.Proofs.Ytpdenhmkpiafiaa
open Go Go.RowKit K6

theorem subBack {a b : Nat} (hb : b < M) (h : a + b < M) (w : World) : Calls Try.prog 52 #[.agg (W4 (a + b)), .agg (W4 b)] w (Ret w (.tuple #[.agg (W4 a), .bool true])) := by
  have := subU h hb w
  rwa [show a + b - b = a by omega, show subB (a + b) b = true by simp [subB]] at this
theorem divBack {a b : Nat} (hb : b < M) (h : a * b < M) (h0 : b ≠ 0) (w : World) : Calls Try.prog 55 #[.agg (W4 (a * b)), .agg (W4 b)] w (Ret w (.tuple #[.agg (W4 a), .agg (W4 0), .bool true])) := by
  have := divU h hb w
  rwa [Nat.mul_div_cancel _ (by omega), show divR (a * b) b = 0 by simp [divR], decide_eq_true h0] at this
theorem mulBack {a b : Nat} (ha : a < M) (hb : b < M) (w : World) : Calls Try.prog 47 #[.agg (W4 (a / b)), .agg (W4 b)] w (Ret w (.tuple #[.agg (W4 (a / b * b)), .bool true])) := by
  have hle : a / b * b ≤ a := Nat.div_mul_le_self a b
  have := mulU (Nat.lt_of_le_of_lt (Nat.div_le_self a b) ha) hb w
  rwa [show mulN (a / b) b = a / b * b by unfold mulN; rw [if_pos (by omega)], show mulB (a / b) b = true by unfold mulB; exact decide_eq_true (by omega)] at this
theorem addBack {a b : Nat} (ha : a < M) (w : World) : Calls Try.prog 46 #[.agg (W4 (a / b * b)), .agg (W4 (a % b))] w (Ret w (.tuple #[.agg (W4 a), .bool true])) := by
  have hle : a / b * b ≤ a := Nat.div_mul_le_self a b
  have hlt : a % b ≤ a := Nat.mod_le a b
  have e : a / b * b + a % b = a := by rw [Nat.mul_comm]; exact Nat.div_add_mod a b
  have := addU (a := a / b * b) (b := a % b) (by omega) (by omega) w
  rwa [show addN (a / b * b) (a % b) = a by unfold addN; rw [if_pos (by omega), e], show addB (a / b * b) (a % b) = true by unfold addB; exact decide_eq_true (by omega)] at this
/-- the number of bytes that are read -/
theorem fromBack {a : Nat} (ha : a < M) (w : World) (g : Nat) (hr : Row w g 5 (arr .u8 (bytesTo a 32) 32)) : Calls Try.prog 81 #[.slice (some ⟨g, 0, none⟩) 32 32] w (Ret w (.tuple #[.agg (W4 a), .bool true])) := by
  refine (fromBytes_any (some ⟨g, 0, none⟩) 32 32 (fun i => byN a (31 - i)) w (fun i => byN_lt _ _) (fun _ => ⟨g, 0, rfl, hr.lt, fun i hi => ?_⟩)).mono fun _ _ h => ?_
  · rw [Nat.zero_add, hr.at_ i hi]
    simp [bytesTo, hi]
  · have := pair_ret h
    rwa [if_pos rfl, fromN_byN a ha, decide_eq_true rfl] at this

set_option maxRecDepth 100000 in
set_option maxHeartbeats 16000000 in
theorem back_walk (a b : Nat) (ha : a < M) (hb : b < M) (w : World) : Calls Try.prog 12 #[.agg (W4 a), .agg (W4 b)] w (Ret w (.bool true)) := by
  go_enter Try.func12, Try.ntmps12
  apply wp_seq_eq
  focus
    intro J hJ
    go_wp2_with fail
    exact hJ
  refine wp_abs (Mem w [(w.heap.size, 31, W4 a), (w.heap.size + 1, 31, W4 b)]) ⟨by go_grown, (Row.new_at rfl).alloc _, Row.new_at (by simp), trivial⟩ ?_
  intro w0 hM
  go_step
  go_cut [2, 3, 4] (fun p q r wx => p = .pointer (some ⟨w.heap.size, 0, none⟩) ∧ q = .pointer (some ⟨w.heap.size + 1, 0, none⟩) ∧ r = .bool false ∧ Mem w [(w.heap.size, 31, W4 a), (w.heap.size + 1, 31, W4 b)] wx)
  case first =>
    obtain ⟨hl, ra, rb, -⟩ := hM
    go_step
    let L : List Sp := [sV 2 [] [] (fun u => u = .tuple #[.agg (W4 (addN a b)), .bool (addB a b)]), sA 6 31 [7] #[.int .u64 0, .int .u64 0, .int .u64 0, .int .u64 0], sT 7 6 31 [4] (fun g => aggOf g 4)]
    refine wp_region_six0 (shs L) (look6 L) (None_) (by kernel_rfl) (by kernel_rfl) (mk_St L [] [] (by kernel_rfl) (by kernel_rfl) ⟨ok_V ⟨_, rfl⟩, ok_A, ok_T aggOf_congr, trivial⟩ (by simp)) ?_
    intro QQ hQ
    -- 0: load<31> *t2
    refine stepK rfl (by kernel_rfl) (fun K hK => ?_); go_simp
    apply Exists.intro; apply And.intro; (focus exact kLoad rfl rfl aggT31 ra rfl id); refine hK _ _ ?_; clear hK K
    -- 1: load<31> *t3
    refine stepK rfl (by kernel_rfl) (fun K hK => ?_); go_simp
    apply Exists.intro; apply And.intro; (focus exact kLoad rfl rfl aggT31 rb rfl id); refine hK _ _ ?_; clear hK K
    -- 2: call F46(t26, t27)
    refine stepS _ rfl (by kernel_rfl) (fun K hK => ?_); go_simp
    refine ⟨?_, ?_⟩
    · intro wk hk hg hu; go_simp; refine upon_enter ((addU ha hb _).mono ?_); rintro e w' ⟨rfl, hb⟩; exact ⟨_, rfl, left_V (p := fun u => u = .tuple #[.agg (W4 (addN a b)), .bool (addB a b)]) rfl (hb) rfl⟩
    rintro ⟨v2, lo2, hi2⟩ - - (rfl : v2 = _)
    refine hK _ _ ?_; clear hK K
    -- 3: t28
    refine stepK rfl (by kernel_rfl) (fun K hK => ?_); go_simp
    apply Exists.intro; apply And.intro; (focus (intro wk hk; go_simp; exact ⟨rfl, rfl⟩)); refine hK _ _ ?_; clear hK K
    -- 4: extract t25 #0
    refine stepK rfl (by kernel_rfl) (fun K hK => ?_); go_simp
    apply Exists.intro; apply And.intro; (focus (intro wk hk; go_simp; exact ⟨rfl, rfl⟩)); refine hK _ _ ?_; clear hK K
    -- 5: extract t25 #1
    refine stepK rfl (by kernel_rfl) (fun K hK => ?_); go_simp
    apply Exists.intro; apply And.intro; (focus (intro wk hk; go_simp; exact ⟨rfl, rfl⟩)); refine hK _ _ ?_; clear hK K
    -- 6: alloc<31>
    refine stepS _ rfl (by kernel_rfl) (fun K hK => ?_); go_simp
    refine ⟨?_, ?_⟩
    · intro wk hk hg hu; go_simp; exact left_A rfl rfl
    rintro ⟨v6, lo6, hi6⟩ hlo6 hhi6 ⟨e6, f6⟩
    replace e6 : v6 = .pointer (some ⟨lo6, 0, none⟩) := e6; replace f6 : hi6 = lo6 + 1 := f6; replace hlo6 : _ ≤ lo6 := hlo6; subst e6; subst f6
    refine hK _ _ ?_; clear hK K
    -- 7: store<31> *t5 = t29
    refine stepS _ rfl (by kernel_rfl) (fun K hK => ?_); go_simp
    refine ⟨?_, ?_⟩
    · exact sStoreT rfl rfl rfl rfl rfl rfl rfl (by kernel_rfl) rfl (by kernel_rfl) (by decide) aggOf_congr
    rintro ⟨v7, lo7, hi7⟩ - - (rfl : v7 = undef)
    refine hK _ _ ?_; clear hK K
    -- 8: assign t30
    refine stepK rfl (by kernel_rfl) (fun K hK => ?_); go_simp
    apply Exists.intro; apply And.intro; (focus (intro wk hk; go_simp; exact ⟨rfl, rfl⟩)); refine hK _ _ ?_; clear hK K
    refine stepN ?_
    refine hQ _ _ ?_
    intro w1 hT hG hF
    have hbw1 := hT.below
    have rs : Row w1 lo6 31 (W4 (addN a b)) := (hF 7 _ rfl rfl (by decide)).2
    replace ra := ra.below hbw1 ra.lt
    replace rb := rb.below hbw1 rb.lt
    replace hl := hl.trans (hbw1.mono hl.size)
    clear hT hG hF hbw1 hQ QQ L hlo6 hhi6
    by_cases h : a + b < M
    · rw [show addB a b = true from decide_eq_true h]
      replace rs : Row w1 lo6 31 (W4 (a + b)) := by rwa [show addN a b = a + b from if_pos h] at rs
      go_upto_region 3 with (fail)
      let L : List Sp := [sV 2 [] [] (fun u => u = .tuple #[.agg (W4 (a)), .bool true]), sA 6 31 [7] #[.int .u64 0, .int .u64 0, .int .u64 0, .int .u64 0], sT 7 6 31 [4] (fun g => aggOf g 4)]
      refine wp_region_six0 (shs L) (look6 L) (None_) (by kernel_rfl) (by kernel_rfl) (mk_St L [] [] (by kernel_rfl) (by kernel_rfl) ⟨ok_V ⟨_, rfl⟩, ok_A, ok_T aggOf_congr, trivial⟩ (by simp)) ?_
      intro QQ hQ
      -- 0: load<31> *t5
      refine stepK rfl (by kernel_rfl) (fun K hK => ?_); go_simp
      apply Exists.intro; apply And.intro; (focus exact kLoad rfl rfl aggT31 rs rfl id); refine hK _ _ ?_; clear hK K
      -- 1: load<31> *t3
      refine stepK rfl (by kernel_rfl) (fun K hK => ?_); go_simp
      apply Exists.intro; apply And.intro; (focus exact kLoad rfl rfl aggT31 rb rfl id); refine hK _ _ ?_; clear hK K
      -- 2: call F52(t33, t34)
      refine stepS _ rfl (by kernel_rfl) (fun K hK => ?_); go_simp
      refine ⟨?_, ?_⟩
      · intro wk hk hg hu; go_simp; refine upon_enter ((subBack hb h _).mono ?_); rintro e w' ⟨rfl, hb⟩; exact ⟨_, rfl, left_V (p := fun u => u = .tuple #[.agg (W4 (a)), .bool true]) rfl (hb) rfl⟩
      rintro ⟨v2, lo2, hi2⟩ - - (rfl : v2 = _)
      refine hK _ _ ?_; clear hK K
      -- 3: t35
      refine stepK rfl (by kernel_rfl) (fun K hK => ?_); go_simp
      apply Exists.intro; apply And.intro; (focus (intro wk hk; go_simp; exact ⟨rfl, rfl⟩)); refine hK _ _ ?_; clear hK K
      -- 4: extract t32 #0
      refine stepK rfl (by kernel_rfl) (fun K hK => ?_); go_simp
      apply Exists.intro; apply And.intro; (focus (intro wk hk; go_simp; exact ⟨rfl, rfl⟩)); refine hK _ _ ?_; clear hK K
      -- 5: extract t32 #1
      refine stepK rfl (by kernel_rfl) (fun K hK => ?_); go_simp
      apply Exists.intro; apply And.intro; (focus (intro wk hk; go_simp; exact ⟨rfl, rfl⟩)); refine hK _ _ ?_; clear hK K
      -- 6: alloc<31>
      refine stepS _ rfl (by kernel_rfl) (fun K hK => ?_); go_simp
      refine ⟨?_, ?_⟩
      · intro wk hk hg hu; go_simp; exact left_A rfl rfl
      rintro ⟨v6, lo6, hi6⟩ hlo6 hhi6 ⟨e6, f6⟩
      replace e6 : v6 = .pointer (some ⟨lo6, 0, none⟩) := e6; replace f6 : hi6 = lo6 + 1 := f6; replace hlo6 : _ ≤ lo6 := hlo6; subst e6; subst f6
      refine hK _ _ ?_; clear hK K
      -- 7: store<31> *t7 = t36
      refine stepS _ rfl (by kernel_rfl) (fun K hK => ?_); go_simp
      refine ⟨?_, ?_⟩
      · exact sStoreT rfl rfl rfl rfl rfl rfl rfl (by kernel_rfl) rfl (by kernel_rfl) (by decide) aggOf_congr
      rintro ⟨v7, lo7, hi7⟩ - - (rfl : v7 = undef)
      refine hK _ _ ?_; clear hK K
      -- 8: assign t37
      refine stepK rfl (by kernel_rfl) (fun K hK => ?_); go_simp
      apply Exists.intro; apply And.intro; (focus (intro wk hk; go_simp; exact ⟨rfl, rfl⟩)); refine hK _ _ ?_; clear hK K
      refine stepN ?_
      refine hQ _ _ ?_
      intro w2 hT hG hF
      have hbw2 := hT.below
      have rd : Row w2 lo6 31 (W4 (a)) := (hF 7 _ rfl rfl (by decide)).2
      replace ra := ra.below hbw2 ra.lt
      replace rb := rb.below hbw2 rb.lt
      replace rs := rs.below hbw2 rs.lt
      replace hl := hl.trans (hbw2.mono hl.size)
      clear hT hG hF hbw2 hQ QQ L hlo6 hhi6
      go_upto_region 4 with (fail)
      have hc : decide (cmpN (a + b) a < 0) = false := decide_eq_false (by unfold cmpN; (repeat' split) <;> omega)
      have q := eqU ha ha
      let L : List Sp := [sV 10 [] [] (fun u => u = .int .i64 (cmpN (a + b) a))]
      refine wp_region_six0 (shs L) (look6 L) (None_) (by kernel_rfl) (by kernel_rfl) (mk_St L [] [] (by kernel_rfl) (by kernel_rfl) ⟨ok_V ⟨_, rfl⟩, trivial⟩ (by simp)) ?_
      intro QQ hQ
      -- 0: t8
      refine stepK rfl (by kernel_rfl) (fun K hK => ?_); go_simp
      apply Exists.intro; apply And.intro; (focus (intro wk hk; go_simp; exact ⟨rfl, rfl⟩)); refine hK _ _ ?_; clear hK K
      -- 1: not<4> t38
      refine stepK rfl (by kernel_rfl) (fun K hK => ?_); go_simp
      apply Exists.intro; apply And.intro; (focus (intro wk hk; go_simp; exact ⟨rfl, rfl⟩)); refine hK _ _ ?_; clear hK K
      -- 2: t39
      refine stepK rfl (by kernel_rfl) (fun K hK => ?_); go_simp
      apply Exists.intro; apply And.intro; (focus (intro wk hk; go_simp; exact ⟨rfl, rfl⟩)); refine hK _ _ ?_; clear hK K
      -- 3: load<31> *t7
      refine stepK rfl (by kernel_rfl) (fun K hK => ?_); go_simp
      first | (refine hK _ _ ?_; clear hK K) | (apply Exists.intro; apply And.intro; (focus exact kLoad rfl rfl aggT31 rd rfl id); refine hK _ _ ?_; clear hK K)
      -- 4: load<31> *t2
      refine stepK rfl (by kernel_rfl) (fun K hK => ?_); go_simp
      first | (refine hK _ _ ?_; clear hK K) | (apply Exists.intro; apply And.intro; (focus exact kLoad rfl rfl aggT31 ra rfl id); refine hK _ _ ?_; clear hK K)
      -- 5: neq<31> t41, t42
      refine stepK rfl (by kernel_rfl) (fun K hK => ?_); go_simp
      first | (refine hK _ _ ?_; clear hK K) | (apply Exists.intro; apply And.intro; (focus (intro wk hk; go_simp; exact ⟨rfl, rfl⟩)); refine hK _ _ ?_; clear hK K)
      -- 6: pick t40 ? true : t43
      refine stepK rfl (by kernel_rfl) (fun K hK => ?_); go_simp
      apply Exists.intro; apply And.intro; (focus (intro wk hk; go_simp; exact ⟨rfl, rfl⟩)); refine hK _ _ ?_; clear hK K
      -- 7: t44
      refine stepK rfl (by kernel_rfl) (fun K hK => ?_); go_simp
      apply Exists.intro; apply And.intro; (focus (intro wk hk; go_simp; exact ⟨rfl, rfl⟩)); refine hK _ _ ?_; clear hK K
      -- 8: load<31> *t5
      refine stepK rfl (by kernel_rfl) (fun K hK => ?_); go_simp
      first | (refine hK _ _ ?_; clear hK K) | (apply Exists.intro; apply And.intro; (focus exact kLoad rfl rfl aggT31 rs rfl id); refine hK _ _ ?_; clear hK K)
      -- 9: load<31> *t2
      refine stepK rfl (by kernel_rfl) (fun K hK => ?_); go_simp
      first | (refine hK _ _ ?_; clear hK K) | (apply Exists.intro; apply And.intro; (focus exact kLoad rfl rfl aggT31 ra rfl id); refine hK _ _ ?_; clear hK K)
      -- 10: call F48(t46, t47)
      refine stepS _ rfl (by kernel_rfl) (fun K hK => ?_); go_simp
      refine ⟨?_, ?_⟩
      · intro wk hk hg hu; go_simp; refine upon_enter ((cmpU h ha _).mono ?_); rintro e w' ⟨rfl, hb⟩; exact ⟨_, rfl, left_V (p := fun u => u = .int .i64 (cmpN (a + b) a)) rfl (hb) rfl⟩
      rintro ⟨v10, lo10, hi10⟩ - - (rfl : v10 = _)
      refine hK _ _ ?_; clear hK K
      -- 11: lss<3> t48, 0
      refine stepK rfl (by kernel_rfl) (fun K hK => ?_); go_simp
      first | (refine hK _ _ ?_; clear hK K) | (apply Exists.intro; apply And.intro; (focus (intro wk hk; go_simp; exact ⟨rfl, rfl⟩)); refine hK _ _ ?_; clear hK K)
      -- 12: pick t45 ? true : t49
      refine stepK rfl (by kernel_rfl) (fun K hK => ?_); go_simp
      apply Exists.intro; apply And.intro; (focus (intro wk hk; go_simp; exact ⟨rfl, rfl⟩)); refine hK _ _ ?_; clear hK K
      refine stepN ?_
      refine hQ _ _ ?_
      intro w3 hT hG hF
      have hbw3 := hT.below
      replace ra := ra.below hbw3 ra.lt
      replace rb := rb.below hbw3 rb.lt
      replace hl := hl.trans (hbw3.mono hl.size)
      clear hT hG hF hbw3 hQ QQ L 
      go_wp2_with fail
      go_meet
      exact ⟨rfl, rfl, rfl, hl, ra, rb, trivial⟩
    · rw [show addB a b = false from decide_eq_false h]
      go_wp2_with fail
      go_meet
      exact ⟨rfl, rfl, rfl, hl, ra, rb, trivial⟩

  case rest =>
    clear hM
    obtain ⟨rfl, rfl, rfl, hM⟩ := hcut
    go_step
    go_step
    go_cut [2, 3, 4] (fun p q r wx => p = .pointer (some ⟨w.heap.size, 0, none⟩) ∧ q = .pointer (some ⟨w.heap.size + 1, 0, none⟩) ∧ r = .bool false ∧ Mem w [(w.heap.size, 31, W4 a), (w.heap.size + 1, 31, W4 b)] wx)
    case first =>
      obtain ⟨hl, ra, rb, -⟩ := hM
      go_step
      let L : List Sp := [sV 2 [] [] (fun u => u = .tuple #[.agg (W4 (mulN a b)), .bool (mulB a b)]), sA 6 31 [7] #[.int .u64 0, .int .u64 0, .int .u64 0, .int .u64 0], sT 7 6 31 [4] (fun g => aggOf g 4)]
      refine wp_region_six0 (shs L) (look6 L) (None_) (by kernel_rfl) (by kernel_rfl) (mk_St L [] [] (by kernel_rfl) (by kernel_rfl) ⟨ok_V ⟨_, rfl⟩, ok_A, ok_T aggOf_congr, trivial⟩ (by simp)) ?_
      intro QQ hQ
      -- 0: load<31> *t2
      refine stepK rfl (by kernel_rfl) (fun K hK => ?_); go_simp
      apply Exists.intro; apply And.intro; (focus exact kLoad rfl rfl aggT31 ra rfl id); refine hK _ _ ?_; clear hK K
      -- 1: load<31> *t3
      refine stepK rfl (by kernel_rfl) (fun K hK => ?_); go_simp
      apply Exists.intro; apply And.intro; (focus exact kLoad rfl rfl aggT31 rb rfl id); refine hK _ _ ?_; clear hK K
      -- 2: call F47(t52, t53)
      refine stepS _ rfl (by kernel_rfl) (fun K hK => ?_); go_simp
      refine ⟨?_, ?_⟩
      · intro wk hk hg hu; go_simp; refine upon_enter ((mulU ha hb _).mono ?_); rintro e w' ⟨rfl, hb⟩; exact ⟨_, rfl, left_V (p := fun u => u = .tuple #[.agg (W4 (mulN a b)), .bool (mulB a b)]) rfl (hb) rfl⟩
      rintro ⟨v2, lo2, hi2⟩ - - (rfl : v2 = _)
      refine hK _ _ ?_; clear hK K
      -- 3: t54
      refine stepK rfl (by kernel_rfl) (fun K hK => ?_); go_simp
      apply Exists.intro; apply And.intro; (focus (intro wk hk; go_simp; exact ⟨rfl, rfl⟩)); refine hK _ _ ?_; clear hK K
      -- 4: extract t51 #0
      refine stepK rfl (by kernel_rfl) (fun K hK => ?_); go_simp
      apply Exists.intro; apply And.intro; (focus (intro wk hk; go_simp; exact ⟨rfl, rfl⟩)); refine hK _ _ ?_; clear hK K
      -- 5: extract t51 #1
      refine stepK rfl (by kernel_rfl) (fun K hK => ?_); go_simp
      apply Exists.intro; apply And.intro; (focus (intro wk hk; go_simp; exact ⟨rfl, rfl⟩)); refine hK _ _ ?_; clear hK K
      -- 6: alloc<31>
      refine stepS _ rfl (by kernel_rfl) (fun K hK => ?_); go_simp
      refine ⟨?_, ?_⟩
      · intro wk hk hg hu; go_simp; exact left_A rfl rfl
      rintro ⟨v6, lo6, hi6⟩ hlo6 hhi6 ⟨e6, f6⟩
      replace e6 : v6 = .pointer (some ⟨lo6, 0, none⟩) := e6; replace f6 : hi6 = lo6 + 1 := f6; replace hlo6 : _ ≤ lo6 := hlo6; subst e6; subst f6
      refine hK _ _ ?_; clear hK K
      -- 7: store<31> *t9 = t55
      refine stepS _ rfl (by kernel_rfl) (fun K hK => ?_); go_simp
      refine ⟨?_, ?_⟩
      · exact sStoreT rfl rfl rfl rfl rfl rfl rfl (by kernel_rfl) rfl (by kernel_rfl) (by decide) aggOf_congr
      rintro ⟨v7, lo7, hi7⟩ - - (rfl : v7 = undef)
      refine hK _ _ ?_; clear hK K
      -- 8: assign t56
      refine stepK rfl (by kernel_rfl) (fun K hK => ?_); go_simp
      apply Exists.intro; apply And.intro; (focus (intro wk hk; go_simp; exact ⟨rfl, rfl⟩)); refine hK _ _ ?_; clear hK K
      refine stepN ?_
      refine hQ _ _ ?_
      intro w1 hT hG hF
      have hbw1 := hT.below
      have rp : Row w1 lo6 31 (W4 (mulN a b)) := (hF 7 _ rfl rfl (by decide)).2
      replace ra := ra.below hbw1 ra.lt
      replace rb := rb.below hbw1 rb.lt
      replace hl := hl.trans (hbw1.mono hl.size)
      clear hT hG hF hbw1 hQ QQ L hlo6 hhi6
      by_cases h : a * b < M
      · rw [show mulB a b = true from decide_eq_true h]
        replace rp : Row w1 lo6 31 (W4 (a * b)) := by rwa [show mulN a b = a * b from if_pos h] at rp
        by_cases h0 : b = 0
        · have q0 : ∀ wx, (Op.equalIn 10000 31 (.agg (W4 b)) (.agg #[.int .u64 0, .int .u64 0, .int .u64 0, .int .u64 0])).run Try.prog wx = .ok true wx := fun wx => by rw [eqU0 hb, decide_eq_true h0]
          clear h0
          go_upto_region 7 with (fail)
          let L : List Sp := []
          refine wp_region_six0 (shs L) (look6 L) (None_) (by kernel_rfl) (by kernel_rfl) (mk_St L [] [] (by kernel_rfl) (by kernel_rfl) trivial (by simp)) ?_
          intro QQ hQ
          -- 0: t10
          refine stepK rfl (by kernel_rfl) (fun K hK => ?_); go_simp
          apply Exists.intro; apply And.intro; (focus (intro wk hk; go_simp; exact ⟨rfl, rfl⟩)); refine hK _ _ ?_; clear hK K
          -- 1: t57
          refine stepK rfl (by kernel_rfl) (fun K hK => ?_); go_simp
          apply Exists.intro; apply And.intro; (focus (intro wk hk; go_simp; exact ⟨rfl, rfl⟩)); refine hK _ _ ?_; clear hK K
          -- 2: load<31> *t3
          refine stepK rfl (by kernel_rfl) (fun K hK => ?_); go_simp
          first | (refine hK _ _ ?_; clear hK K) | (apply Exists.intro; apply And.intro; (focus exact kLoad rfl rfl aggT31 rb rfl id); refine hK _ _ ?_; clear hK K)
          -- 3: build<31> 
          refine stepK rfl (by kernel_rfl) (fun K hK => ?_); go_simp
          first | (refine hK _ _ ?_; clear hK K) | (apply Exists.intro; apply And.intro; (focus (intro wk hk; go_simp; exact ⟨rfl, rfl⟩)); refine hK _ _ ?_; clear hK K)
          -- 4: neq<31> t59, t60
          refine stepK rfl (by kernel_rfl) (fun K hK => ?_); go_simp
          first | (refine hK _ _ ?_; clear hK K) | (apply Exists.intro; apply And.intro; (focus (intro wk hk; go_simp; exact ⟨rfl, rfl⟩)); refine hK _ _ ?_; clear hK K)
          -- 5: pick t58 ? t61 : false
          refine stepK rfl (by kernel_rfl) (fun K hK => ?_); go_simp
          apply Exists.intro; apply And.intro; (focus (intro wk hk; go_simp; exact ⟨rfl, rfl⟩)); refine hK _ _ ?_; clear hK K
          refine stepN ?_
          refine hQ _ _ ?_
          intro w2 hT hG hF
          have hbw2 := hT.below
          replace ra := ra.below hbw2 ra.lt
          replace rb := rb.below hbw2 rb.lt
          replace hl := hl.trans (hbw2.mono hl.size)
          clear hT hG hF hbw2 hQ QQ L 
          go_wp2_with fail
          go_meet
          exact ⟨rfl, rfl, rfl, hl, ra, rb, trivial⟩
        · have q0 : ∀ wx, (Op.equalIn 10000 31 (.agg (W4 b)) (.agg #[.int .u64 0, .int .u64 0, .int .u64 0, .int .u64 0])).run Try.prog wx = .ok false wx := fun wx => by rw [eqU0 hb, decide_eq_false h0]
          go_upto_region 7 with (fail)
          let L : List Sp := []
          refine wp_region_six0 (shs L) (look6 L) (None_) (by kernel_rfl) (by kernel_rfl) (mk_St L [] [] (by kernel_rfl) (by kernel_rfl) trivial (by simp)) ?_
          intro QQ hQ
          -- 0: t10
          refine stepK rfl (by kernel_rfl) (fun K hK => ?_); go_simp
          apply Exists.intro; apply And.intro; (focus (intro wk hk; go_simp; exact ⟨rfl, rfl⟩)); refine hK _ _ ?_; clear hK K
          -- 1: t57
          refine stepK rfl (by kernel_rfl) (fun K hK => ?_); go_simp
          apply Exists.intro; apply And.intro; (focus (intro wk hk; go_simp; exact ⟨rfl, rfl⟩)); refine hK _ _ ?_; clear hK K
          -- 2: load<31> *t3
          refine stepK rfl (by kernel_rfl) (fun K hK => ?_); go_simp
          first | (refine hK _ _ ?_; clear hK K) | (apply Exists.intro; apply And.intro; (focus exact kLoad rfl rfl aggT31 rb rfl id); refine hK _ _ ?_; clear hK K)
          -- 3: build<31> 
          refine stepK rfl (by kernel_rfl) (fun K hK => ?_); go_simp
          first | (refine hK _ _ ?_; clear hK K) | (apply Exists.intro; apply And.intro; (focus (intro wk hk; go_simp; exact ⟨rfl, rfl⟩)); refine hK _ _ ?_; clear hK K)
          -- 4: neq<31> t59, t60
          refine stepK rfl (by kernel_rfl) (fun K hK => ?_); go_simp
          first | (refine hK _ _ ?_; clear hK K) | (apply Exists.intro; apply And.intro; (focus (intro wk hk; go_simp; exact ⟨rfl, rfl⟩)); refine hK _ _ ?_; clear hK K)
          -- 5: pick t58 ? t61 : false
          refine stepK rfl (by kernel_rfl) (fun K hK => ?_); go_simp
          apply Exists.intro; apply And.intro; (focus (intro wk hk; go_simp; exact ⟨rfl, rfl⟩)); refine hK _ _ ?_; clear hK K
          refine stepN ?_
          refine hQ _ _ ?_
          intro w2 hT hG hF
          have hbw2 := hT.below
          replace ra := ra.below hbw2 ra.lt
          replace rb := rb.below hbw2 rb.lt
          replace rp := rp.below hbw2 rp.lt
          replace hl := hl.trans (hbw2.mono hl.size)
          clear hT hG hF hbw2 hQ QQ L 
          go_upto_region 8 with (fail)
          clear q0
          let L : List Sp := [sV 2 [] [] (fun u => u = .tuple #[.agg (W4 (a)), .agg (W4 (0)), .bool true]), sA 7 31 [9] #[.int .u64 0, .int .u64 0, .int .u64 0, .int .u64 0], sA 8 31 [10] #[.int .u64 0, .int .u64 0, .int .u64 0, .int .u64 0], sT 9 7 31 [4] (fun g => aggOf g 4), sT 10 8 31 [5] (fun g => aggOf g 5)]
          refine wp_region_six0 (shs L) (look6 L) (None_) (by kernel_rfl) (by kernel_rfl) (mk_St L [] [] (by kernel_rfl) (by kernel_rfl) ⟨ok_V ⟨_, rfl⟩, ok_A, ok_A, ok_T aggOf_congr, ok_T aggOf_congr, trivial⟩ (by simp)) ?_
          intro QQ hQ
          -- 0: load<31> *t9
          refine stepK rfl (by kernel_rfl) (fun K hK => ?_); go_simp
          apply Exists.intro; apply And.intro; (focus exact kLoad rfl rfl aggT31 rp rfl id); refine hK _ _ ?_; clear hK K
          -- 1: load<31> *t3
          refine stepK rfl (by kernel_rfl) (fun K hK => ?_); go_simp
          apply Exists.intro; apply And.intro; (focus exact kLoad rfl rfl aggT31 rb rfl id); refine hK _ _ ?_; clear hK K
          -- 2: call F55(t64, t65)
          refine stepS _ rfl (by kernel_rfl) (fun K hK => ?_); go_simp
          refine ⟨?_, ?_⟩
          · intro wk hk hg hu; go_simp; refine upon_enter ((divBack hb h h0 _).mono ?_); rintro e w' ⟨rfl, hb⟩; exact ⟨_, rfl, left_V (p := fun u => u = .tuple #[.agg (W4 (a)), .agg (W4 (0)), .bool true]) rfl (hb) rfl⟩
          rintro ⟨v2, lo2, hi2⟩ - - (rfl : v2 = _)
          refine hK _ _ ?_; clear hK K
          -- 3: t66
          refine stepK rfl (by kernel_rfl) (fun K hK => ?_); go_simp
          apply Exists.intro; apply And.intro; (focus (intro wk hk; go_simp; exact ⟨rfl, rfl⟩)); refine hK _ _ ?_; clear hK K
          -- 4: extract t63 #0
          refine stepK rfl (by kernel_rfl) (fun K hK => ?_); go_simp
          apply Exists.intro; apply And.intro; (focus (intro wk hk; go_simp; exact ⟨rfl, rfl⟩)); refine hK _ _ ?_; clear hK K
          -- 5: extract t63 #1
          refine stepK rfl (by kernel_rfl) (fun K hK => ?_); go_simp
          apply Exists.intro; apply And.intro; (focus (intro wk hk; go_simp; exact ⟨rfl, rfl⟩)); refine hK _ _ ?_; clear hK K
          -- 6: extract t63 #2
          refine stepK rfl (by kernel_rfl) (fun K hK => ?_); go_simp
          apply Exists.intro; apply And.intro; (focus (intro wk hk; go_simp; exact ⟨rfl, rfl⟩)); refine hK _ _ ?_; clear hK K
          -- 7: alloc<31>
          refine stepS _ rfl (by kernel_rfl) (fun K hK => ?_); go_simp
          refine ⟨?_, ?_⟩
          · intro wk hk hg hu; go_simp; exact left_A rfl rfl
          rintro ⟨v7, lo7, hi7⟩ hlo7 hhi7 ⟨e7, f7⟩
          replace e7 : v7 = .pointer (some ⟨lo7, 0, none⟩) := e7; replace f7 : hi7 = lo7 + 1 := f7; replace hlo7 : _ ≤ lo7 := hlo7; subst e7; subst f7
          refine hK _ _ ?_; clear hK K
          -- 8: alloc<31>
          refine stepS _ rfl (by kernel_rfl) (fun K hK => ?_); go_simp
          refine ⟨?_, ?_⟩
          · intro wk hk hg hu; go_simp; exact left_A rfl rfl
          rintro ⟨v8, lo8, hi8⟩ hlo8 hhi8 ⟨e8, f8⟩
          replace e8 : v8 = .pointer (some ⟨lo8, 0, none⟩) := e8; replace f8 : hi8 = lo8 + 1 := f8; replace hlo8 : _ ≤ lo8 := hlo8; subst e8; subst f8
          refine hK _ _ ?_; clear hK K
          -- 9: store<31> *t11 = t67
          refine stepS _ rfl (by kernel_rfl) (fun K hK => ?_); go_simp
          refine ⟨?_, ?_⟩
          · exact sStoreT rfl rfl rfl rfl rfl rfl rfl (by kernel_rfl) rfl (by kernel_rfl) (by decide) aggOf_congr
          rintro ⟨v9, lo9, hi9⟩ - - (rfl : v9 = undef)
          refine hK _ _ ?_; clear hK K
          -- 10: store<31> *t12 = t68
          refine stepS _ rfl (by kernel_rfl) (fun K hK => ?_); go_simp
          refine ⟨?_, ?_⟩
          · exact sStoreT rfl rfl rfl rfl rfl rfl rfl (by kernel_rfl) rfl (by kernel_rfl) (by decide) aggOf_congr
          rintro ⟨v10, lo10, hi10⟩ - - (rfl : v10 = undef)
          refine hK _ _ ?_; clear hK K
          -- 11: assign t69
          refine stepK rfl (by kernel_rfl) (fun K hK => ?_); go_simp
          apply Exists.intro; apply And.intro; (focus (intro wk hk; go_simp; exact ⟨rfl, rfl⟩)); refine hK _ _ ?_; clear hK K
          refine stepN ?_
          refine hQ _ _ ?_
          intro w3 hT hG hF
          have hbw3 := hT.below
          have rq : Row w3 lo7 31 (W4 (a)) := (hF 9 _ rfl rfl (by decide)).2
          have rr : Row w3 lo8 31 (W4 (0)) := (hF 10 _ rfl rfl (by decide)).2
          replace ra := ra.below hbw3 ra.lt
          replace rb := rb.below hbw3 rb.lt
          replace hl := hl.trans (hbw3.mono hl.size)
          clear hT hG hF hbw3 hQ QQ L hlo7 hhi7 hlo8 hhi8
          have q := eqU ha ha
          have q0 : ∀ wx, (Op.equalIn 10000 31 (.agg (W4 0)) (.agg #[.int .u64 0, .int .u64 0, .int .u64 0, .int .u64 0])).run Try.prog wx = .ok true wx := fun wx => by rw [eqU0 M_pos, decide_eq_true rfl]
          go_upto_region 9 with (fail)
          let L : List Sp := []
          refine wp_region_six0 (shs L) (look6 L) (None_) (by kernel_rfl) (by kernel_rfl) (mk_St L [] [] (by kernel_rfl) (by kernel_rfl) trivial (by simp)) ?_
          intro QQ hQ
          -- 0: t13
          refine stepK rfl (by kernel_rfl) (fun K hK => ?_); go_simp
          apply Exists.intro; apply And.intro; (focus (intro wk hk; go_simp; exact ⟨rfl, rfl⟩)); refine hK _ _ ?_; clear hK K
          -- 1: not<4> t70
          refine stepK rfl (by kernel_rfl) (fun K hK => ?_); go_simp
          apply Exists.intro; apply And.intro; (focus (intro wk hk; go_simp; exact ⟨rfl, rfl⟩)); refine hK _ _ ?_; clear hK K
          -- 2: t71
          refine stepK rfl (by kernel_rfl) (fun K hK => ?_); go_simp
          apply Exists.intro; apply And.intro; (focus (intro wk hk; go_simp; exact ⟨rfl, rfl⟩)); refine hK _ _ ?_; clear hK K
          -- 3: load<31> *t11
          refine stepK rfl (by kernel_rfl) (fun K hK => ?_); go_simp
          first | (refine hK _ _ ?_; clear hK K) | (apply Exists.intro; apply And.intro; (focus exact kLoad rfl rfl aggT31 rq rfl id); refine hK _ _ ?_; clear hK K)
          -- 4: load<31> *t2
          refine stepK rfl (by kernel_rfl) (fun K hK => ?_); go_simp
          first | (refine hK _ _ ?_; clear hK K) | (apply Exists.intro; apply And.intro; (focus exact kLoad rfl rfl aggT31 ra rfl id); refine hK _ _ ?_; clear hK K)
          -- 5: neq<31> t73, t74
          refine stepK rfl (by kernel_rfl) (fun K hK => ?_); go_simp
          first | (refine hK _ _ ?_; clear hK K) | (apply Exists.intro; apply And.intro; (focus (intro wk hk; go_simp; exact ⟨rfl, rfl⟩)); refine hK _ _ ?_; clear hK K)
          -- 6: pick t72 ? true : t75
          refine stepK rfl (by kernel_rfl) (fun K hK => ?_); go_simp
          apply Exists.intro; apply And.intro; (focus (intro wk hk; go_simp; exact ⟨rfl, rfl⟩)); refine hK _ _ ?_; clear hK K
          -- 7: t76
          refine stepK rfl (by kernel_rfl) (fun K hK => ?_); go_simp
          apply Exists.intro; apply And.intro; (focus (intro wk hk; go_simp; exact ⟨rfl, rfl⟩)); refine hK _ _ ?_; clear hK K
          -- 8: load<31> *t12
          refine stepK rfl (by kernel_rfl) (fun K hK => ?_); go_simp
          first | (refine hK _ _ ?_; clear hK K) | (apply Exists.intro; apply And.intro; (focus exact kLoad rfl rfl aggT31 rr rfl id); refine hK _ _ ?_; clear hK K)
          -- 9: build<31> 
          refine stepK rfl (by kernel_rfl) (fun K hK => ?_); go_simp
          first | (refine hK _ _ ?_; clear hK K) | (apply Exists.intro; apply And.intro; (focus (intro wk hk; go_simp; exact ⟨rfl, rfl⟩)); refine hK _ _ ?_; clear hK K)
          -- 10: neq<31> t78, t79
          refine stepK rfl (by kernel_rfl) (fun K hK => ?_); go_simp
          first | (refine hK _ _ ?_; clear hK K) | (apply Exists.intro; apply And.intro; (focus (intro wk hk; go_simp; exact ⟨rfl, rfl⟩)); refine hK _ _ ?_; clear hK K)
          -- 11: pick t77 ? true : t80
          refine stepK rfl (by kernel_rfl) (fun K hK => ?_); go_simp
          apply Exists.intro; apply And.intro; (focus (intro wk hk; go_simp; exact ⟨rfl, rfl⟩)); refine hK _ _ ?_; clear hK K
          refine stepN ?_
          refine hQ _ _ ?_
          intro w4 hT hG hF
          have hbw4 := hT.below
          replace ra := ra.below hbw4 ra.lt
          replace rb := rb.below hbw4 rb.lt
          replace hl := hl.trans (hbw4.mono hl.size)
          clear hT hG hF hbw4 hQ QQ L 
          go_wp2_with fail
          go_meet
          exact ⟨rfl, rfl, rfl, hl, ra, rb, trivial⟩
      · rw [show mulB a b = false from decide_eq_false h]
        go_wp2_with fail
        go_meet
        exact ⟨rfl, rfl, rfl, hl, ra, rb, trivial⟩

    case rest =>
      clear hM
      obtain ⟨rfl, rfl, rfl, hM⟩ := hcut
      go_step
      go_step
      go_cut [2, 3, 4] (fun p q r wx => p = .pointer (some ⟨w.heap.size, 0, none⟩) ∧ q = .pointer (some ⟨w.heap.size + 1, 0, none⟩) ∧ r = .bool false ∧ Mem w [(w.heap.size, 31, W4 a), (w.heap.size + 1, 31, W4 b)] wx)
      case first =>
        obtain ⟨hl, ra, rb, -⟩ := hM
        go_step
        by_cases h0 : b = 0
        · have q0 : ∀ wx, (Op.equalIn 10000 31 (.agg (W4 b)) (.agg #[.int .u64 0, .int .u64 0, .int .u64 0, .int .u64 0])).run Try.prog wx = .ok true wx := fun wx => by rw [eqU0 hb, decide_eq_true h0]
          clear h0
          let L : List Sp := []
          refine wp_region_six0 (shs L) (look6 L) (None_) (by kernel_rfl) (by kernel_rfl) (mk_St L [] [] (by kernel_rfl) (by kernel_rfl) trivial (by simp)) ?_
          intro QQ hQ
          -- 0: load<31> *t3
          refine stepK rfl (by kernel_rfl) (fun K hK => ?_); go_simp
          apply Exists.intro; apply And.intro; (focus exact kLoad rfl rfl aggT31 rb rfl id); refine hK _ _ ?_; clear hK K
          -- 1: build<31> 
          refine stepK rfl (by kernel_rfl) (fun K hK => ?_); go_simp
          apply Exists.intro; apply And.intro; (focus (intro wk hk; go_simp; exact ⟨rfl, rfl⟩)); refine hK _ _ ?_; clear hK K
          -- 2: neq<31> t82, t83
          refine stepK rfl (by kernel_rfl) (fun K hK => ?_); go_simp
          apply Exists.intro; apply And.intro; (focus (intro wk hk; go_simp; exact ⟨rfl, rfl⟩)); refine hK _ _ ?_; clear hK K
          refine stepN ?_
          refine hQ _ _ ?_
          intro w2 hT hG hF
          have hbw2 := hT.below
          replace ra := ra.below hbw2 ra.lt
          replace rb := rb.below hbw2 rb.lt
          replace hl := hl.trans (hbw2.mono hl.size)
          clear hT hG hF hbw2 hQ QQ L 
          go_wp2_with fail
          go_meet
          exact ⟨rfl, rfl, rfl, hl, ra, rb, trivial⟩
        · have q0 : ∀ wx, (Op.equalIn 10000 31 (.agg (W4 b)) (.agg #[.int .u64 0, .int .u64 0, .int .u64 0, .int .u64 0])).run Try.prog wx = .ok false wx := fun wx => by rw [eqU0 hb, decide_eq_false h0]
          let L : List Sp := []
          refine wp_region_six0 (shs L) (look6 L) (None_) (by kernel_rfl) (by kernel_rfl) (mk_St L [] [] (by kernel_rfl) (by kernel_rfl) trivial (by simp)) ?_
          intro QQ hQ
          -- 0: load<31> *t3
          refine stepK rfl (by kernel_rfl) (fun K hK => ?_); go_simp
          apply Exists.intro; apply And.intro; (focus exact kLoad rfl rfl aggT31 rb rfl id); refine hK _ _ ?_; clear hK K
          -- 1: build<31> 
          refine stepK rfl (by kernel_rfl) (fun K hK => ?_); go_simp
          apply Exists.intro; apply And.intro; (focus (intro wk hk; go_simp; exact ⟨rfl, rfl⟩)); refine hK _ _ ?_; clear hK K
          -- 2: neq<31> t82, t83
          refine stepK rfl (by kernel_rfl) (fun K hK => ?_); go_simp
          apply Exists.intro; apply And.intro; (focus (intro wk hk; go_simp; exact ⟨rfl, rfl⟩)); refine hK _ _ ?_; clear hK K
          refine stepN ?_
          refine hQ _ _ ?_
          intro w2 hT hG hF
          have hbw2 := hT.below
          replace ra := ra.below hbw2 ra.lt
          replace rb := rb.below hbw2 rb.lt
          replace hl := hl.trans (hbw2.mono hl.size)
          clear hT hG hF hbw2 hQ QQ L 
          go_upto_region 12 with (fail)
          clear q0
          have hR : divR a b = a % b := if_neg h0
          have hd : decide (b ≠ 0) = true := decide_eq_true h0
          let L : List Sp := [sV 2 [] [] (fun u => u = .tuple #[.agg (W4 (a / b)), .agg (W4 (a % b)), .bool true]), sA 7 31 [9] #[.int .u64 0, .int .u64 0, .int .u64 0, .int .u64 0], sA 8 31 [10] #[.int .u64 0, .int .u64 0, .int .u64 0, .int .u64 0], sT 9 7 31 [4] (fun g => aggOf g 4), sT 10 8 31 [5] (fun g => aggOf g 5)]
          refine wp_region_six0 (shs L) (look6 L) (None_) (by kernel_rfl) (by kernel_rfl) (mk_St L [] [] (by kernel_rfl) (by kernel_rfl) ⟨ok_V ⟨_, rfl⟩, ok_A, ok_A, ok_T aggOf_congr, ok_T aggOf_congr, trivial⟩ (by simp)) ?_
          intro QQ hQ
          -- 0: load<31> *t2
          refine stepK rfl (by kernel_rfl) (fun K hK => ?_); go_simp
          apply Exists.intro; apply And.intro; (focus exact kLoad rfl rfl aggT31 ra rfl id); refine hK _ _ ?_; clear hK K
          -- 1: load<31> *t3
          refine stepK rfl (by kernel_rfl) (fun K hK => ?_); go_simp
          apply Exists.intro; apply And.intro; (focus exact kLoad rfl rfl aggT31 rb rfl id); refine hK _ _ ?_; clear hK K
          -- 2: call F55(t86, t87)
          refine stepS _ rfl (by kernel_rfl) (fun K hK => ?_); go_simp
          refine ⟨?_, ?_⟩
          · intro wk hk hg hu; go_simp; refine upon_enter ((hR ▸ hd ▸ divU ha hb _).mono ?_); rintro e w' ⟨rfl, hb⟩; exact ⟨_, rfl, left_V (p := fun u => u = .tuple #[.agg (W4 (a / b)), .agg (W4 (a % b)), .bool true]) rfl (hb) rfl⟩
          rintro ⟨v2, lo2, hi2⟩ - - (rfl : v2 = _)
          refine hK _ _ ?_; clear hK K
          -- 3: t88
          refine stepK rfl (by kernel_rfl) (fun K hK => ?_); go_simp
          apply Exists.intro; apply And.intro; (focus (intro wk hk; go_simp; exact ⟨rfl, rfl⟩)); refine hK _ _ ?_; clear hK K
          -- 4: extract t85 #0
          refine stepK rfl (by kernel_rfl) (fun K hK => ?_); go_simp
          apply Exists.intro; apply And.intro; (focus (intro wk hk; go_simp; exact ⟨rfl, rfl⟩)); refine hK _ _ ?_; clear hK K
          -- 5: extract t85 #1
          refine stepK rfl (by kernel_rfl) (fun K hK => ?_); go_simp
          apply Exists.intro; apply And.intro; (focus (intro wk hk; go_simp; exact ⟨rfl, rfl⟩)); refine hK _ _ ?_; clear hK K
          -- 6: extract t85 #2
          refine stepK rfl (by kernel_rfl) (fun K hK => ?_); go_simp
          apply Exists.intro; apply And.intro; (focus (intro wk hk; go_simp; exact ⟨rfl, rfl⟩)); refine hK _ _ ?_; clear hK K
          -- 7: alloc<31>
          refine stepS _ rfl (by kernel_rfl) (fun K hK => ?_); go_simp
          refine ⟨?_, ?_⟩
          · intro wk hk hg hu; go_simp; exact left_A rfl rfl
          rintro ⟨v7, lo7, hi7⟩ hlo7 hhi7 ⟨e7, f7⟩
          replace e7 : v7 = .pointer (some ⟨lo7, 0, none⟩) := e7; replace f7 : hi7 = lo7 + 1 := f7; replace hlo7 : _ ≤ lo7 := hlo7; subst e7; subst f7
          refine hK _ _ ?_; clear hK K
          -- 8: alloc<31>
          refine stepS _ rfl (by kernel_rfl) (fun K hK => ?_); go_simp
          refine ⟨?_, ?_⟩
          · intro wk hk hg hu; go_simp; exact left_A rfl rfl
          rintro ⟨v8, lo8, hi8⟩ hlo8 hhi8 ⟨e8, f8⟩
          replace e8 : v8 = .pointer (some ⟨lo8, 0, none⟩) := e8; replace f8 : hi8 = lo8 + 1 := f8; replace hlo8 : _ ≤ lo8 := hlo8; subst e8; subst f8
          refine hK _ _ ?_; clear hK K
          -- 9: store<31> *t14 = t89
          refine stepS _ rfl (by kernel_rfl) (fun K hK => ?_); go_simp
          refine ⟨?_, ?_⟩
          · exact sStoreT rfl rfl rfl rfl rfl rfl rfl (by kernel_rfl) rfl (by kernel_rfl) (by decide) aggOf_congr
          rintro ⟨v9, lo9, hi9⟩ - - (rfl : v9 = undef)
          refine hK _ _ ?_; clear hK K
          -- 10: store<31> *t15 = t90
          refine stepS _ rfl (by kernel_rfl) (fun K hK => ?_); go_simp
          refine ⟨?_, ?_⟩
          · exact sStoreT rfl rfl rfl rfl rfl rfl rfl (by kernel_rfl) rfl (by kernel_rfl) (by decide) aggOf_congr
          rintro ⟨v10, lo10, hi10⟩ - - (rfl : v10 = undef)
          refine hK _ _ ?_; clear hK K
          -- 11: assign t91
          refine stepK rfl (by kernel_rfl) (fun K hK => ?_); go_simp
          apply Exists.intro; apply And.intro; (focus (intro wk hk; go_simp; exact ⟨rfl, rfl⟩)); refine hK _ _ ?_; clear hK K
          refine stepN ?_
          refine hQ _ _ ?_
          intro w3 hT hG hF
          have hbw3 := hT.below
          have rq : Row w3 lo7 31 (W4 (a / b)) := (hF 9 _ rfl rfl (by decide)).2
          have rr : Row w3 lo8 31 (W4 (a % b)) := (hF 10 _ rfl rfl (by decide)).2
          replace ra := ra.below hbw3 ra.lt
          replace rb := rb.below hbw3 rb.lt
          replace hl := hl.trans (hbw3.mono hl.size)
          clear hT hG hF hbw3 hQ QQ L hlo7 hhi7 hlo8 hhi8
          clear hR hd
          go_upto_region 13 with (fail)
          let L : List Sp := [sV 2 [] [] (fun u => u = .tuple #[.agg (W4 (a / b * b)), .bool true]), sA 6 31 [7] #[.int .u64 0, .int .u64 0, .int .u64 0, .int .u64 0], sT 7 6 31 [4] (fun g => aggOf g 4)]
          refine wp_region_six0 (shs L) (look6 L) (None_) (by kernel_rfl) (by kernel_rfl) (mk_St L [] [] (by kernel_rfl) (by kernel_rfl) ⟨ok_V ⟨_, rfl⟩, ok_A, ok_T aggOf_congr, trivial⟩ (by simp)) ?_
          intro QQ hQ
          -- 0: load<31> *t14
          refine stepK rfl (by kernel_rfl) (fun K hK => ?_); go_simp
          apply Exists.intro; apply And.intro; (focus exact kLoad rfl rfl aggT31 rq rfl id); refine hK _ _ ?_; clear hK K
          -- 1: load<31> *t3
          refine stepK rfl (by kernel_rfl) (fun K hK => ?_); go_simp
          apply Exists.intro; apply And.intro; (focus exact kLoad rfl rfl aggT31 rb rfl id); refine hK _ _ ?_; clear hK K
          -- 2: call F47(t93, t94)
          refine stepS _ rfl (by kernel_rfl) (fun K hK => ?_); go_simp
          refine ⟨?_, ?_⟩
          · intro wk hk hg hu; go_simp; refine upon_enter ((mulBack ha hb _).mono ?_); rintro e w' ⟨rfl, hb⟩; exact ⟨_, rfl, left_V (p := fun u => u = .tuple #[.agg (W4 (a / b * b)), .bool true]) rfl (hb) rfl⟩
          rintro ⟨v2, lo2, hi2⟩ - - (rfl : v2 = _)
          refine hK _ _ ?_; clear hK K
          -- 3: t95
          refine stepK rfl (by kernel_rfl) (fun K hK => ?_); go_simp
          apply Exists.intro; apply And.intro; (focus (intro wk hk; go_simp; exact ⟨rfl, rfl⟩)); refine hK _ _ ?_; clear hK K
          -- 4: extract t92 #0
          refine stepK rfl (by kernel_rfl) (fun K hK => ?_); go_simp
          apply Exists.intro; apply And.intro; (focus (intro wk hk; go_simp; exact ⟨rfl, rfl⟩)); refine hK _ _ ?_; clear hK K
          -- 5: extract t92 #1
          refine stepK rfl (by kernel_rfl) (fun K hK => ?_); go_simp
          apply Exists.intro; apply And.intro; (focus (intro wk hk; go_simp; exact ⟨rfl, rfl⟩)); refine hK _ _ ?_; clear hK K
          -- 6: alloc<31>
          refine stepS _ rfl (by kernel_rfl) (fun K hK => ?_); go_simp
          refine ⟨?_, ?_⟩
          · intro wk hk hg hu; go_simp; exact left_A rfl rfl
          rintro ⟨v6, lo6, hi6⟩ hlo6 hhi6 ⟨e6, f6⟩
          replace e6 : v6 = .pointer (some ⟨lo6, 0, none⟩) := e6; replace f6 : hi6 = lo6 + 1 := f6; replace hlo6 : _ ≤ lo6 := hlo6; subst e6; subst f6
          refine hK _ _ ?_; clear hK K
          -- 7: store<31> *t17 = t96
          refine stepS _ rfl (by kernel_rfl) (fun K hK => ?_); go_simp
          refine ⟨?_, ?_⟩
          · exact sStoreT rfl rfl rfl rfl rfl rfl rfl (by kernel_rfl) rfl (by kernel_rfl) (by decide) aggOf_congr
          rintro ⟨v7, lo7, hi7⟩ - - (rfl : v7 = undef)
          refine hK _ _ ?_; clear hK K
          -- 8: assign t97
          refine stepK rfl (by kernel_rfl) (fun K hK => ?_); go_simp
          apply Exists.intro; apply And.intro; (focus (intro wk hk; go_simp; exact ⟨rfl, rfl⟩)); refine hK _ _ ?_; clear hK K
          refine stepN ?_
          refine hQ _ _ ?_
          intro w4 hT hG hF
          have hbw4 := hT.below
          have rp : Row w4 lo6 31 (W4 (a / b * b)) := (hF 7 _ rfl rfl (by decide)).2
          replace ra := ra.below hbw4 ra.lt
          replace rb := rb.below hbw4 rb.lt
          replace rr := rr.below hbw4 rr.lt
          replace hl := hl.trans (hbw4.mono hl.size)
          clear hT hG hF hbw4 hQ QQ L hlo6 hhi6
          go_upto_region 14 with (fail)
          let L : List Sp := [sV 2 [] [] (fun u => u = .tuple #[.agg (W4 (a)), .bool true]), sA 6 31 [7] #[.int .u64 0, .int .u64 0, .int .u64 0, .int .u64 0], sT 7 6 31 [4] (fun g => aggOf g 4)]
          refine wp_region_six0 (shs L) (look6 L) (None_) (by kernel_rfl) (by kernel_rfl) (mk_St L [] [] (by kernel_rfl) (by kernel_rfl) ⟨ok_V ⟨_, rfl⟩, ok_A, ok_T aggOf_congr, trivial⟩ (by simp)) ?_
          intro QQ hQ
          -- 0: load<31> *t17
          refine stepK rfl (by kernel_rfl) (fun K hK => ?_); go_simp
          apply Exists.intro; apply And.intro; (focus exact kLoad rfl rfl aggT31 rp rfl id); refine hK _ _ ?_; clear hK K
          -- 1: load<31> *t15
          refine stepK rfl (by kernel_rfl) (fun K hK => ?_); go_simp
          apply Exists.intro; apply And.intro; (focus exact kLoad rfl rfl aggT31 rr rfl id); refine hK _ _ ?_; clear hK K
          -- 2: call F46(t99, t100)
          refine stepS _ rfl (by kernel_rfl) (fun K hK => ?_); go_simp
          refine ⟨?_, ?_⟩
          · intro wk hk hg hu; go_simp; refine upon_enter ((addBack ha _).mono ?_); rintro e w' ⟨rfl, hb⟩; exact ⟨_, rfl, left_V (p := fun u => u = .tuple #[.agg (W4 (a)), .bool true]) rfl (hb) rfl⟩
          rintro ⟨v2, lo2, hi2⟩ - - (rfl : v2 = _)
          refine hK _ _ ?_; clear hK K
          -- 3: t101
          refine stepK rfl (by kernel_rfl) (fun K hK => ?_); go_simp
          apply Exists.intro; apply And.intro; (focus (intro wk hk; go_simp; exact ⟨rfl, rfl⟩)); refine hK _ _ ?_; clear hK K
          -- 4: extract t98 #0
          refine stepK rfl (by kernel_rfl) (fun K hK => ?_); go_simp
          apply Exists.intro; apply And.intro; (focus (intro wk hk; go_simp; exact ⟨rfl, rfl⟩)); refine hK _ _ ?_; clear hK K
          -- 5: extract t98 #1
          refine stepK rfl (by kernel_rfl) (fun K hK => ?_); go_simp
          apply Exists.intro; apply And.intro; (focus (intro wk hk; go_simp; exact ⟨rfl, rfl⟩)); refine hK _ _ ?_; clear hK K
          -- 6: alloc<31>
          refine stepS _ rfl (by kernel_rfl) (fun K hK => ?_); go_simp
          refine ⟨?_, ?_⟩
          · intro wk hk hg hu; go_simp; exact left_A rfl rfl
          rintro ⟨v6, lo6, hi6⟩ hlo6 hhi6 ⟨e6, f6⟩
          replace e6 : v6 = .pointer (some ⟨lo6, 0, none⟩) := e6; replace f6 : hi6 = lo6 + 1 := f6; replace hlo6 : _ ≤ lo6 := hlo6; subst e6; subst f6
          refine hK _ _ ?_; clear hK K
          -- 7: store<31> *t19 = t102
          refine stepS _ rfl (by kernel_rfl) (fun K hK => ?_); go_simp
          refine ⟨?_, ?_⟩
          · exact sStoreT rfl rfl rfl rfl rfl rfl rfl (by kernel_rfl) rfl (by kernel_rfl) (by decide) aggOf_congr
          rintro ⟨v7, lo7, hi7⟩ - - (rfl : v7 = undef)
          refine hK _ _ ?_; clear hK K
          -- 8: assign t103
          refine stepK rfl (by kernel_rfl) (fun K hK => ?_); go_simp
          apply Exists.intro; apply And.intro; (focus (intro wk hk; go_simp; exact ⟨rfl, rfl⟩)); refine hK _ _ ?_; clear hK K
          refine stepN ?_
          refine hQ _ _ ?_
          intro w5 hT hG hF
          have hbw5 := hT.below
          have rs : Row w5 lo6 31 (W4 (a)) := (hF 7 _ rfl rfl (by decide)).2
          replace ra := ra.below hbw5 ra.lt
          replace rb := rb.below hbw5 rb.lt
          replace rr := rr.below hbw5 rr.lt
          replace hl := hl.trans (hbw5.mono hl.size)
          clear hT hG hF hbw5 hQ QQ L hlo6 hhi6
          have q := eqU ha ha
          have hlt : a % b < b := Nat.mod_lt _ (by omega)
          have hc : cmpN (a % b) b = -1 := by unfold cmpN; rw [if_pos hlt]
          have hr : a % b < M := by omega
          clear hlt
          go_upto_region 15 with (fail)
          let L : List Sp := [sV 14 [] [] (fun u => u = .int .i64 (-1))]
          refine wp_region_six0 (shs L) (look6 L) (None_) (by kernel_rfl) (by kernel_rfl) (mk_St L [] [] (by kernel_rfl) (by kernel_rfl) ⟨ok_V ⟨_, rfl⟩, trivial⟩ (by simp)) ?_
          intro QQ hQ
          -- 0: t18
          refine stepK rfl (by kernel_rfl) (fun K hK => ?_); go_simp
          apply Exists.intro; apply And.intro; (focus (intro wk hk; go_simp; exact ⟨rfl, rfl⟩)); refine hK _ _ ?_; clear hK K
          -- 1: not<4> t104
          refine stepK rfl (by kernel_rfl) (fun K hK => ?_); go_simp
          apply Exists.intro; apply And.intro; (focus (intro wk hk; go_simp; exact ⟨rfl, rfl⟩)); refine hK _ _ ?_; clear hK K
          -- 2: t105
          refine stepK rfl (by kernel_rfl) (fun K hK => ?_); go_simp
          apply Exists.intro; apply And.intro; (focus (intro wk hk; go_simp; exact ⟨rfl, rfl⟩)); refine hK _ _ ?_; clear hK K
          -- 3: t20
          refine stepK rfl (by kernel_rfl) (fun K hK => ?_); go_simp
          first | (refine hK _ _ ?_; clear hK K) | (apply Exists.intro; apply And.intro; (focus (intro wk hk; go_simp; exact ⟨rfl, rfl⟩)); refine hK _ _ ?_; clear hK K)
          -- 4: not<4> t107
          refine stepK rfl (by kernel_rfl) (fun K hK => ?_); go_simp
          first | (refine hK _ _ ?_; clear hK K) | (apply Exists.intro; apply And.intro; (focus (intro wk hk; go_simp; exact ⟨rfl, rfl⟩)); refine hK _ _ ?_; clear hK K)
          -- 5: pick t106 ? true : t108
          refine stepK rfl (by kernel_rfl) (fun K hK => ?_); go_simp
          apply Exists.intro; apply And.intro; (focus (intro wk hk; go_simp; exact ⟨rfl, rfl⟩)); refine hK _ _ ?_; clear hK K
          -- 6: t109
          refine stepK rfl (by kernel_rfl) (fun K hK => ?_); go_simp
          apply Exists.intro; apply And.intro; (focus (intro wk hk; go_simp; exact ⟨rfl, rfl⟩)); refine hK _ _ ?_; clear hK K
          -- 7: load<31> *t19
          refine stepK rfl (by kernel_rfl) (fun K hK => ?_); go_simp
          first | (refine hK _ _ ?_; clear hK K) | (apply Exists.intro; apply And.intro; (focus exact kLoad rfl rfl aggT31 rs rfl id); refine hK _ _ ?_; clear hK K)
          -- 8: load<31> *t2
          refine stepK rfl (by kernel_rfl) (fun K hK => ?_); go_simp
          first | (refine hK _ _ ?_; clear hK K) | (apply Exists.intro; apply And.intro; (focus exact kLoad rfl rfl aggT31 ra rfl id); refine hK _ _ ?_; clear hK K)
          -- 9: neq<31> t111, t112
          refine stepK rfl (by kernel_rfl) (fun K hK => ?_); go_simp
          first | (refine hK _ _ ?_; clear hK K) | (apply Exists.intro; apply And.intro; (focus (intro wk hk; go_simp; exact ⟨rfl, rfl⟩)); refine hK _ _ ?_; clear hK K)
          -- 10: pick t110 ? true : t113
          refine stepK rfl (by kernel_rfl) (fun K hK => ?_); go_simp
          apply Exists.intro; apply And.intro; (focus (intro wk hk; go_simp; exact ⟨rfl, rfl⟩)); refine hK _ _ ?_; clear hK K
          -- 11: t114
          refine stepK rfl (by kernel_rfl) (fun K hK => ?_); go_simp
          apply Exists.intro; apply And.intro; (focus (intro wk hk; go_simp; exact ⟨rfl, rfl⟩)); refine hK _ _ ?_; clear hK K
          -- 12: load<31> *t15
          refine stepK rfl (by kernel_rfl) (fun K hK => ?_); go_simp
          first | (refine hK _ _ ?_; clear hK K) | (apply Exists.intro; apply And.intro; (focus exact kLoad rfl rfl aggT31 rr rfl id); refine hK _ _ ?_; clear hK K)
          -- 13: load<31> *t3
          refine stepK rfl (by kernel_rfl) (fun K hK => ?_); go_simp
          first | (refine hK _ _ ?_; clear hK K) | (apply Exists.intro; apply And.intro; (focus exact kLoad rfl rfl aggT31 rb rfl id); refine hK _ _ ?_; clear hK K)
          -- 14: call F48(t116, t117)
          refine stepS _ rfl (by kernel_rfl) (fun K hK => ?_); go_simp
          refine ⟨?_, ?_⟩
          · intro wk hk hg hu; go_simp; refine upon_enter ((hc ▸ cmpU hr hb _).mono ?_); rintro e w' ⟨rfl, hb⟩; exact ⟨_, rfl, left_V (p := fun u => u = .int .i64 (-1)) rfl (hb) rfl⟩
          rintro ⟨v14, lo14, hi14⟩ - - (rfl : v14 = _)
          refine hK _ _ ?_; clear hK K
          -- 15: geq<3> t118, 0
          refine stepK rfl (by kernel_rfl) (fun K hK => ?_); go_simp
          first | (refine hK _ _ ?_; clear hK K) | (apply Exists.intro; apply And.intro; (focus (intro wk hk; go_simp; exact ⟨rfl, rfl⟩)); refine hK _ _ ?_; clear hK K)
          -- 16: pick t115 ? true : t119
          refine stepK rfl (by kernel_rfl) (fun K hK => ?_); go_simp
          apply Exists.intro; apply And.intro; (focus (intro wk hk; go_simp; exact ⟨rfl, rfl⟩)); refine hK _ _ ?_; clear hK K
          refine stepN ?_
          refine hQ _ _ ?_
          intro w6 hT hG hF
          have hbw6 := hT.below
          replace ra := ra.below hbw6 ra.lt
          replace rb := rb.below hbw6 rb.lt
          replace hl := hl.trans (hbw6.mono hl.size)
          clear hT hG hF hbw6 hQ QQ L 
          go_wp2_with fail
          go_meet
          exact ⟨rfl, rfl, rfl, hl, ra, rb, trivial⟩

      case rest =>
        clear hM
        obtain ⟨rfl, rfl, rfl, hM⟩ := hcut
        go_step
        obtain ⟨hl, ra, rb, -⟩ := hM
        go_step
        let L : List Sp := [sF 1 [] [] [7] (fun x => ∃ g, x.v = .slice (some ⟨g, 0, none⟩) 32 32) (fun x w => ∃ g, x.v = .slice (some ⟨g, 0, none⟩) 32 32 ∧ Row w g 5 (arr .u8 (bytesTo a 32) 32)), sV 2 [1] [1] (fun u => u = .tuple #[.agg (W4 a), .bool true]), sA 6 31 [7] #[.int .u64 0, .int .u64 0, .int .u64 0, .int .u64 0], sT 7 6 31 [4] (fun g => aggOf g 4)]
        refine wp_region_six0 (shs L) (look6 L) (None_) (by kernel_rfl) (by kernel_rfl) (mk_St L [] [] (by kernel_rfl) (by kernel_rfl) ⟨ok_F ⟨⟨.slice (some ⟨0, 0, none⟩) 32 32, _, _⟩, Nat.le_refl _, Nat.le_refl _, 0, rfl⟩ (fun x w w' ⟨g, e, hr⟩ hb => ⟨g, e, hr.below hb hr.lt⟩), ok_V ⟨_, rfl⟩, ok_A, ok_T aggOf_congr, trivial⟩ (by simp)) ?_
        intro QQ hQ
        -- 0: load<31> *t2
        refine stepK rfl (by kernel_rfl) (fun K hK => ?_); go_simp
        apply Exists.intro; apply And.intro; (focus exact kLoad rfl rfl aggT31 ra rfl id); refine hK _ _ ?_; clear hK K
        -- 1: call F82(t122)
        refine stepS _ rfl (by kernel_rfl) (fun K hK => ?_); go_simp
        refine ⟨?_, ?_⟩
        · intro wk hk hg hu; go_simp; refine upon_enter ((bytesU ha _).mono ?_); rintro e w' ⟨g, rfl, -, hr, hb⟩; exact ⟨_, rfl, left_F rfl rfl hb ⟨g, rfl⟩ ⟨g, rfl, hr⟩⟩
        rintro ⟨v1, lo1, hi1⟩ - - ⟨g, e1⟩
        replace e1 : v1 = .slice (some ⟨g, 0, none⟩) 32 32 := e1; subst e1
        refine hK _ _ ?_; clear hK K
        -- 2: call F81(t123)
        refine stepS _ rfl (by kernel_rfl) (fun K hK => ?_); go_simp
        refine ⟨?_, ?_⟩
        · intro wk hk hg hu; have u1 := hu 1 (show 1 ∈ [1] by decide); have hrow : Row wk g 5 (arr .u8 (bytesTo a 32) 32) := (by obtain ⟨g1, e1, hr⟩ := u1; have e2 : Value.slice (some ⟨g, 0, none⟩) 32 32 = .slice (some ⟨g1, 0, none⟩) 32 32 := e1; obtain rfl : g = g1 := (by simpa using e2); exact hr); clear u1; go_simp; refine upon_enter ((fromBack ha _ g hrow).mono ?_); rintro e w' ⟨rfl, hb⟩; exact ⟨_, rfl, left_V (p := fun u => u = .tuple #[.agg (W4 a), .bool true]) rfl (hb) rfl⟩
        rintro ⟨v2, lo2, hi2⟩ - - (rfl : v2 = _)
        refine hK _ _ ?_; clear hK K
        -- 3: t124
        refine stepK rfl (by kernel_rfl) (fun K hK => ?_); go_simp
        apply Exists.intro; apply And.intro; (focus (intro wk hk; go_simp; exact ⟨rfl, rfl⟩)); refine hK _ _ ?_; clear hK K
        -- 4: extract t121 #0
        refine stepK rfl (by kernel_rfl) (fun K hK => ?_); go_simp
        apply Exists.intro; apply And.intro; (focus (intro wk hk; go_simp; exact ⟨rfl, rfl⟩)); refine hK _ _ ?_; clear hK K
        -- 5: extract t121 #1
        refine stepK rfl (by kernel_rfl) (fun K hK => ?_); go_simp
        apply Exists.intro; apply And.intro; (focus (intro wk hk; go_simp; exact ⟨rfl, rfl⟩)); refine hK _ _ ?_; clear hK K
        -- 6: alloc<31>
        refine stepS _ rfl (by kernel_rfl) (fun K hK => ?_); go_simp
        refine ⟨?_, ?_⟩
        · intro wk hk hg hu; go_simp; exact left_A rfl rfl
        rintro ⟨v6, lo6, hi6⟩ hlo6 hhi6 ⟨e6, f6⟩
        replace e6 : v6 = .pointer (some ⟨lo6, 0, none⟩) := e6; replace f6 : hi6 = lo6 + 1 := f6; replace hlo6 : _ ≤ lo6 := hlo6; subst e6; subst f6
        refine hK _ _ ?_; clear hK K
        -- 7: store<31> *t21 = t125
        refine stepS _ rfl (by kernel_rfl) (fun K hK => ?_); go_simp
        refine ⟨?_, ?_⟩
        · exact sStoreT rfl rfl rfl rfl rfl rfl rfl (by kernel_rfl) rfl (by kernel_rfl) (by decide) aggOf_congr
        rintro ⟨v7, lo7, hi7⟩ - - (rfl : v7 = undef)
        refine hK _ _ ?_; clear hK K
        -- 8: assign t126
        refine stepK rfl (by kernel_rfl) (fun K hK => ?_); go_simp
        apply Exists.intro; apply And.intro; (focus (intro wk hk; go_simp; exact ⟨rfl, rfl⟩)); refine hK _ _ ?_; clear hK K
        refine stepN ?_
        refine hQ _ _ ?_
        intro w1 hT hG hF
        have hbw1 := hT.below
        have rx : Row w1 lo6 31 (W4 a) := (hF 7 _ rfl rfl (by decide)).2
        replace ra := ra.below hbw1 ra.lt
        replace rb := rb.below hbw1 rb.lt
        replace hl := hl.trans (hbw1.mono hl.size)
        clear hT hG hF hbw1 hQ QQ L hlo6 hhi6
        go_upto_region 18 with (fail)
        let L : List Sp := [sV 1 [] [] (LeadsBack a), sV 2 [] [] (fun u => u = .tuple #[.agg (W4 a), .bool true]), sA 6 31 [7] #[.int .u64 0, .int .u64 0, .int .u64 0, .int .u64 0], sT 7 6 31 [4] (fun g => aggOf g 4)]
        refine wp_region_six0 (shs L) (look6 L) (None_) (by kernel_rfl) (by kernel_rfl) (mk_St L [] [] (by kernel_rfl) (by kernel_rfl) ⟨ok_V (leadsBack_some ha), ok_V ⟨_, rfl⟩, ok_A, ok_T aggOf_congr, trivial⟩ (by simp)) ?_
        intro QQ hQ
        -- 0: load<31> *t2
        refine stepK rfl (by kernel_rfl) (fun K hK => ?_); go_simp
        apply Exists.intro; apply And.intro; (focus exact kLoad rfl rfl aggT31 ra rfl id); refine hK _ _ ?_; clear hK K
        -- 1: call F84(t128)
        refine stepS _ rfl (by kernel_rfl) (fun K hK => ?_); go_simp
        refine ⟨?_, ?_⟩
        · intro wk hk hg hu; go_simp; refine upon_enter ((textBack ha _).mono ?_); rintro e w' ⟨s, rfl, hs, hb⟩; exact ⟨_, rfl, left_V rfl hb ⟨s, rfl, hs⟩⟩
        rintro ⟨v1, lo1, hi1⟩ - - ⟨s, e1, hs⟩
        replace e1 : v1 = .string s := e1; subst e1
        refine hK _ _ ?_; clear hK K
        -- 2: call F83(t129)
        refine stepS _ rfl (by kernel_rfl) (fun K hK => ?_); go_simp
        refine ⟨?_, ?_⟩
        · intro wk hk hg hu; go_simp; refine upon_enter ((parseBack hs _).mono ?_); rintro e w' ⟨rfl, hb⟩; exact ⟨_, rfl, left_V (p := fun u => u = .tuple #[.agg (W4 a), .bool true]) rfl (hb) rfl⟩
        rintro ⟨v2, lo2, hi2⟩ - - (rfl : v2 = _)
        refine hK _ _ ?_; clear hK K
        -- 3: t130
        refine stepK rfl (by kernel_rfl) (fun K hK => ?_); go_simp
        apply Exists.intro; apply And.intro; (focus (intro wk hk; go_simp; exact ⟨rfl, rfl⟩)); refine hK _ _ ?_; clear hK K
        -- 4: extract t127 #0
        refine stepK rfl (by kernel_rfl) (fun K hK => ?_); go_simp
        apply Exists.intro; apply And.intro; (focus (intro wk hk; go_simp; exact ⟨rfl, rfl⟩)); refine hK _ _ ?_; clear hK K
        -- 5: extract t127 #1
        refine stepK rfl (by kernel_rfl) (fun K hK => ?_); go_simp
        apply Exists.intro; apply And.intro; (focus (intro wk hk; go_simp; exact ⟨rfl, rfl⟩)); refine hK _ _ ?_; clear hK K
        -- 6: alloc<31>
        refine stepS _ rfl (by kernel_rfl) (fun K hK => ?_); go_simp
        refine ⟨?_, ?_⟩
        · intro wk hk hg hu; go_simp; exact left_A rfl rfl
        rintro ⟨v6, lo6, hi6⟩ hlo6 hhi6 ⟨e6, f6⟩
        replace e6 : v6 = .pointer (some ⟨lo6, 0, none⟩) := e6; replace f6 : hi6 = lo6 + 1 := f6; replace hlo6 : _ ≤ lo6 := hlo6; subst e6; subst f6
        refine hK _ _ ?_; clear hK K
        -- 7: store<31> *t23 = t131
        refine stepS _ rfl (by kernel_rfl) (fun K hK => ?_); go_simp
        refine ⟨?_, ?_⟩
        · exact sStoreT rfl rfl rfl rfl rfl rfl rfl (by kernel_rfl) rfl (by kernel_rfl) (by decide) aggOf_congr
        rintro ⟨v7, lo7, hi7⟩ - - (rfl : v7 = undef)
        refine hK _ _ ?_; clear hK K
        -- 8: assign t132
        refine stepK rfl (by kernel_rfl) (fun K hK => ?_); go_simp
        apply Exists.intro; apply And.intro; (focus (intro wk hk; go_simp; exact ⟨rfl, rfl⟩)); refine hK _ _ ?_; clear hK K
        refine stepN ?_
        refine hQ _ _ ?_
        intro w2 hT hG hF
        have hbw2 := hT.below
        have ry : Row w2 lo6 31 (W4 a) := (hF 7 _ rfl rfl (by decide)).2
        replace ra := ra.below hbw2 ra.lt
        replace rb := rb.below hbw2 rb.lt
        replace rx := rx.below hbw2 rx.lt
        replace hl := hl.trans (hbw2.mono hl.size)
        clear hT hG hF hbw2 hQ QQ L hlo6 hhi6 hs
        go_upto_region 19 with (fail)
        have q := eqU ha ha
        let L : List Sp := [sV 15 [] [] (fun u => u = .bool true)]
        refine wp_region_six0 (shs L) (look6 L) (None_) (by kernel_rfl) (by kernel_rfl) (mk_St L [] [] (by kernel_rfl) (by kernel_rfl) ⟨ok_V ⟨_, rfl⟩, trivial⟩ (by simp)) ?_
        intro QQ hQ
        -- 0: t22
        refine stepK rfl (by kernel_rfl) (fun K hK => ?_); go_simp
        apply Exists.intro; apply And.intro; (focus (intro wk hk; go_simp; exact ⟨rfl, rfl⟩)); refine hK _ _ ?_; clear hK K
        -- 1: t133
        refine stepK rfl (by kernel_rfl) (fun K hK => ?_); go_simp
        apply Exists.intro; apply And.intro; (focus (intro wk hk; go_simp; exact ⟨rfl, rfl⟩)); refine hK _ _ ?_; clear hK K
        -- 2: t24
        refine stepK rfl (by kernel_rfl) (fun K hK => ?_); go_simp
        first | (refine hK _ _ ?_; clear hK K) | (apply Exists.intro; apply And.intro; (focus (intro wk hk; go_simp; exact ⟨rfl, rfl⟩)); refine hK _ _ ?_; clear hK K)
        -- 3: pick t134 ? t135 : false
        refine stepK rfl (by kernel_rfl) (fun K hK => ?_); go_simp
        apply Exists.intro; apply And.intro; (focus (intro wk hk; go_simp; exact ⟨rfl, rfl⟩)); refine hK _ _ ?_; clear hK K
        -- 4: t136
        refine stepK rfl (by kernel_rfl) (fun K hK => ?_); go_simp
        apply Exists.intro; apply And.intro; (focus (intro wk hk; go_simp; exact ⟨rfl, rfl⟩)); refine hK _ _ ?_; clear hK K
        -- 5: load<31> *t21
        refine stepK rfl (by kernel_rfl) (fun K hK => ?_); go_simp
        first | (refine hK _ _ ?_; clear hK K) | (apply Exists.intro; apply And.intro; (focus exact kLoad rfl rfl aggT31 rx rfl id); refine hK _ _ ?_; clear hK K)
        -- 6: load<31> *t2
        refine stepK rfl (by kernel_rfl) (fun K hK => ?_); go_simp
        first | (refine hK _ _ ?_; clear hK K) | (apply Exists.intro; apply And.intro; (focus exact kLoad rfl rfl aggT31 ra rfl id); refine hK _ _ ?_; clear hK K)
        -- 7: eql<31> t138, t139
        refine stepK rfl (by kernel_rfl) (fun K hK => ?_); go_simp
        first | (refine hK _ _ ?_; clear hK K) | (apply Exists.intro; apply And.intro; (focus (intro wk hk; go_simp; exact ⟨rfl, rfl⟩)); refine hK _ _ ?_; clear hK K)
        -- 8: pick t137 ? t140 : false
        refine stepK rfl (by kernel_rfl) (fun K hK => ?_); go_simp
        apply Exists.intro; apply And.intro; (focus (intro wk hk; go_simp; exact ⟨rfl, rfl⟩)); refine hK _ _ ?_; clear hK K
        -- 9: t141
        refine stepK rfl (by kernel_rfl) (fun K hK => ?_); go_simp
        apply Exists.intro; apply And.intro; (focus (intro wk hk; go_simp; exact ⟨rfl, rfl⟩)); refine hK _ _ ?_; clear hK K
        -- 10: load<31> *t23
        refine stepK rfl (by kernel_rfl) (fun K hK => ?_); go_simp
        first | (refine hK _ _ ?_; clear hK K) | (apply Exists.intro; apply And.intro; (focus exact kLoad rfl rfl aggT31 ry rfl id); refine hK _ _ ?_; clear hK K)
        -- 11: load<31> *t2
        refine stepK rfl (by kernel_rfl) (fun K hK => ?_); go_simp
        first | (refine hK _ _ ?_; clear hK K) | (apply Exists.intro; apply And.intro; (focus exact kLoad rfl rfl aggT31 ra rfl id); refine hK _ _ ?_; clear hK K)
        -- 12: eql<31> t143, t144
        refine stepK rfl (by kernel_rfl) (fun K hK => ?_); go_simp
        first | (refine hK _ _ ?_; clear hK K) | (apply Exists.intro; apply And.intro; (focus (intro wk hk; go_simp; exact ⟨rfl, rfl⟩)); refine hK _ _ ?_; clear hK K)
        -- 13: pick t142 ? t145 : false
        refine stepK rfl (by kernel_rfl) (fun K hK => ?_); go_simp
        apply Exists.intro; apply And.intro; (focus (intro wk hk; go_simp; exact ⟨rfl, rfl⟩)); refine hK _ _ ?_; clear hK K
        -- 14: t146
        refine stepK rfl (by kernel_rfl) (fun K hK => ?_); go_simp
        apply Exists.intro; apply And.intro; (focus (intro wk hk; go_simp; exact ⟨rfl, rfl⟩)); refine hK _ _ ?_; clear hK K
        -- 15: call F50()
        refine stepS _ rfl (by kernel_rfl) (fun K hK => ?_); go_simp
        refine ⟨?_, ?_⟩
        · intro wk hk hg hu; go_simp; refine upon_enter ((lives1U _).mono ?_); rintro e w' ⟨rfl, hb⟩; exact ⟨_, rfl, left_V (p := fun u => u = .bool true) rfl (hb) rfl⟩
        rintro ⟨v15, lo15, hi15⟩ - - (rfl : v15 = _)
        refine hK _ _ ?_; clear hK K
        -- 16: pick t147 ? t148 : false
        refine stepK rfl (by kernel_rfl) (fun K hK => ?_); go_simp
        apply Exists.intro; apply And.intro; (focus (intro wk hk; go_simp; exact ⟨rfl, rfl⟩)); refine hK _ _ ?_; clear hK K
        -- 17: assign t149
        refine stepK rfl (by kernel_rfl) (fun K hK => ?_); go_simp
        apply Exists.intro; apply And.intro; (focus (intro wk hk; go_simp; exact ⟨rfl, rfl⟩)); refine hK _ _ ?_; clear hK K
        refine stepN ?_
        refine hQ _ _ ?_
        intro w3 hT hG hF
        have hbw3 := hT.below
        replace ra := ra.below hbw3 ra.lt
        replace hl := hl.trans (hbw3.mono hl.size)
        clear hT hG hF hbw3 hQ QQ L 
        go_wp2_with fail
        go_ret
        exact ⟨rfl, hl⟩

end Go.Proofs.Ytpdenhmkpiafiaa
