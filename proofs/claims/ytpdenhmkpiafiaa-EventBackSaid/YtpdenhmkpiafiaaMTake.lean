/-
  muldiv.rest.take: one bit more, and the divisor taken off where it fits.
-/
import Derived.Test.YtpdenhmkpiafiaaGF
namespace Go.Proofs.Ytpdenhmkpiafiaa
open Go Go.RowKit K6

theorem nw_succ (f : Nat → Int) (t : Int) (k : Nat) : nw f t (k + 1) = (2 * f (k + 1)) % 18446744073709551616 + f k / 9223372036854775808 := by unfold nw; rw [if_neg (by omega)]; rfl
/-- the rest behind a bit more; was the divisor taken off? -/
def Take (w : World) (g r d t : Nat) (e : Ending) (w' : World) : Prop :=
  e = .returned (.bool (decide (d ≤ 2 * r + t))) ∧ Tr (fun c => c = g) w w' ∧ ∃ f : Nat → Int, Wordy f ∧ IsW (f 0) (f 1) (f 2) (f 3) (rN r d t) ∧ Row w' g 184 (arr .u64 f 5)

set_option maxRecDepth 100000 in
set_option maxHeartbeats 8000000 in
/-- the divisor is taken off -/
theorem take_any (g r d t : Nat) (f : Nat → Int) (hf : Wordy f) (hr : IsW (f 0) (f 1) (f 2) (f 3) r) (hrd : r < d) (hd : d < M) (ht : t ≤ 1) (w : World) (hg : Row w g 184 (arr .u64 f 5)) :
    Calls Try.prog 195 #[.pointer (some ⟨g, 0, none⟩), .int .u64 (t : Int), .agg (W4 d)] w (Take w g r d t) := by
  have hglt := hg.lt
  have hr' := Lib.hid (show psum f 4 = (r : Int) by rw [hr.val, psum_four])
  have c3 := hg.at_ 3 (by omega)
  have c4 := hg.at_ 4 (by omega)
  have f4 := hg.frozen 4
  go_enter Try.func195, Try.ntmps195
  go_wp2_with fail
  go_loopg [7] 3 (fun gg i wr => ∃ k : Nat, k = gg ∧ k ≤ 3 ∧ i = .int .i64 (k : Int) ∧ Tr (fun c => c = g) w wr ∧ Row wr w.heap.size 31 (W4 d) ∧ Row wr g 184 (arr .u64 (shF f k) 5))
  case atStart =>
    refine ⟨3, rfl, by omega, rfl, ?_, ?_, ?_⟩
    · exact ⟨rfl, rfl, rfl, by simp [World.setCell], fun b hb hx => by rw [Below.heap_alloc _ _ _ (by simpa [World.setCell] using hb), Below.heap_setCell _ _ _ _ hx]⟩
    · exact Row.new_at (by simp)
    · refine ((hg.put 4 (by omega) _).alloc _).congr (arr_congr fun j hj => ?_)
      unfold upd shF
      by_cases h4 : j = 4
      · rw [if_pos h4, if_pos h4]
      · rw [if_neg h4, if_neg h4, if_neg (by omega), if_neg (by omega)]
  case round =>
    obtain ⟨k, rfl, hk3, rfl, hT0, rb, rg⟩ := hrel
    clear c3 c4 f4
    rcases k with _ | k
    · have hf0 := hf 0
      unfold W at hf0
      have s0 : shF f 0 0 = f 0 := rfl
      have sor := shl_or (f 0) (t : Int) hf0 (by omega)
      have tb : (0 : Int) ≤ (t : Int) ∧ (t : Int) < 18446744073709551616 := by omega
      go_upto_region 6 with (fail)
      let L : List Sp := [sO 12 (g) 184 [8] (fun gh => arr .u64 (upd (shF f 0) (0) (intOf (gh 8).v)) 5)]
      refine wp_region_six (shs L) (look6 L) (fun c => c = g) (by kernel_rfl) (by kernel_rfl) (mk_St L [12] [12] (by kernel_rfl) (by kernel_rfl) ⟨ok_O (fun g g' h => by rw [h 8 (by simp)]) rg.lt (rfl), trivial⟩ (by simp)) ?_
      intro QQ hQ
      -- 0: t0
      refine stepK rfl (by kernel_rfl) (fun K hK => ?_); go_simp
      apply Exists.intro; apply And.intro; (focus (intro wk hk; go_simp; exact ⟨rfl, rfl⟩)); refine hK _ _ ?_; clear hK K
      -- 1: t0
      refine stepK rfl (by kernel_rfl) (fun K hK => ?_); go_simp
      apply Exists.intro; apply And.intro; (focus (intro wk hk; go_simp; exact ⟨rfl, rfl⟩)); refine hK _ _ ?_; clear hK K
      -- 2: nilCheck t45
      refine stepK rfl (by kernel_rfl) (fun K hK => ?_); go_simp
      apply Exists.intro; apply And.intro; (focus (intro wk hk; go_simp; exact ⟨rfl, rfl⟩)); refine hK _ _ ?_; clear hK K
      -- 3: fieldAddr<184> t46.0
      refine stepK rfl (by kernel_rfl) (fun K hK => ?_); go_simp
      apply Exists.intro; apply And.intro; (focus (intro wk hk; go_simp; exact ⟨rfl, rfl⟩)); refine hK _ _ ?_; clear hK K
      -- 4: indexAddr<31> t47[0]
      refine stepK rfl (by kernel_rfl) (fun K hK => ?_); go_simp
      apply Exists.intro; apply And.intro; (focus (intro wk hk; go_simp; exact ⟨rfl, rfl⟩)); refine hK _ _ ?_; clear hK K
      -- 5: load<29> *t48
      refine stepK rfl (by kernel_rfl) (fun K hK => ?_); go_simp
      apply Exists.intro; apply And.intro; (focus (intro wk hk; have cc := (K6.Row.tr (w := wr) rg hk.undrew id).at_ 0 (by omega); go_simp; exact ⟨rfl, rfl⟩)); refine hK _ _ ?_; clear hK K
      -- 6: shl<29> t49, 1u <136>
      refine stepK rfl (by kernel_rfl) (fun K hK => ?_); go_simp
      apply Exists.intro; apply And.intro; (focus (intro wk hk; go_simp; exact ⟨rfl, rfl⟩)); refine hK _ _ ?_; clear hK K
      -- 7: t1
      refine stepK rfl (by kernel_rfl) (fun K hK => ?_); go_simp
      apply Exists.intro; apply And.intro; (focus (intro wk hk; go_simp; exact ⟨rfl, rfl⟩)); refine hK _ _ ?_; clear hK K
      -- 8: or<29> t50, t51
      refine stepK rfl (by kernel_rfl) (fun K hK => ?_); go_simp
      apply Exists.intro; apply And.intro; (focus (intro wk hk; go_simp; exact ⟨rfl, rfl⟩)); refine hK _ _ ?_; clear hK K
      -- 9: nilCheck t44
      refine stepK rfl (by kernel_rfl) (fun K hK => ?_); go_simp
      apply Exists.intro; apply And.intro; (focus (intro wk hk; go_simp; exact ⟨rfl, rfl⟩)); refine hK _ _ ?_; clear hK K
      -- 10: fieldAddr<184> t53.0
      refine stepK rfl (by kernel_rfl) (fun K hK => ?_); go_simp
      apply Exists.intro; apply And.intro; (focus (intro wk hk; go_simp; exact ⟨rfl, rfl⟩)); refine hK _ _ ?_; clear hK K
      -- 11: indexAddr<31> t54[0]
      refine stepK rfl (by kernel_rfl) (fun K hK => ?_); go_simp
      apply Exists.intro; apply And.intro; (focus (intro wk hk; go_simp; exact ⟨rfl, rfl⟩)); refine hK _ _ ?_; clear hK K
      -- 12: store<29> *t55 = t52
      refine stepS _ rfl (by kernel_rfl) (fun K hK => ?_); go_simp
      refine ⟨?_, ?_⟩
      · intro wk hk hg hu; have rk := K6.Row.tr (w := wr) rg hk.undrew id; have cc := rk.at_ (0) (by omega); have ff := rk.frozen (0); go_simp; exact left_O (s := (sO 12 (g) 184 [8] (fun gh => arr .u64 (upd (shF f 0) (0) (intOf (gh 8).v)) 5)).1) rfl rfl (by decide) (fun g g' h => by rw [h 8 (by simp)]) (fun c hc => Below.heap_setCell _ _ _ _ hc) rfl rfl rfl (by simp) (rk.put (0) (by omega) _)
      rintro ⟨v12, lo12, hi12⟩ - - (rfl : v12 = undef)
      refine hK _ _ ?_; clear hK K
      refine stepN ?_
      refine hQ _ _ ?_
      intro w7 hT hG hF
      have hT5 := hT.undrew
      have rg7 : Row w7 g 184 (arr .u64 (finF f t) 5) := hF 12 _ rfl rfl (by decide)
      have rb7 : Row w7 w.heap.size 31 (W4 d) := K6.Row.tr rb hT5 (by omega)
      have hT7 : Tr (fun c => c = g) w w7 := hT0.trans hT5
      clear hT hG hF hT5 hQ QQ L rb rg hT0 sor s0 tb
      obtain ⟨hpw, hp4⟩ := finF_val hf (r := r) (t := t) hr'.out ht
      have hpW := finF_wordy hf (t := (t : Int)) ⟨by omega, by omega⟩
      obtain ⟨p, hp⟩ : ∃ p, p = finF f t := ⟨_, rfl⟩
      obtain ⟨q, hq⟩ : ∃ q, q = sel4 (wordsOf d 0) (wordsOf d 1) (wordsOf d 2) (wordsOf d 3) := ⟨_, rfl⟩
      have hqW : Wordy q := hq ▸ (wordsOf_isW d hd).wordy
      have hqs : psum q 4 = (d : Int) := hq ▸ (wordsOf_isW d hd).val.symm
      rw [← hp] at rg7 hpw hp4 hpW
      have hps : psum p 4 = (((2 * r + t) % M : Nat) : Int) := by rw [hpw.val, psum_four]
      have rg := rg7
      have rb : Row w7 w.heap.size 31 (arr .u64 q 4) := by rw [hq]; exact rb7
      have hT0 := hT7
      have hrn : (2 * r + t) % M < M := Nat.mod_lt _ M_pos
      clear hp rg7 hT7 hf0 hr
      by_cases hlt : 2 * r + t < M
      · have hrn2 : (2 * r + t) % M = 2 * r + t := Nat.mod_eq_of_lt hlt
        have hp0 : p 4 = 0 := by rw [hp4, Nat.div_eq_of_lt hlt]; rfl
        have RN := Lib.hid hrn2
        clear hp4 hrn2 hq
        by_cases hld : 2 * r + t < d
        · have hc : decide (cmpN ((2 * r + t) % M) d < 0) = true := decide_eq_true (by unfold cmpN; rw [RN.out, if_pos hld]; omega)
          go_upto_region 7 with (fail)
          let L : List Sp := [sV 11 [] [] (fun u => u = .int .i64 (cmpN ((2 * r + t) % M) d))]
          refine wp_region_six (shs L) (look6 L) (None_) (by kernel_rfl) (by kernel_rfl) (mk_St L [] [] (by kernel_rfl) (by kernel_rfl) ⟨ok_V ⟨_, rfl⟩, trivial⟩ (by simp)) ?_
          intro QQ hQ
          -- 0: t0
          refine stepK rfl (by kernel_rfl) (fun K hK => ?_); go_simp
          apply Exists.intro; apply And.intro; (focus (intro wk hk; go_simp; exact ⟨rfl, rfl⟩)); refine hK _ _ ?_; clear hK K
          -- 1: nilCheck t56
          refine stepK rfl (by kernel_rfl) (fun K hK => ?_); go_simp
          apply Exists.intro; apply And.intro; (focus (intro wk hk; go_simp; exact ⟨rfl, rfl⟩)); refine hK _ _ ?_; clear hK K
          -- 2: fieldAddr<184> t57.1
          refine stepK rfl (by kernel_rfl) (fun K hK => ?_); go_simp
          apply Exists.intro; apply And.intro; (focus (intro wk hk; go_simp; exact ⟨rfl, rfl⟩)); refine hK _ _ ?_; clear hK K
          -- 3: load<29> *t58
          refine stepK rfl (by kernel_rfl) (fun K hK => ?_); go_simp
          apply Exists.intro; apply And.intro; (focus (intro wk hk; have cc := (K6.Row.tr (w := w7) rg hk.undrew id).at_ 4 (by omega); go_simp; exact ⟨rfl, rfl⟩)); refine hK _ _ ?_; clear hK K
          -- 4: eql<29> t59, 0u
          refine stepK rfl (by kernel_rfl) (fun K hK => ?_); go_simp
          apply Exists.intro; apply And.intro; (focus (intro wk hk; go_simp; exact ⟨rfl, rfl⟩)); refine hK _ _ ?_; clear hK K
          -- 5: t60
          refine stepK rfl (by kernel_rfl) (fun K hK => ?_); go_simp
          apply Exists.intro; apply And.intro; (focus (intro wk hk; go_simp; exact ⟨rfl, rfl⟩)); refine hK _ _ ?_; clear hK K
          -- 6: t0
          refine stepK rfl (by kernel_rfl) (fun K hK => ?_); go_simp
          first | (refine hK _ _ ?_; clear hK K) | (apply Exists.intro; apply And.intro; (focus (intro wk hk; go_simp; exact ⟨rfl, rfl⟩)); refine hK _ _ ?_; clear hK K)
          -- 7: nilCheck t62
          refine stepK rfl (by kernel_rfl) (fun K hK => ?_); go_simp
          first | (refine hK _ _ ?_; clear hK K) | (apply Exists.intro; apply And.intro; (focus (intro wk hk; go_simp; exact ⟨rfl, rfl⟩)); refine hK _ _ ?_; clear hK K)
          -- 8: fieldAddr<184> t63.0
          refine stepK rfl (by kernel_rfl) (fun K hK => ?_); go_simp
          first | (refine hK _ _ ?_; clear hK K) | (apply Exists.intro; apply And.intro; (focus (intro wk hk; go_simp; exact ⟨rfl, rfl⟩)); refine hK _ _ ?_; clear hK K)
          -- 9: load<31> *t64
          refine stepK rfl (by kernel_rfl) (fun K hK => ?_); go_simp
          first | (refine hK _ _ ?_; clear hK K) | (apply Exists.intro; apply And.intro; (focus exact kLoadMid rfl rfl aggT31 rg (row5_hi hpw) rfl id); refine hK _ _ ?_; clear hK K)
          -- 10: load<31> *t5
          refine stepK rfl (by kernel_rfl) (fun K hK => ?_); go_simp
          first | (refine hK _ _ ?_; clear hK K) | (apply Exists.intro; apply And.intro; (focus exact kLoad rfl rfl aggT31 rb7 rfl id); refine hK _ _ ?_; clear hK K)
          -- 11: call F48(t65, t66)
          refine stepS _ rfl (by kernel_rfl) (fun K hK => ?_); go_simp
          refine ⟨?_, ?_⟩
          · intro wk hk hg hu; go_simp; refine upon_enter ((cmpU hrn hd _).mono ?_); rintro e w' ⟨rfl, hb⟩; exact ⟨_, rfl, left_V (p := fun u => u = .int .i64 (cmpN ((2 * r + t) % M) d)) rfl (hb) rfl⟩
          rintro ⟨v11, lo11, hi11⟩ - - (rfl : v11 = _)
          refine hK _ _ ?_; clear hK K
          -- 12: lss<3> t67, 0
          refine stepK rfl (by kernel_rfl) (fun K hK => ?_); go_simp
          first | (refine hK _ _ ?_; clear hK K) | (apply Exists.intro; apply And.intro; (focus (intro wk hk; go_simp; exact ⟨rfl, rfl⟩)); refine hK _ _ ?_; clear hK K)
          -- 13: pick t61 ? t68 : false
          refine stepK rfl (by kernel_rfl) (fun K hK => ?_); go_simp
          apply Exists.intro; apply And.intro; (focus (intro wk hk; go_simp; exact ⟨rfl, rfl⟩)); refine hK _ _ ?_; clear hK K
          refine stepN ?_
          refine hQ _ _ ?_
          intro w8 hT hG hF
          have hT8 := hT.undrew
          have rg8 := K6.Row.tr rg hT8 id
          have hT9 : Tr (fun c => c = g) w w8 := hT0.trans (hT8.mono fun _ _ h => h.elim)
          clear hT hG hF hQ QQ L hT8
          go_wp2_with fail
          go_ret
          exact ⟨by rw [decide_eq_false (by omega)]; rfl, hT9, p, hpW, by rw [RN.out] at hpw; rw [show rN r d t = 2 * r + t by unfold rN; rw [if_neg (by omega)]]; exact hpw, rg8⟩
        · have hc : decide (cmpN ((2 * r + t) % M) d < 0) = false := decide_eq_false (by unfold cmpN; rw [RN.out, if_neg hld]; split <;> omega)
          have hle := Lib.hid (show d ≤ 2 * r + t by omega)
          clear hld hlt
          go_upto_region 7 with (fail)
          let L : List Sp := [sV 11 [] [] (fun u => u = .int .i64 (cmpN ((2 * r + t) % M) d))]
          refine wp_region_six (shs L) (look6 L) (None_) (by kernel_rfl) (by kernel_rfl) (mk_St L [] [] (by kernel_rfl) (by kernel_rfl) ⟨ok_V ⟨_, rfl⟩, trivial⟩ (by simp)) ?_
          intro QQ hQ
          -- 0: t0
          refine stepK rfl (by kernel_rfl) (fun K hK => ?_); go_simp
          apply Exists.intro; apply And.intro; (focus (intro wk hk; go_simp; exact ⟨rfl, rfl⟩)); refine hK _ _ ?_; clear hK K
          -- 1: nilCheck t56
          refine stepK rfl (by kernel_rfl) (fun K hK => ?_); go_simp
          apply Exists.intro; apply And.intro; (focus (intro wk hk; go_simp; exact ⟨rfl, rfl⟩)); refine hK _ _ ?_; clear hK K
          -- 2: fieldAddr<184> t57.1
          refine stepK rfl (by kernel_rfl) (fun K hK => ?_); go_simp
          apply Exists.intro; apply And.intro; (focus (intro wk hk; go_simp; exact ⟨rfl, rfl⟩)); refine hK _ _ ?_; clear hK K
          -- 3: load<29> *t58
          refine stepK rfl (by kernel_rfl) (fun K hK => ?_); go_simp
          apply Exists.intro; apply And.intro; (focus (intro wk hk; have cc := (K6.Row.tr (w := w7) rg hk.undrew id).at_ 4 (by omega); go_simp; exact ⟨rfl, rfl⟩)); refine hK _ _ ?_; clear hK K
          -- 4: eql<29> t59, 0u
          refine stepK rfl (by kernel_rfl) (fun K hK => ?_); go_simp
          apply Exists.intro; apply And.intro; (focus (intro wk hk; go_simp; exact ⟨rfl, rfl⟩)); refine hK _ _ ?_; clear hK K
          -- 5: t60
          refine stepK rfl (by kernel_rfl) (fun K hK => ?_); go_simp
          apply Exists.intro; apply And.intro; (focus (intro wk hk; go_simp; exact ⟨rfl, rfl⟩)); refine hK _ _ ?_; clear hK K
          -- 6: t0
          refine stepK rfl (by kernel_rfl) (fun K hK => ?_); go_simp
          first | (refine hK _ _ ?_; clear hK K) | (apply Exists.intro; apply And.intro; (focus (intro wk hk; go_simp; exact ⟨rfl, rfl⟩)); refine hK _ _ ?_; clear hK K)
          -- 7: nilCheck t62
          refine stepK rfl (by kernel_rfl) (fun K hK => ?_); go_simp
          first | (refine hK _ _ ?_; clear hK K) | (apply Exists.intro; apply And.intro; (focus (intro wk hk; go_simp; exact ⟨rfl, rfl⟩)); refine hK _ _ ?_; clear hK K)
          -- 8: fieldAddr<184> t63.0
          refine stepK rfl (by kernel_rfl) (fun K hK => ?_); go_simp
          first | (refine hK _ _ ?_; clear hK K) | (apply Exists.intro; apply And.intro; (focus (intro wk hk; go_simp; exact ⟨rfl, rfl⟩)); refine hK _ _ ?_; clear hK K)
          -- 9: load<31> *t64
          refine stepK rfl (by kernel_rfl) (fun K hK => ?_); go_simp
          first | (refine hK _ _ ?_; clear hK K) | (apply Exists.intro; apply And.intro; (focus exact kLoadMid rfl rfl aggT31 rg (row5_hi hpw) rfl id); refine hK _ _ ?_; clear hK K)
          -- 10: load<31> *t5
          refine stepK rfl (by kernel_rfl) (fun K hK => ?_); go_simp
          first | (refine hK _ _ ?_; clear hK K) | (apply Exists.intro; apply And.intro; (focus exact kLoad rfl rfl aggT31 rb7 rfl id); refine hK _ _ ?_; clear hK K)
          -- 11: call F48(t65, t66)
          refine stepS _ rfl (by kernel_rfl) (fun K hK => ?_); go_simp
          refine ⟨?_, ?_⟩
          · intro wk hk hg hu; go_simp; refine upon_enter ((cmpU hrn hd _).mono ?_); rintro e w' ⟨rfl, hb⟩; exact ⟨_, rfl, left_V (p := fun u => u = .int .i64 (cmpN ((2 * r + t) % M) d)) rfl (hb) rfl⟩
          rintro ⟨v11, lo11, hi11⟩ - - (rfl : v11 = _)
          refine hK _ _ ?_; clear hK K
          -- 12: lss<3> t67, 0
          refine stepK rfl (by kernel_rfl) (fun K hK => ?_); go_simp
          first | (refine hK _ _ ?_; clear hK K) | (apply Exists.intro; apply And.intro; (focus (intro wk hk; go_simp; exact ⟨rfl, rfl⟩)); refine hK _ _ ?_; clear hK K)
          -- 13: pick t61 ? t68 : false
          refine stepK rfl (by kernel_rfl) (fun K hK => ?_); go_simp
          apply Exists.intro; apply And.intro; (focus (intro wk hk; go_simp; exact ⟨rfl, rfl⟩)); refine hK _ _ ?_; clear hK K
          refine stepN ?_
          refine hQ _ _ ?_
          intro w8 hT hG hF
          have hT8 := hT.undrew
          have rg8 := K6.Row.tr rg hT8 id
          have rb8 := K6.Row.tr rb hT8 id
          have hT9 : Tr (fun c => c = g) w w8 := hT0.trans (hT8.mono fun _ _ h => h.elim)
          clear hT hG hF hQ QQ L hT8 rg rb hT0 rb7 hc hp0
          have rg := rg8
          have rb := rb8
          have hT0 := hT9
          clear rg8 rb8 hT9
          go_wp2_with fail
          go_loopg [8, 70] 4 (fun gg c i wr => ∃ (k : Nat) (f2 : Nat → Int) (C : Int), k + gg = 4 ∧ i = .int .i64 (k : Int) ∧ c = .int .u64 C ∧ Tr (fun c => c = g) w wr ∧ Row wr w.heap.size 31 (arr .u64 q 4) ∧ Row wr g 184 (arr .u64 f2 5) ∧ WrapInv f2 C p q k)
          case atStart => exact ⟨0, p, 0, by omega, rfl, rfl, hT0, rb, rg, fun _ _ => rfl, by omega, by omega, hpW, by simp [psum]⟩
          case round =>
            obtain ⟨k, f2, C, hk, rfl, rfl, hT1, rb1, rg1, inv⟩ := hrel
            clear hT0 rb rg
            have rb := rb1
            have rg := rg1
            have hT0 := hT1
            clear rb1 rg1 hT1
            by_cases hlt : k < 4
            · have wf2 := inv.2.2.2.1 k
              have wq := hqW k
              have hC0 := inv.2.1
              have hC1 := inv.2.2.1
              have e3 : (k : Int) < 4 := by omega
              have e9 : (0 : Int) ≤ (k : Int) := by omega
              have INV := Lib.hid inv
              clear inv
              go_upto_region 13 with (fail)
              let L : List Sp := [sV 12 [] [] (fun u => u = .tuple #[.int .u64 (bS (f2 k) (q k) C), .int .u64 (bC (f2 k) (q k) C)]), sO 19 (g) 184 [14] (fun gh => arr .u64 (upd (f2) (k) (intOf (gh 14).v)) 5)]
              refine wp_region_six (shs L) (look6 L) (fun c => c = g) (by kernel_rfl) (by kernel_rfl) (mk_St L [19] [19] (by kernel_rfl) (by kernel_rfl) ⟨ok_V ⟨_, rfl⟩, ok_O (fun g g' h => by rw [h 14 (by simp)]) rg.lt (rfl), trivial⟩ (by simp)) ?_
              intro QQ hQ
              -- 0: t0
              refine stepK rfl (by kernel_rfl) (fun K hK => ?_); go_simp
              apply Exists.intro; apply And.intro; (focus (intro wk hk; go_simp; exact ⟨rfl, rfl⟩)); refine hK _ _ ?_; clear hK K
              -- 1: t9
              refine stepK rfl (by kernel_rfl) (fun K hK => ?_); go_simp
              apply Exists.intro; apply And.intro; (focus (intro wk hk; go_simp; exact ⟨rfl, rfl⟩)); refine hK _ _ ?_; clear hK K
              -- 2: t0
              refine stepK rfl (by kernel_rfl) (fun K hK => ?_); go_simp
              apply Exists.intro; apply And.intro; (focus (intro wk hk; go_simp; exact ⟨rfl, rfl⟩)); refine hK _ _ ?_; clear hK K
              -- 3: t9
              refine stepK rfl (by kernel_rfl) (fun K hK => ?_); go_simp
              apply Exists.intro; apply And.intro; (focus (intro wk hk; go_simp; exact ⟨rfl, rfl⟩)); refine hK _ _ ?_; clear hK K
              -- 4: nilCheck t76
              refine stepK rfl (by kernel_rfl) (fun K hK => ?_); go_simp
              apply Exists.intro; apply And.intro; (focus (intro wk hk; go_simp; exact ⟨rfl, rfl⟩)); refine hK _ _ ?_; clear hK K
              -- 5: fieldAddr<184> t78.0
              refine stepK rfl (by kernel_rfl) (fun K hK => ?_); go_simp
              apply Exists.intro; apply And.intro; (focus (intro wk hk; go_simp; exact ⟨rfl, rfl⟩)); refine hK _ _ ?_; clear hK K
              -- 6: indexAddr<31> t79[t77]
              refine stepK rfl (by kernel_rfl) (fun K hK => ?_); go_simp
              apply Exists.intro; apply And.intro; (focus (intro wk hk; go_simp; exact ⟨rfl, rfl⟩)); refine hK _ _ ?_; clear hK K
              -- 7: load<29> *t80
              refine stepK rfl (by kernel_rfl) (fun K hK => ?_); go_simp
              apply Exists.intro; apply And.intro; (focus (intro wk hk; have cc := (K6.Row.tr (w := wr) rg hk.undrew id).at_ k (by omega); go_simp; exact ⟨rfl, rfl⟩)); refine hK _ _ ?_; clear hK K
              -- 8: t9
              refine stepK rfl (by kernel_rfl) (fun K hK => ?_); go_simp
              apply Exists.intro; apply And.intro; (focus (intro wk hk; go_simp; exact ⟨rfl, rfl⟩)); refine hK _ _ ?_; clear hK K
              -- 9: indexAddr<31> t5[t82]
              refine stepK rfl (by kernel_rfl) (fun K hK => ?_); go_simp
              apply Exists.intro; apply And.intro; (focus (intro wk hk; go_simp; exact ⟨rfl, rfl⟩)); refine hK _ _ ?_; clear hK K
              -- 10: load<29> *t83
              refine stepK rfl (by kernel_rfl) (fun K hK => ?_); go_simp
              apply Exists.intro; apply And.intro; (focus (intro wk hk; have cc := (K6.Row.tr (w := wr) rb hk.undrew id).at_ k hlt; go_simp; exact ⟨rfl, rfl⟩)); refine hK _ _ ?_; clear hK K
              -- 11: t8
              refine stepK rfl (by kernel_rfl) (fun K hK => ?_); go_simp
              apply Exists.intro; apply And.intro; (focus (intro wk hk; go_simp; exact ⟨rfl, rfl⟩)); refine hK _ _ ?_; clear hK K
              -- 12: call F165(t81, t84, t85)
              refine stepS _ rfl (by kernel_rfl) (fun K hK => ?_); go_simp
              refine ⟨?_, ?_⟩
              · intro wk hk hg hu; go_simp; refine upon_enter ((borrow_any (f2 k) (q k) C _ wf2 wq ⟨hC0, hC1⟩).mono ?_); rintro e w' ⟨rfl, rfl⟩; exact ⟨_, rfl, left_V (p := fun u => u = .tuple #[.int .u64 (bS (f2 k) (q k) C), .int .u64 (bC (f2 k) (q k) C)]) rfl (Below.refl _ _) rfl⟩
              rintro ⟨v12, lo12, hi12⟩ - - (rfl : v12 = _)
              refine hK _ _ ?_; clear hK K
              -- 13: t86
              refine stepK rfl (by kernel_rfl) (fun K hK => ?_); go_simp
              apply Exists.intro; apply And.intro; (focus (intro wk hk; go_simp; exact ⟨rfl, rfl⟩)); refine hK _ _ ?_; clear hK K
              -- 14: extract t73 #0
              refine stepK rfl (by kernel_rfl) (fun K hK => ?_); go_simp
              apply Exists.intro; apply And.intro; (focus (intro wk hk; go_simp; exact ⟨rfl, rfl⟩)); refine hK _ _ ?_; clear hK K
              -- 15: extract t73 #1
              refine stepKz rfl (fun K hK => ?_); go_simp
              apply Exists.intro; apply And.intro; (focus (intro wk hk; go_simp; exact ⟨rfl, rfl⟩)); refine hK _ _ ?_; clear hK K
              -- 16: nilCheck t74
              refine stepK rfl (by kernel_rfl) (fun K hK => ?_); go_simp
              apply Exists.intro; apply And.intro; (focus (intro wk hk; go_simp; exact ⟨rfl, rfl⟩)); refine hK _ _ ?_; clear hK K
              -- 17: fieldAddr<184> t89.0
              refine stepK rfl (by kernel_rfl) (fun K hK => ?_); go_simp
              apply Exists.intro; apply And.intro; (focus (intro wk hk; go_simp; exact ⟨rfl, rfl⟩)); refine hK _ _ ?_; clear hK K
              -- 18: indexAddr<31> t90[t75]
              refine stepK rfl (by kernel_rfl) (fun K hK => ?_); go_simp
              apply Exists.intro; apply And.intro; (focus (intro wk hk; go_simp; exact ⟨rfl, rfl⟩)); refine hK _ _ ?_; clear hK K
              -- 19: store<29> *t91 = t87
              refine stepS _ rfl (by kernel_rfl) (fun K hK => ?_); go_simp
              refine ⟨?_, ?_⟩
              · intro wk hk hg hu; have rk := K6.Row.tr (w := wr) rg hk.undrew id; have cc := rk.at_ (k) (by omega); have ff := rk.frozen (k); go_simp; exact left_O (s := (sO 19 (g) 184 [14] (fun gh => arr .u64 (upd (f2) (k) (intOf (gh 14).v)) 5)).1) rfl rfl (by decide) (fun g g' h => by rw [h 14 (by simp)]) (fun c hc => Below.heap_setCell _ _ _ _ hc) rfl rfl rfl (by simp) (rk.put (k) (by omega) _)
              rintro ⟨v19, lo19, hi19⟩ - - (rfl : v19 = undef)
              refine hK _ _ ?_; clear hK K
              -- 20: assign t88
              refine stepKz rfl (fun K hK => ?_); go_simp
              apply Exists.intro; apply And.intro; (focus (intro wk hk; go_simp; exact ⟨rfl, rfl⟩)); refine hK _ _ ?_; clear hK K
              refine stepN ?_
              refine hQ _ _ ?_
              intro w8 hT hG hF
              have hT8 := hT.undrew
              have rg8 : Row w8 g 184 (arr .u64 (upd f2 k (bS (f2 k) (q k) C)) 5) := hF 19 _ rfl rfl (by decide)
              have rb8 : Row w8 w.heap.size 31 (arr .u64 q 4) := K6.Row.tr rb hT8 (by omega)
              have hT9 : Tr (fun c => c = g) w w8 := hT0.trans hT8
              clear hT hG hF hT8 hQ QQ L rb rg hT0
              go_wp2_with fail
              go_roundg (gk - 1)
              case measure => omega
              case rel => exact ⟨k + 1, _, _, by omega, by go_num, rfl, hT9, rb8, rg8, INV.out.step hpW hqW⟩
            · obtain rfl : k = 4 := by omega
              obtain ⟨hw4, hW4⟩ := inv.fin' hps hqs hrn hd
              have H := Lib.hid (show _ ∧ _ ∧ _ from ⟨hw4, hW4, rg⟩)
              clear inv hw4 hW4 rg rb hlt
              go_wp2_with fail
              go_ret
              obtain ⟨hw4, hW4, rg⟩ := H.out
              exact ⟨by rw [decide_eq_true hle.out]; rfl, hT0, f2, hW4, by rw [← take_off hrd hd ht hle.out]; exact hw4, rg⟩
      · have hp0 : (p 4 == 0) = false := by
          have h1 : 1 ≤ (2 * r + t) / M := (Nat.one_le_div_iff M_pos).2 (by omega)
          have h2 : p 4 ≠ 0 := by rw [hp4]; omega
          simp [h2]
        have hle := Lib.hid (show d ≤ 2 * r + t by omega)
        clear hp4 hlt hq
        go_upto_region 7 with (fail)
        let L : List Sp := []
        refine wp_region_six (shs L) (look6 L) (None_) (by kernel_rfl) (by kernel_rfl) (mk_St L [] [] (by kernel_rfl) (by kernel_rfl) trivial (by simp)) ?_
        intro QQ hQ
        -- 0: t0
        refine stepK rfl (by kernel_rfl) (fun K hK => ?_); go_simp
        apply Exists.intro; apply And.intro; (focus (intro wk hk; go_simp; exact ⟨rfl, rfl⟩)); refine hK _ _ ?_; clear hK K
        -- 1: nilCheck t56
        refine stepK rfl (by kernel_rfl) (fun K hK => ?_); go_simp
        apply Exists.intro; apply And.intro; (focus (intro wk hk; go_simp; exact ⟨rfl, rfl⟩)); refine hK _ _ ?_; clear hK K
        -- 2: fieldAddr<184> t57.1
        refine stepK rfl (by kernel_rfl) (fun K hK => ?_); go_simp
        apply Exists.intro; apply And.intro; (focus (intro wk hk; go_simp; exact ⟨rfl, rfl⟩)); refine hK _ _ ?_; clear hK K
        -- 3: load<29> *t58
        refine stepK rfl (by kernel_rfl) (fun K hK => ?_); go_simp
        apply Exists.intro; apply And.intro; (focus (intro wk hk; have cc := (K6.Row.tr (w := w7) rg hk.undrew id).at_ 4 (by omega); go_simp; exact ⟨rfl, rfl⟩)); refine hK _ _ ?_; clear hK K
        -- 4: eql<29> t59, 0u
        refine stepK rfl (by kernel_rfl) (fun K hK => ?_); go_simp
        apply Exists.intro; apply And.intro; (focus (intro wk hk; go_simp; exact ⟨rfl, rfl⟩)); refine hK _ _ ?_; clear hK K
        -- 5: t60
        refine stepK rfl (by kernel_rfl) (fun K hK => ?_); go_simp
        apply Exists.intro; apply And.intro; (focus (intro wk hk; go_simp; exact ⟨rfl, rfl⟩)); refine hK _ _ ?_; clear hK K
        -- 6: t0
        refine stepK rfl (by kernel_rfl) (fun K hK => ?_); go_simp
        first | (refine hK _ _ ?_; clear hK K) | (apply Exists.intro; apply And.intro; (focus (intro wk hk; go_simp; exact ⟨rfl, rfl⟩)); refine hK _ _ ?_; clear hK K)
        -- 7: nilCheck t62
        refine stepK rfl (by kernel_rfl) (fun K hK => ?_); go_simp
        first | (refine hK _ _ ?_; clear hK K) | (apply Exists.intro; apply And.intro; (focus (intro wk hk; go_simp; exact ⟨rfl, rfl⟩)); refine hK _ _ ?_; clear hK K)
        -- 8: fieldAddr<184> t63.0
        refine stepK rfl (by kernel_rfl) (fun K hK => ?_); go_simp
        first | (refine hK _ _ ?_; clear hK K) | (apply Exists.intro; apply And.intro; (focus (intro wk hk; go_simp; exact ⟨rfl, rfl⟩)); refine hK _ _ ?_; clear hK K)
        -- 9: load<31> *t64
        refine stepK rfl (by kernel_rfl) (fun K hK => ?_); go_simp
        first | (refine hK _ _ ?_; clear hK K) | (apply Exists.intro; apply And.intro; (focus exact kLoadMid rfl rfl aggT31 rg (row5_hi hpw) rfl id); refine hK _ _ ?_; clear hK K)
        -- 10: load<31> *t5
        refine stepK rfl (by kernel_rfl) (fun K hK => ?_); go_simp
        first | (refine hK _ _ ?_; clear hK K) | (apply Exists.intro; apply And.intro; (focus exact kLoad rfl rfl aggT31 rb7 rfl id); refine hK _ _ ?_; clear hK K)
        -- 11: call F48(t65, t66)
        refine stepK rfl (by kernel_rfl) (fun K hK => ?_); go_simp
        first | (refine hK _ _ ?_; clear hK K) | (apply Exists.intro; apply And.intro; (focus (intro wk hk; go_simp; exact ⟨rfl, rfl⟩)); refine hK _ _ ?_; clear hK K)
        -- 12: lss<3> t67, 0
        refine stepK rfl (by kernel_rfl) (fun K hK => ?_); go_simp
        first | (refine hK _ _ ?_; clear hK K) | (apply Exists.intro; apply And.intro; (focus (intro wk hk; go_simp; exact ⟨rfl, rfl⟩)); refine hK _ _ ?_; clear hK K)
        -- 13: pick t61 ? t68 : false
        refine stepK rfl (by kernel_rfl) (fun K hK => ?_); go_simp
        apply Exists.intro; apply And.intro; (focus (intro wk hk; go_simp; exact ⟨rfl, rfl⟩)); refine hK _ _ ?_; clear hK K
        refine stepN ?_
        refine hQ _ _ ?_
        intro w8 hT hG hF
        have hT8 := hT.undrew
        have rg8 := K6.Row.tr rg hT8 id
        have rb8 := K6.Row.tr rb hT8 id
        have hT9 : Tr (fun c => c = g) w w8 := hT0.trans (hT8.mono fun _ _ h => h.elim)
        clear hT hG hF hQ QQ L hT8 rg rb hT0 rb7 hp0
        have rg := rg8
        have rb := rb8
        have hT0 := hT9
        clear rg8 rb8 hT9
        go_wp2_with fail
        go_loopg [8, 70] 4 (fun gg c i wr => ∃ (k : Nat) (f2 : Nat → Int) (C : Int), k + gg = 4 ∧ i = .int .i64 (k : Int) ∧ c = .int .u64 C ∧ Tr (fun c => c = g) w wr ∧ Row wr w.heap.size 31 (arr .u64 q 4) ∧ Row wr g 184 (arr .u64 f2 5) ∧ WrapInv f2 C p q k)
        case atStart => exact ⟨0, p, 0, by omega, rfl, rfl, hT0, rb, rg, fun _ _ => rfl, by omega, by omega, hpW, by simp [psum]⟩
        case round =>
          obtain ⟨k, f2, C, hk, rfl, rfl, hT1, rb1, rg1, inv⟩ := hrel
          clear hT0 rb rg
          have rb := rb1
          have rg := rg1
          have hT0 := hT1
          clear rb1 rg1 hT1
          by_cases hlt : k < 4
          · have wf2 := inv.2.2.2.1 k
            have wq := hqW k
            have hC0 := inv.2.1
            have hC1 := inv.2.2.1
            have e3 : (k : Int) < 4 := by omega
            have e9 : (0 : Int) ≤ (k : Int) := by omega
            have INV := Lib.hid inv
            clear inv
            go_upto_region 13 with (fail)
            let L : List Sp := [sV 12 [] [] (fun u => u = .tuple #[.int .u64 (bS (f2 k) (q k) C), .int .u64 (bC (f2 k) (q k) C)]), sO 19 (g) 184 [14] (fun gh => arr .u64 (upd (f2) (k) (intOf (gh 14).v)) 5)]
            refine wp_region_six (shs L) (look6 L) (fun c => c = g) (by kernel_rfl) (by kernel_rfl) (mk_St L [19] [19] (by kernel_rfl) (by kernel_rfl) ⟨ok_V ⟨_, rfl⟩, ok_O (fun g g' h => by rw [h 14 (by simp)]) rg.lt (rfl), trivial⟩ (by simp)) ?_
            intro QQ hQ
            -- 0: t0
            refine stepK rfl (by kernel_rfl) (fun K hK => ?_); go_simp
            apply Exists.intro; apply And.intro; (focus (intro wk hk; go_simp; exact ⟨rfl, rfl⟩)); refine hK _ _ ?_; clear hK K
            -- 1: t9
            refine stepK rfl (by kernel_rfl) (fun K hK => ?_); go_simp
            apply Exists.intro; apply And.intro; (focus (intro wk hk; go_simp; exact ⟨rfl, rfl⟩)); refine hK _ _ ?_; clear hK K
            -- 2: t0
            refine stepK rfl (by kernel_rfl) (fun K hK => ?_); go_simp
            apply Exists.intro; apply And.intro; (focus (intro wk hk; go_simp; exact ⟨rfl, rfl⟩)); refine hK _ _ ?_; clear hK K
            -- 3: t9
            refine stepK rfl (by kernel_rfl) (fun K hK => ?_); go_simp
            apply Exists.intro; apply And.intro; (focus (intro wk hk; go_simp; exact ⟨rfl, rfl⟩)); refine hK _ _ ?_; clear hK K
            -- 4: nilCheck t76
            refine stepK rfl (by kernel_rfl) (fun K hK => ?_); go_simp
            apply Exists.intro; apply And.intro; (focus (intro wk hk; go_simp; exact ⟨rfl, rfl⟩)); refine hK _ _ ?_; clear hK K
            -- 5: fieldAddr<184> t78.0
            refine stepK rfl (by kernel_rfl) (fun K hK => ?_); go_simp
            apply Exists.intro; apply And.intro; (focus (intro wk hk; go_simp; exact ⟨rfl, rfl⟩)); refine hK _ _ ?_; clear hK K
            -- 6: indexAddr<31> t79[t77]
            refine stepK rfl (by kernel_rfl) (fun K hK => ?_); go_simp
            apply Exists.intro; apply And.intro; (focus (intro wk hk; go_simp; exact ⟨rfl, rfl⟩)); refine hK _ _ ?_; clear hK K
            -- 7: load<29> *t80
            refine stepK rfl (by kernel_rfl) (fun K hK => ?_); go_simp
            apply Exists.intro; apply And.intro; (focus (intro wk hk; have cc := (K6.Row.tr (w := wr) rg hk.undrew id).at_ k (by omega); go_simp; exact ⟨rfl, rfl⟩)); refine hK _ _ ?_; clear hK K
            -- 8: t9
            refine stepK rfl (by kernel_rfl) (fun K hK => ?_); go_simp
            apply Exists.intro; apply And.intro; (focus (intro wk hk; go_simp; exact ⟨rfl, rfl⟩)); refine hK _ _ ?_; clear hK K
            -- 9: indexAddr<31> t5[t82]
            refine stepK rfl (by kernel_rfl) (fun K hK => ?_); go_simp
            apply Exists.intro; apply And.intro; (focus (intro wk hk; go_simp; exact ⟨rfl, rfl⟩)); refine hK _ _ ?_; clear hK K
            -- 10: load<29> *t83
            refine stepK rfl (by kernel_rfl) (fun K hK => ?_); go_simp
            apply Exists.intro; apply And.intro; (focus (intro wk hk; have cc := (K6.Row.tr (w := wr) rb hk.undrew id).at_ k hlt; go_simp; exact ⟨rfl, rfl⟩)); refine hK _ _ ?_; clear hK K
            -- 11: t8
            refine stepK rfl (by kernel_rfl) (fun K hK => ?_); go_simp
            apply Exists.intro; apply And.intro; (focus (intro wk hk; go_simp; exact ⟨rfl, rfl⟩)); refine hK _ _ ?_; clear hK K
            -- 12: call F165(t81, t84, t85)
            refine stepS _ rfl (by kernel_rfl) (fun K hK => ?_); go_simp
            refine ⟨?_, ?_⟩
            · intro wk hk hg hu; go_simp; refine upon_enter ((borrow_any (f2 k) (q k) C _ wf2 wq ⟨hC0, hC1⟩).mono ?_); rintro e w' ⟨rfl, rfl⟩; exact ⟨_, rfl, left_V (p := fun u => u = .tuple #[.int .u64 (bS (f2 k) (q k) C), .int .u64 (bC (f2 k) (q k) C)]) rfl (Below.refl _ _) rfl⟩
            rintro ⟨v12, lo12, hi12⟩ - - (rfl : v12 = _)
            refine hK _ _ ?_; clear hK K
            -- 13: t86
            refine stepK rfl (by kernel_rfl) (fun K hK => ?_); go_simp
            apply Exists.intro; apply And.intro; (focus (intro wk hk; go_simp; exact ⟨rfl, rfl⟩)); refine hK _ _ ?_; clear hK K
            -- 14: extract t73 #0
            refine stepK rfl (by kernel_rfl) (fun K hK => ?_); go_simp
            apply Exists.intro; apply And.intro; (focus (intro wk hk; go_simp; exact ⟨rfl, rfl⟩)); refine hK _ _ ?_; clear hK K
            -- 15: extract t73 #1
            refine stepKz rfl (fun K hK => ?_); go_simp
            apply Exists.intro; apply And.intro; (focus (intro wk hk; go_simp; exact ⟨rfl, rfl⟩)); refine hK _ _ ?_; clear hK K
            -- 16: nilCheck t74
            refine stepK rfl (by kernel_rfl) (fun K hK => ?_); go_simp
            apply Exists.intro; apply And.intro; (focus (intro wk hk; go_simp; exact ⟨rfl, rfl⟩)); refine hK _ _ ?_; clear hK K
            -- 17: fieldAddr<184> t89.0
            refine stepK rfl (by kernel_rfl) (fun K hK => ?_); go_simp
            apply Exists.intro; apply And.intro; (focus (intro wk hk; go_simp; exact ⟨rfl, rfl⟩)); refine hK _ _ ?_; clear hK K
            -- 18: indexAddr<31> t90[t75]
            refine stepK rfl (by kernel_rfl) (fun K hK => ?_); go_simp
            apply Exists.intro; apply And.intro; (focus (intro wk hk; go_simp; exact ⟨rfl, rfl⟩)); refine hK _ _ ?_; clear hK K
            -- 19: store<29> *t91 = t87
            refine stepS _ rfl (by kernel_rfl) (fun K hK => ?_); go_simp
            refine ⟨?_, ?_⟩
            · intro wk hk hg hu; have rk := K6.Row.tr (w := wr) rg hk.undrew id; have cc := rk.at_ (k) (by omega); have ff := rk.frozen (k); go_simp; exact left_O (s := (sO 19 (g) 184 [14] (fun gh => arr .u64 (upd (f2) (k) (intOf (gh 14).v)) 5)).1) rfl rfl (by decide) (fun g g' h => by rw [h 14 (by simp)]) (fun c hc => Below.heap_setCell _ _ _ _ hc) rfl rfl rfl (by simp) (rk.put (k) (by omega) _)
            rintro ⟨v19, lo19, hi19⟩ - - (rfl : v19 = undef)
            refine hK _ _ ?_; clear hK K
            -- 20: assign t88
            refine stepKz rfl (fun K hK => ?_); go_simp
            apply Exists.intro; apply And.intro; (focus (intro wk hk; go_simp; exact ⟨rfl, rfl⟩)); refine hK _ _ ?_; clear hK K
            refine stepN ?_
            refine hQ _ _ ?_
            intro w8 hT hG hF
            have hT8 := hT.undrew
            have rg8 : Row w8 g 184 (arr .u64 (upd f2 k (bS (f2 k) (q k) C)) 5) := hF 19 _ rfl rfl (by decide)
            have rb8 : Row w8 w.heap.size 31 (arr .u64 q 4) := K6.Row.tr rb hT8 (by omega)
            have hT9 : Tr (fun c => c = g) w w8 := hT0.trans hT8
            clear hT hG hF hT8 hQ QQ L rb rg hT0
            go_wp2_with fail
            go_roundg (gk - 1)
            case measure => omega
            case rel => exact ⟨k + 1, _, _, by omega, by go_num, rfl, hT9, rb8, rg8, INV.out.step hpW hqW⟩
          · obtain rfl : k = 4 := by omega
            obtain ⟨hw4, hW4⟩ := inv.fin' hps hqs hrn hd
            have H := Lib.hid (show _ ∧ _ ∧ _ from ⟨hw4, hW4, rg⟩)
            clear inv hw4 hW4 rg rb hlt
            go_wp2_with fail
            go_ret
            obtain ⟨hw4, hW4, rg⟩ := H.out
            exact ⟨by rw [decide_eq_true hle.out]; rfl, hT0, f2, hW4, by rw [← take_off hrd hd ht hle.out]; exact hw4, rg⟩
    · have e1 : ((k + 1 : Nat) : Int) - 1 = (k : Int) := by omega
      have e2 : (0 : Int) ≤ (k : Int) + 1 := by omega
      have e3 : (k : Int) + 1 < 4 := by omega
      have e4 : (k : Int) < 4 := by omega
      have e5 : ((k : Int) + 1).toNat = k + 1 := by omega
      have e8 : IntKind.i64.wrap (k : Int) = (k : Int) := IntWalk.i64_in _ (by omega)
      have e9 : (0 : Int) ≤ (k : Int) := by omega
      have hfk := hf (k + 1)
      have hfk' := hf k
      unfold W at hfk hfk'
      have s1 : shF f (k + 1) (k + 1) = f (k + 1) := by unfold shF; rw [if_neg (by omega), if_neg (by omega), if_neg (by omega)]
      have s2 : shF f (k + 1) k = f k := by unfold shF; rw [if_neg (by omega), if_neg (by omega), if_neg (by omega)]
      have sor := shl_or (f (k + 1)) (f k / 9223372036854775808) hfk (by omega)
      go_upto_region 5 with (fail)
      let L : List Sp := [sO 21 (g) 184 [17] (fun gh => arr .u64 (upd (shF f (k + 1)) (k + 1) (intOf (gh 17).v)) 5)]
      refine wp_region_six (shs L) (look6 L) (fun c => c = g) (by kernel_rfl) (by kernel_rfl) (mk_St L [21] [21] (by kernel_rfl) (by kernel_rfl) ⟨ok_O (fun g g' h => by rw [h 17 (by simp)]) rg.lt (rfl), trivial⟩ (by simp)) ?_
      intro QQ hQ
      -- 0: t0
      refine stepK rfl (by kernel_rfl) (fun K hK => ?_); go_simp
      apply Exists.intro; apply And.intro; (focus (intro wk hk; go_simp; exact ⟨rfl, rfl⟩)); refine hK _ _ ?_; clear hK K
      -- 1: t7
      refine stepK rfl (by kernel_rfl) (fun K hK => ?_); go_simp
      apply Exists.intro; apply And.intro; (focus (intro wk hk; go_simp; exact ⟨rfl, rfl⟩)); refine hK _ _ ?_; clear hK K
      -- 2: t0
      refine stepK rfl (by kernel_rfl) (fun K hK => ?_); go_simp
      apply Exists.intro; apply And.intro; (focus (intro wk hk; go_simp; exact ⟨rfl, rfl⟩)); refine hK _ _ ?_; clear hK K
      -- 3: t7
      refine stepK rfl (by kernel_rfl) (fun K hK => ?_); go_simp
      apply Exists.intro; apply And.intro; (focus (intro wk hk; go_simp; exact ⟨rfl, rfl⟩)); refine hK _ _ ?_; clear hK K
      -- 4: nilCheck t25
      refine stepK rfl (by kernel_rfl) (fun K hK => ?_); go_simp
      apply Exists.intro; apply And.intro; (focus (intro wk hk; go_simp; exact ⟨rfl, rfl⟩)); refine hK _ _ ?_; clear hK K
      -- 5: fieldAddr<184> t27.0
      refine stepK rfl (by kernel_rfl) (fun K hK => ?_); go_simp
      apply Exists.intro; apply And.intro; (focus (intro wk hk; go_simp; exact ⟨rfl, rfl⟩)); refine hK _ _ ?_; clear hK K
      -- 6: indexAddr<31> t28[t26]
      refine stepK rfl (by kernel_rfl) (fun K hK => ?_); go_simp
      apply Exists.intro; apply And.intro; (focus (intro wk hk; go_simp; exact ⟨rfl, rfl⟩)); refine hK _ _ ?_; clear hK K
      -- 7: load<29> *t29
      refine stepK rfl (by kernel_rfl) (fun K hK => ?_); go_simp
      apply Exists.intro; apply And.intro; (focus (intro wk hk; have cc := (K6.Row.tr (w := wr) rg hk.undrew id).at_ (k + 1) (by omega); go_simp; exact ⟨rfl, rfl⟩)); refine hK _ _ ?_; clear hK K
      -- 8: shl<29> t30, 1u <136>
      refine stepK rfl (by kernel_rfl) (fun K hK => ?_); go_simp
      apply Exists.intro; apply And.intro; (focus (intro wk hk; go_simp; exact ⟨rfl, rfl⟩)); refine hK _ _ ?_; clear hK K
      -- 9: t0
      refine stepK rfl (by kernel_rfl) (fun K hK => ?_); go_simp
      apply Exists.intro; apply And.intro; (focus (intro wk hk; go_simp; exact ⟨rfl, rfl⟩)); refine hK _ _ ?_; clear hK K
      -- 10: t7
      refine stepK rfl (by kernel_rfl) (fun K hK => ?_); go_simp
      apply Exists.intro; apply And.intro; (focus (intro wk hk; go_simp; exact ⟨rfl, rfl⟩)); refine hK _ _ ?_; clear hK K
      -- 11: sub<3> t33, 1
      refine stepK rfl (by kernel_rfl) (fun K hK => ?_); go_simp
      apply Exists.intro; apply And.intro; (focus (intro wk hk; go_simp; exact ⟨rfl, rfl⟩)); refine hK _ _ ?_; clear hK K
      -- 12: nilCheck t32
      refine stepK rfl (by kernel_rfl) (fun K hK => ?_); go_simp
      apply Exists.intro; apply And.intro; (focus (intro wk hk; go_simp; exact ⟨rfl, rfl⟩)); refine hK _ _ ?_; clear hK K
      -- 13: fieldAddr<184> t35.0
      refine stepK rfl (by kernel_rfl) (fun K hK => ?_); go_simp
      apply Exists.intro; apply And.intro; (focus (intro wk hk; go_simp; exact ⟨rfl, rfl⟩)); refine hK _ _ ?_; clear hK K
      -- 14: indexAddr<31> t36[t34]
      refine stepK rfl (by kernel_rfl) (fun K hK => ?_); go_simp
      apply Exists.intro; apply And.intro; (focus (intro wk hk; go_simp; exact ⟨rfl, rfl⟩)); refine hK _ _ ?_; clear hK K
      -- 15: load<29> *t37
      refine stepK rfl (by kernel_rfl) (fun K hK => ?_); go_simp
      apply Exists.intro; apply And.intro; (focus (intro wk hk; have cc := (K6.Row.tr (w := wr) rg hk.undrew id).at_ k (by omega); go_simp; exact ⟨rfl, rfl⟩)); refine hK _ _ ?_; clear hK K
      -- 16: shr<29> t38, 63u <136>
      refine stepK rfl (by kernel_rfl) (fun K hK => ?_); go_simp
      apply Exists.intro; apply And.intro; (focus (intro wk hk; go_simp; exact ⟨rfl, rfl⟩)); refine hK _ _ ?_; clear hK K
      -- 17: or<29> t31, t39
      refine stepK rfl (by kernel_rfl) (fun K hK => ?_); go_simp
      apply Exists.intro; apply And.intro; (focus (intro wk hk; go_simp; exact ⟨rfl, rfl⟩)); refine hK _ _ ?_; clear hK K
      -- 18: nilCheck t23
      refine stepK rfl (by kernel_rfl) (fun K hK => ?_); go_simp
      apply Exists.intro; apply And.intro; (focus (intro wk hk; go_simp; exact ⟨rfl, rfl⟩)); refine hK _ _ ?_; clear hK K
      -- 19: fieldAddr<184> t41.0
      refine stepK rfl (by kernel_rfl) (fun K hK => ?_); go_simp
      apply Exists.intro; apply And.intro; (focus (intro wk hk; go_simp; exact ⟨rfl, rfl⟩)); refine hK _ _ ?_; clear hK K
      -- 20: indexAddr<31> t42[t24]
      refine stepK rfl (by kernel_rfl) (fun K hK => ?_); go_simp
      apply Exists.intro; apply And.intro; (focus (intro wk hk; go_simp; exact ⟨rfl, rfl⟩)); refine hK _ _ ?_; clear hK K
      -- 21: store<29> *t43 = t40
      refine stepS _ rfl (by kernel_rfl) (fun K hK => ?_); go_simp
      refine ⟨?_, ?_⟩
      · intro wk hk hg hu; have rk := K6.Row.tr (w := wr) rg hk.undrew id; have cc := rk.at_ (k + 1) (by omega); have ff := rk.frozen (k + 1); go_simp; exact left_O (s := (sO 21 (g) 184 [17] (fun gh => arr .u64 (upd (shF f (k + 1)) (k + 1) (intOf (gh 17).v)) 5)).1) rfl rfl (by decide) (fun g g' h => by rw [h 17 (by simp)]) (fun c hc => Below.heap_setCell _ _ _ _ hc) rfl rfl rfl (by simp) (rk.put (k + 1) (by omega) _)
      rintro ⟨v21, lo21, hi21⟩ - - (rfl : v21 = undef)
      refine hK _ _ ?_; clear hK K
      refine stepN ?_
      refine hQ _ _ ?_
      intro w5 hT hG hF
      have hT5 := hT.undrew
      have rg5 : Row w5 g 184 (arr .u64 (shF f k) 5) := Row.congr (show Row w5 g 184 _ from hF 21 _ rfl rfl (by decide)) (by rw [← shF_step f k (by omega), nw_succ]; rfl)
      have rb5 : Row w5 w.heap.size 31 (W4 d) := K6.Row.tr rb hT5 (by omega)
      have hT9 : Tr (fun c => c = g) w w5 := hT0.trans hT5
      clear hT hG hF hT5 hQ QQ L rb rg hT0 sor s1 s2
      go_wp2_with fail
      go_roundg k
      case measure => omega
      case rel => exact ⟨k, rfl, by omega, by go_num, hT9, rb5, rg5⟩
end Go.Proofs.Ytpdenhmkpiafiaa
