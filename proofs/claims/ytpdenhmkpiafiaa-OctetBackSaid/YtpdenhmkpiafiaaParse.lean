/-
  u256.Parse: the number of a text in digits of ten, or that it is none.
-/
import Derived.Test.YtpdenhmkpiafiaaText
import Derived.Deep.DeepCutAuto
import Derived.Test.YtpdenhmkpiafiaaR6W
namespace Go.Proofs.Ytpdenhmkpiafiaa
open Go Go.RowKit K6

/-- letter i of a text -/
def chr (s : ByteArray) (i : Nat) : Nat := (s.data[i]?.getD 0).toNat
theorem chr_lt (s : ByteArray) (i : Nat) : chr s i < 256 := by unfold chr; exact UInt8.toNat_lt _
/-- the number of the first letters, if they are digits and it is not too great -/
def pAt (s : ByteArray) : Nat → Option Nat
  | 0 => some 0
  | i + 1 => match pAt s i with
    | none => none
    | some v => if 48 ≤ chr s i ∧ chr s i ≤ 57 ∧ v * 10 < M ∧ v * 10 + (chr s i - 48) < M then some (v * 10 + (chr s i - 48)) else none
theorem pAt_none (s : ByteArray) {i : Nat} (h : pAt s i = none) : ∀ k, pAt s (i + k) = none
  | 0 => h
  | k + 1 => by rw [← Nat.add_assoc]; unfold pAt; rw [pAt_none s h k]
def parsN (s : ByteArray) : Option Nat := if s.size = 0 ∨ 78 < s.size ∨ (chr s 0 = 48 ∧ 1 < s.size) then none else pAt s s.size
theorem parsN_bad {s : ByteArray} {i : Nat} (hi : i ≤ s.size) (h : pAt s i = none) : parsN s = none := by
  unfold parsN
  split
  · rfl
  · obtain ⟨k, hk⟩ : ∃ k, s.size = i + k := ⟨s.size - i, by omega⟩
    rw [hk]; exact pAt_none s h k
theorem chr_at (s : ByteArray) (i : Nat) (hi : i < s.size) : s[i].toNat = chr s i := by
  unfold chr
  have h2 : i < s.data.size := hi
  rw [Array.getElem?_eq_getElem h2]
  rfl
theorem toList_len (s : ByteArray) : s.toList.length = s.size := by
  rw [ByteArray.toList_eq]
  exact Array.length_toList
theorem toList_ne {s : ByteArray} (h : s.size ≠ 0) : s.toList.isEmpty = false ∧ s.toList ≠ [] := by
  have : s.toList ≠ [] := by
    intro e
    have he := congrArg List.length e
    rw [toList_len] at he
    exact h he
  exact ⟨by simpa using this, this⟩

set_option maxRecDepth 100000 in
set_option maxHeartbeats 2000000 in
/-- the texts that are none by their length, or by a nought ahead -/
theorem parse_head (s : ByteArray) (hs : s.size = 0 ∨ 78 < s.size ∨ (chr s 0 = 48 ∧ 1 < s.size)) (w : World) : Calls Try.prog 83 #[.string s] w (Pair w 0 false) := by
  have r0 : Row ((w.alloc (.cells #[Value.int .u64 0, Value.int .u64 0, Value.int .u64 0, Value.int .u64 0] 31)).alloc (.cells #[Value.int .u64 0, Value.int .u64 0, Value.int .u64 0, Value.int .u64 0] 31)) w.heap.size 31 #[Value.int .u64 0, Value.int .u64 0, Value.int .u64 0, Value.int .u64 0] := by
    repeat (first | (refine Row.new_at ?_; simp; done) | refine Row.alloc ?_ _)
  by_cases h0 : s.size = 0
  · obtain rfl : s = ⟨#[]⟩ := by
      obtain ⟨d⟩ := s
      exact congrArg _ (Array.eq_empty_of_size_eq_zero h0)
    clear hs
    go_enter Try.func83, Try.ntmps83
    go_wp2_with fail
    all_goals
      refine bodyPost_ret (results_ct rfl aggT31 rfl r0 rfl) rfl ?_
      exact ⟨_, _, _, _, rfl, isW_zero, by go_grown⟩
  · obtain ⟨hE, hE2⟩ := toList_ne h0
    by_cases h1 : 78 < s.size
    · have h2 : (78 : Int) < (s.size : Int) := by omega
      clear hs
      go_enter Try.func83, Try.ntmps83
      go_wp2_with fail
      all_goals
        refine bodyPost_ret (results_ct rfl aggT31 rfl r0 rfl) rfl ?_
        exact ⟨_, _, _, _, rfl, isW_zero, by go_grown⟩
    · have h2 : (s.size : Int) ≤ 78 := by omega
      have h3 : chr s 0 = 48 := by omega
      have h4 : (1 : Int) < (s.size : Int) := by omega
      have h5 : 0 < s.size := by omega
      have h6 : 1 < s.size := by omega
      have h8 : s.size ≤ 78 := by omega
      have h7 := chr_at s 0 h5
      rw [h3] at h7
      clear hs
      go_enter Try.func83, Try.ntmps83
      go_wp2_with fail
      all_goals
        refine bodyPost_ret (results_ct rfl aggT31 rfl r0 rfl) rfl ?_
        exact ⟨_, _, _, _, rfl, isW_zero, by go_grown⟩

theorem head_none (s : ByteArray) (hs : s.size = 0 ∨ 78 < s.size ∨ (chr s 0 = 48 ∧ 1 < s.size)) : parsN s = none := by unfold parsN; rw [if_pos hs]
theorem pAt_bad {s : ByteArray} {i v : Nat} (hv : pAt s i = some v) (h : ¬ (48 ≤ chr s i ∧ chr s i ≤ 57 ∧ v * 10 < M ∧ v * 10 + (chr s i - 48) < M)) : pAt s (i + 1) = none := by
  conv => lhs; unfold pAt
  rw [hv]
  exact if_neg h
theorem pAt_good {s : ByteArray} {i v : Nat} (hv : pAt s i = some v) (h : 48 ≤ chr s i ∧ chr s i ≤ 57 ∧ v * 10 < M ∧ v * 10 + (chr s i - 48) < M) : pAt s (i + 1) = some (v * 10 + (chr s i - 48)) := by
  conv => lhs; unfold pAt
  rw [hv]
  exact if_pos h
theorem pAt_end {s : ByteArray} {i : Nat} (hi : i ≤ s.size) (h : pAt s i = none) : pAt s s.size = none := by
  obtain ⟨k, hk⟩ : ∃ k, s.size = i + k := ⟨s.size - i, by omega⟩
  rw [hk]; exact pAt_none s h k
theorem isW_ten : IsW 10 0 0 0 10 := isW_word (by rfl) (by decide)

set_option maxRecDepth 100000 in
set_option maxHeartbeats 4000000 in
theorem parse_body (s : ByteArray) (h0 : s.size ≠ 0) (h78 : s.size ≤ 78) (hno : chr s 0 ≠ 48 ∨ s.size = 1) (w : World) :
    Calls Try.prog 83 #[.string s] w (Pair w ((pAt s s.size).getD 0) (pAt s s.size).isSome) := by
  obtain ⟨hE, hE2⟩ := toList_ne h0
  have h2 : (s.size : Int) ≤ 78 := by omega
  have h5 : 0 < s.size := by omega
  have h7 := chr_at s 0 h5
  have h10 : ((chr s 0 : Nat) : Int) ≠ 48 ∨ (chr s 0 = 48 ∧ (s.size : Int) ≤ 1) := by omega
  rcases h10 with h11 | ⟨h11, h12⟩
  · have h13 : chr s 0 ≠ 48 := by omega
    clear hno
    go_enter Try.func83, Try.ntmps83
    go_wp2_with fail
    go_loopg [28] s.size (fun gg iv wr => ∃ (i v : Nat) (x0 x1 x2 x3 : Int), i + gg = s.size ∧ iv = .int .i64 (i : Int) ∧ pAt s i = some v ∧ IsW x0 x1 x2 x3 v ∧ w.heap.size + 1 < wr.heap.size ∧ Below w.heap.size w wr ∧
      Row wr w.heap.size 31 (arr .u64 (fun _ => 0) 4) ∧ Row wr (w.heap.size + 1) 31 (arr .u64 (sel4 x0 x1 x2 x3) 4))
    case atStart =>
      refine ⟨0, 0, 0, 0, 0, 0, by omega, rfl, rfl, isW_zero, by simp, by go_grown, ?_, ?_⟩ <;> repeat (first | (refine Row.new_at ?_; simp; done) | refine Row.alloc ?_ _)
    case round =>
      obtain ⟨i, v, x0, x1, x2, x3, hi, rfl, hv, hx, hz, hl, rr, ra⟩ := hrel
      by_cases hlt : i < s.size
      · have hci := chr_at s i hlt
        have hlt2 : (i : Int) < (s.size : Int) := by omega
        have hcl := chr_lt s i
        obtain ⟨⟨c0, c1, c2, c3⟩, _⟩ := ra.four4
        obtain ⟨⟨d0, d1, d2, d3⟩, f0, f1, f2, f3⟩ := rr.four
        have S := Lib.hid (show _ ∧ _ ∧ _ ∧ _ from ⟨rr, ra, hv, hi⟩)
        clear rr ra hv
        by_cases hb : chr s i < 48
        · have hb2 : ((chr s i : Nat) : Int) < 48 := by omega
          go_wp2_with fail
          refine bodyPost_ret (results_ct rfl aggT31 rfl (S.out.1.store4 rfl _ _ _ _) rfl) rfl ?_
          rw [pAt_end (by omega) (pAt_bad S.out.2.2.1 (by omega))]
          exact ⟨_, _, _, _, rfl, isW_zero, by go_grown⟩
        · by_cases hb9 : 57 < chr s i
          · have hb2 : (48 : Int) ≤ ((chr s i : Nat) : Int) := by omega
            have hb3 : (57 : Int) < ((chr s i : Nat) : Int) := by omega
            go_wp2_with fail
            refine bodyPost_ret (results_ct rfl aggT31 rfl (S.out.1.store4 rfl _ _ _ _) rfl) rfl ?_
            rw [pAt_end (by omega) (pAt_bad S.out.2.2.1 (by omega))]
            exact ⟨_, _, _, _, rfl, isW_zero, by go_grown⟩
          · have hb2 : (48 : Int) ≤ ((chr s i : Nat) : Int) := by omega
            have hb3 : ((chr s i : Nat) : Int) ≤ 57 := by omega
            go_wp2_with fail
            refine wp_abs (Mem w [(w.heap.size, 31, arr .u64 (fun _ => 0) 4), (w.heap.size + 1, 31, arr .u64 (sel4 x0 x1 x2 x3) 4)]) ⟨hl, S.out.1, S.out.2.1, trivial⟩ ?_
            intro W0 hM
            obtain ⟨hl0, rr, ra, -⟩ := hM
            let L : List Sp := [sV 1 [] [] (fun u => u = .agg #[.int .u64 10, .int .u64 0, .int .u64 0, .int .u64 0]), sV 2 [] [] (PairV (mulN v 10) (mulB v 10)), sA 6 31 [7] #[.int .u64 0, .int .u64 0, .int .u64 0, .int .u64 0], sT 7 6 31 [4] (fun g => aggOf g 4)]
            refine wp_region_six (shs L) (look6 L) (None_) (by kernel_rfl) (by kernel_rfl) (mk_St L [] [] (by kernel_rfl) (by kernel_rfl) ⟨ok_V ⟨_, rfl⟩, ok_V (pairV_some (mul_lt _ _) _), ok_A, ok_T aggOf_congr, trivial⟩ (by simp)) ?_
            intro QQ hQ
            -- 0: load<31> *t4
            refine stepK rfl (by kernel_rfl) (fun K hK => ?_); go_simp
            apply Exists.intro; apply And.intro; (focus exact kLoad rfl rfl aggT31 ra rfl id); refine hK _ _ ?_; clear hK K
            -- 1: call F103(10u)
            refine stepS _ rfl (by kernel_rfl) (fun K hK => ?_); go_simp
            refine ⟨?_, ?_⟩
            · intro wk hk hg hu; go_simp; refine upon_enter ((of_exact _ _).mono ?_); rintro e w' ⟨rfl, rfl⟩; exact ⟨_, rfl, left_V (p := fun u => u = .agg #[.int .u64 10, .int .u64 0, .int .u64 0, .int .u64 0]) rfl ((Below.refl _ _).alloc (Nat.le_refl _) _) rfl⟩
            rintro ⟨v1, lo1, hi1⟩ - - (rfl : v1 = _)
            refine hK _ _ ?_; clear hK K
            -- 2: call F47(t43, t44)
            refine stepS _ rfl (by kernel_rfl) (fun K hK => ?_); go_simp
            refine ⟨?_, ?_⟩
            · intro wk hk hg hu; go_simp; refine upon_enter ((mul_any _ _ _ _ _ _ _ _ v 10 hx isW_ten _).mono ?_); rintro e w' ⟨y0, y1, y2, y3, rfl, hy, hb⟩; exact ⟨_, rfl, left_V rfl hb ⟨y0, y1, y2, y3, rfl, hy⟩⟩
            rintro ⟨v2, lo2, hi2⟩ - - ⟨y0, y1, y2, y3, rfl, hy⟩
            refine hK _ _ ?_; clear hK K
            -- 3: t45
            refine stepK rfl (by kernel_rfl) (fun K hK => ?_); go_simp
            apply Exists.intro; apply And.intro; (focus (intro wk hk; go_simp; exact ⟨rfl, rfl⟩)); refine hK _ _ ?_; clear hK K
            -- 4: extract t42 #0
            refine stepK rfl (by kernel_rfl) (fun K hK => ?_); go_simp
            apply Exists.intro; apply And.intro; (focus (intro wk hk; go_simp; exact ⟨rfl, rfl⟩)); refine hK _ _ ?_; clear hK K
            -- 5: extract t42 #1
            refine stepK rfl (by kernel_rfl) (fun K hK => ?_); go_simp
            apply Exists.intro; apply And.intro; (focus (intro wk hk; go_simp; exact ⟨rfl, rfl⟩)); refine hK _ _ ?_; clear hK K
            -- 6: alloc<31>
            refine stepS _ rfl (by kernel_rfl) (fun K hK => ?_); go_simp
            refine ⟨?_, ?_⟩
            · intro wk hk hg hu; go_simp; exact left_A rfl rfl
            rintro ⟨v6, lo6, hi6⟩ hlo6 hhi6 ⟨e6, f6⟩
            replace e6 : v6 = .pointer (some ⟨lo6, 0, none⟩) := e6; replace f6 : hi6 = lo6 + 1 := f6; replace hlo6 : _ ≤ lo6 := hlo6; subst e6; subst f6
            refine hK _ _ ?_; clear hK K
            -- 7: store<31> *t6 = t46
            refine stepS _ rfl (by kernel_rfl) (fun K hK => ?_); go_simp
            refine ⟨?_, ?_⟩
            · exact sStoreT rfl rfl rfl rfl rfl rfl rfl (by kernel_rfl) rfl (by kernel_rfl) (by decide) aggOf_congr
            rintro ⟨v7, lo7, hi7⟩ - - (rfl : v7 = undef)
            refine hK _ _ ?_; clear hK K
            -- 8: assign t47
            refine stepK rfl (by kernel_rfl) (fun K hK => ?_); go_simp
            apply Exists.intro; apply And.intro; (focus (intro wk hk; go_simp; exact ⟨rfl, rfl⟩)); refine hK _ _ ?_; clear hK K
            refine stepN ?_
            refine hQ _ _ ?_
            intro w5 hT hG hF
            have hb5 := hT.undrew.below
            have h6 : w.heap.size + 1 + 1 ≤ lo6 := by have := ra.lt; omega
            have rt : Row w5 lo6 31 (arr .u64 (sel4 y0 y1 y2 y3) 4) := (hF 7 _ rfl rfl (by decide)).2
            have hl5 := hl0.trans (hb5.mono hl0.size)
            have rr5 := rr.below hb5 rr.lt
            have ra5 := ra.below hb5 ra.lt
            clear hT hG hF hl0 rr ra hb5 hQ QQ L
            obtain ⟨rr, ra, hv, hi⟩ := S.out
            clear rr ra
            obtain ⟨⟨d0, d1, d2, d3⟩, f0, f1, f2, f3⟩ := rr5.four
            cases hmB : mulB v 10
            · have hnone : pAt s s.size = none := pAt_end (by omega) (pAt_bad hv (by simp [mulB] at hmB; omega))
              have S := Lib.hid (show _ ∧ _ from ⟨hnone, hl5⟩)
              clear hnone
              go_wp2_with fail
              refine bodyPost_ret (results_ct rfl aggT31 rfl (rr5.store4 rfl _ _ _ _) rfl) rfl ?_
              rw [S.out.1]
              exact ⟨_, _, _, _, rfl, isW_zero, by go_grown⟩
            · have hm : v * 10 < M := by simpa [mulB] using hmB
              have hy : IsW y0 y1 y2 y3 (v * 10) := by unfold mulN at hy; rwa [if_pos hm] at hy
              have hd : IntKind.u64.wrap (IntKind.u8.wrap (((chr s i : Nat) : Int) - 48)) = ((chr s i - 48 : Nat) : Int) := by rw [IntKind.wrap_u64, IntKind.wrap_u8']; omega
              go_wp2_with fail
              refine wp_abs (Mem w [(w.heap.size, 31, arr .u64 (fun _ => 0) 4), (w.heap.size + 1, 31, arr .u64 (sel4 x0 x1 x2 x3) 4), (lo6, 31, arr .u64 (sel4 y0 y1 y2 y3) 4)]) ⟨hl5, rr5, ra5, rt, trivial⟩ ?_
              clear hl5 rr5 ra5 rt d0 d1 d2 d3 f0 f1 f2 f3
              intro W1 hM
              obtain ⟨hl5, rr5, ra5, rt, -⟩ := hM
              let L : List Sp := [sV 6 [] [] (OneV (chr s i - 48)), sV 7 [] [] (PairV (addN (v * 10) (chr s i - 48)) (addB (v * 10) (chr s i - 48))), sO 11 (w.heap.size + 1) 31 [9] (fun g => aggOf g 9)]
              refine wp_region_six (shs L) (look6 L) (fun c => c = w.heap.size + 1) (by kernel_rfl) (by kernel_rfl) (mk_St L [11] [11] (by kernel_rfl) (by kernel_rfl) ⟨ok_V (oneV_some (by unfold M; omega)), ok_V (pairV_some (add_lt _ _) _), ok_O aggOf_congr ra5.lt (rfl), trivial⟩ (by simp)) ?_
              intro QQ hQ
              -- 0: load<31> *t6
              refine stepK rfl (by kernel_rfl) (fun K hK => ?_); go_simp
              apply Exists.intro; apply And.intro; (focus exact kLoad rfl rfl aggT31 rt rfl id); refine hK _ _ ?_; clear hK K
              -- 1: t0
              refine stepK rfl (by kernel_rfl) (fun K hK => ?_); go_simp
              apply Exists.intro; apply And.intro; (focus (intro wk hk; go_simp; exact ⟨rfl, rfl⟩)); refine hK _ _ ?_; clear hK K
              -- 2: t5
              refine stepK rfl (by kernel_rfl) (fun K hK => ?_); go_simp
              apply Exists.intro; apply And.intro; (focus (intro wk hk; go_simp; exact ⟨rfl, rfl⟩)); refine hK _ _ ?_; clear hK K
              -- 3: index<9> t53[t54]
              refine stepK rfl (by kernel_rfl) (fun K hK => ?_); go_simp
              apply Exists.intro; apply And.intro; (focus (intro wk hk; go_simp; exact ⟨rfl, rfl⟩)); refine hK _ _ ?_; clear hK K
              -- 4: sub<5> t55, 48b
              refine stepK rfl (by kernel_rfl) (fun K hK => ?_); go_simp
              apply Exists.intro; apply And.intro; (focus (intro wk hk; go_simp; exact ⟨rfl, rfl⟩)); refine hK _ _ ?_; clear hK K
              -- 5: convert<5->29> t56
              refine stepK rfl (by kernel_rfl) (fun K hK => ?_); go_simp
              apply Exists.intro; apply And.intro; (focus (intro wk hk; go_simp; exact ⟨rfl, rfl⟩)); refine hK _ _ ?_; clear hK K
              -- 6: call F103(t57)
              refine stepS _ rfl (by kernel_rfl) (fun K hK => ?_); go_simp
              refine ⟨?_, ?_⟩
              · intro wk hk hg hu; go_simp; refine upon_enter ((of_any _ (chr s i - 48) rfl (by omega) _).mono ?_); rintro e w' ⟨d0, d1, d2, d3, rfl, hd, hb⟩; exact ⟨_, rfl, left_V rfl hb ⟨d0, d1, d2, d3, rfl, hd⟩⟩
              rintro ⟨v6, lo6, hi6⟩ - - ⟨d0, d1, d2, d3, rfl, hd⟩
              refine hK _ _ ?_; clear hK K
              -- 7: call F46(t52, t58)
              refine stepS _ rfl (by kernel_rfl) (fun K hK => ?_); go_simp
              refine ⟨?_, ?_⟩
              · intro wk hk hg hu; go_simp; refine upon_enter ((add_any _ _ _ _ _ _ _ _ (v * 10) (chr s i - 48) hy hd _).mono ?_); rintro e w' ⟨z0, z1, z2, z3, rfl, hz, hb⟩; exact ⟨_, rfl, left_V rfl hb ⟨z0, z1, z2, z3, rfl, hz⟩⟩
              rintro ⟨v7, lo7, hi7⟩ - - ⟨z0, z1, z2, z3, rfl, hz⟩
              refine hK _ _ ?_; clear hK K
              -- 8: t59
              refine stepK rfl (by kernel_rfl) (fun K hK => ?_); go_simp
              apply Exists.intro; apply And.intro; (focus (intro wk hk; go_simp; exact ⟨rfl, rfl⟩)); refine hK _ _ ?_; clear hK K
              -- 9: extract t51 #0
              refine stepK rfl (by kernel_rfl) (fun K hK => ?_); go_simp
              apply Exists.intro; apply And.intro; (focus (intro wk hk; go_simp; exact ⟨rfl, rfl⟩)); refine hK _ _ ?_; clear hK K
              -- 10: extract t51 #1
              refine stepKz rfl (fun K hK => ?_); go_simp
              apply Exists.intro; apply And.intro; (focus (intro wk hk; go_simp; exact ⟨rfl, rfl⟩)); refine hK _ _ ?_; clear hK K
              -- 11: store<31> *t4 = t60
              refine stepS _ rfl (by kernel_rfl) (fun K hK => ?_); go_simp
              refine ⟨?_, ?_⟩
              · exact sStoreO rfl rfl rfl rfl rfl rfl ra5 id (by kernel_rfl) rfl (by kernel_rfl) (by decide) aggOf_congr
              rintro ⟨v11, lo11, hi11⟩ - - (rfl : v11 = undef)
              refine hK _ _ ?_; clear hK K
              -- 12: assign t61
              refine stepKz rfl (fun K hK => ?_); go_simp
              apply Exists.intro; apply And.intro; (focus (intro wk hk; go_simp; exact ⟨rfl, rfl⟩)); refine hK _ _ ?_; clear hK K
              refine stepN ?_
              refine hQ _ _ ?_
              intro w6 hT hG hF
              have hT' := hT.undrew
              have z5 := hl5.size
              have hl6 : Below w.heap.size w w6 := hl5.trans (hT'.below_of (Nat.le_trans (Nat.le_refl _) z5) (by intro c hc; omega))
              have rr6 : Row w6 w.heap.size 31 (arr .u64 (fun _ => 0) 4) := K6.Row.tr rr5 hT' (by omega)
              have ra6 : Row w6 (w.heap.size + 1) 31 (arr .u64 (sel4 z0 z1 z2 z3) 4) := hF 11 _ rfl rfl (by decide)
              have z6 := hT'.size
              have z7 := ra5.lt
              clear hT hT' hG hF hl5 rr5 ra5 rt hQ QQ L
              obtain ⟨⟨d0, d1, d2, d3⟩, f0, f1, f2, f3⟩ := rr6.four
              cases haB : addB (v * 10) (chr s i - 48)
              · have hnone : pAt s s.size = none := pAt_end (by omega) (pAt_bad hv (by simp [addB] at haB; omega))
                have S := Lib.hid (show _ from hnone)
                clear hnone
                go_wp2_with fail
                refine bodyPost_ret (results_ct rfl aggT31 rfl (rr6.store4 rfl _ _ _ _) rfl) rfl ?_
                rw [S.out]
                exact ⟨_, _, _, _, rfl, isW_zero, by go_grown⟩
              · have ha10 : v * 10 + (chr s i - 48) < M := by simpa [addB] using haB
                have hz' : IsW z0 z1 z2 z3 (v * 10 + (chr s i - 48)) := by unfold addN at hz; rwa [if_pos ha10] at hz
                have hgood := pAt_good hv ⟨by omega, by omega, hm, ha10⟩
                have S := Lib.hid (show _ ∧ _ ∧ _ ∧ _ ∧ _ ∧ _ from ⟨hgood, hz', rr6, ra6, hl6, hi⟩)
                clear hgood hz' rr6 ra6 hi hv
                go_wp2_with fail
                go_roundg (gk - 1)
                case measure => have := S.out.2.2.2.2.2; omega
                case rel =>
                  obtain ⟨hgood, hz', rr6, ra6, hl6, hi⟩ := S.out
                  exact ⟨i + 1, _, z0, z1, z2, z3, by omega, by go_num, hgood, hz', by omega, hl6, rr6, ra6⟩
      · obtain rfl : i = s.size := by omega
        obtain ⟨⟨c0, c1, c2, c3⟩, _⟩ := ra.four4
        obtain ⟨⟨d0, d1, d2, d3⟩, f0, f1, f2, f3⟩ := rr.four
        have S := Lib.hid (show _ ∧ _ from ⟨rr, hv⟩)
        clear rr ra hv
        go_wp2_with fail
        refine bodyPost_ret (results_ct rfl aggT31 rfl (S.out.1.store4 rfl _ _ _ _) rfl) rfl ?_
        rw [S.out.2]
        exact ⟨x0, x1, x2, x3, rfl, hx, by go_grown⟩
  · rw [h11] at h7
    have h13 := h11
    clear h11
    clear hno
    go_enter Try.func83, Try.ntmps83
    go_wp2_with fail
    go_loopg [28] s.size (fun gg iv wr => ∃ (i v : Nat) (x0 x1 x2 x3 : Int), i + gg = s.size ∧ iv = .int .i64 (i : Int) ∧ pAt s i = some v ∧ IsW x0 x1 x2 x3 v ∧ w.heap.size + 1 < wr.heap.size ∧ Below w.heap.size w wr ∧
      Row wr w.heap.size 31 (arr .u64 (fun _ => 0) 4) ∧ Row wr (w.heap.size + 1) 31 (arr .u64 (sel4 x0 x1 x2 x3) 4))
    case atStart =>
      refine ⟨0, 0, 0, 0, 0, 0, by omega, rfl, rfl, isW_zero, by simp, by go_grown, ?_, ?_⟩ <;> repeat (first | (refine Row.new_at ?_; simp; done) | refine Row.alloc ?_ _)
    case round =>
      obtain ⟨i, v, x0, x1, x2, x3, hi, rfl, hv, hx, hz, hl, rr, ra⟩ := hrel
      by_cases hlt : i < s.size
      · have hci := chr_at s i hlt
        have hlt2 : (i : Int) < (s.size : Int) := by omega
        have hcl := chr_lt s i
        obtain ⟨⟨c0, c1, c2, c3⟩, _⟩ := ra.four4
        obtain ⟨⟨d0, d1, d2, d3⟩, f0, f1, f2, f3⟩ := rr.four
        have S := Lib.hid (show _ ∧ _ ∧ _ ∧ _ from ⟨rr, ra, hv, hi⟩)
        clear rr ra hv
        by_cases hb : chr s i < 48
        · have hb2 : ((chr s i : Nat) : Int) < 48 := by omega
          go_wp2_with fail
          refine bodyPost_ret (results_ct rfl aggT31 rfl (S.out.1.store4 rfl _ _ _ _) rfl) rfl ?_
          rw [pAt_end (by omega) (pAt_bad S.out.2.2.1 (by omega))]
          exact ⟨_, _, _, _, rfl, isW_zero, by go_grown⟩
        · by_cases hb9 : 57 < chr s i
          · have hb2 : (48 : Int) ≤ ((chr s i : Nat) : Int) := by omega
            have hb3 : (57 : Int) < ((chr s i : Nat) : Int) := by omega
            go_wp2_with fail
            refine bodyPost_ret (results_ct rfl aggT31 rfl (S.out.1.store4 rfl _ _ _ _) rfl) rfl ?_
            rw [pAt_end (by omega) (pAt_bad S.out.2.2.1 (by omega))]
            exact ⟨_, _, _, _, rfl, isW_zero, by go_grown⟩
          · have hb2 : (48 : Int) ≤ ((chr s i : Nat) : Int) := by omega
            have hb3 : ((chr s i : Nat) : Int) ≤ 57 := by omega
            go_wp2_with fail
            refine wp_abs (Mem w [(w.heap.size, 31, arr .u64 (fun _ => 0) 4), (w.heap.size + 1, 31, arr .u64 (sel4 x0 x1 x2 x3) 4)]) ⟨hl, S.out.1, S.out.2.1, trivial⟩ ?_
            intro W0 hM
            obtain ⟨hl0, rr, ra, -⟩ := hM
            let L : List Sp := [sV 1 [] [] (fun u => u = .agg #[.int .u64 10, .int .u64 0, .int .u64 0, .int .u64 0]), sV 2 [] [] (PairV (mulN v 10) (mulB v 10)), sA 6 31 [7] #[.int .u64 0, .int .u64 0, .int .u64 0, .int .u64 0], sT 7 6 31 [4] (fun g => aggOf g 4)]
            refine wp_region_six (shs L) (look6 L) (None_) (by kernel_rfl) (by kernel_rfl) (mk_St L [] [] (by kernel_rfl) (by kernel_rfl) ⟨ok_V ⟨_, rfl⟩, ok_V (pairV_some (mul_lt _ _) _), ok_A, ok_T aggOf_congr, trivial⟩ (by simp)) ?_
            intro QQ hQ
            -- 0: load<31> *t4
            refine stepK rfl (by kernel_rfl) (fun K hK => ?_); go_simp
            apply Exists.intro; apply And.intro; (focus exact kLoad rfl rfl aggT31 ra rfl id); refine hK _ _ ?_; clear hK K
            -- 1: call F103(10u)
            refine stepS _ rfl (by kernel_rfl) (fun K hK => ?_); go_simp
            refine ⟨?_, ?_⟩
            · intro wk hk hg hu; go_simp; refine upon_enter ((of_exact _ _).mono ?_); rintro e w' ⟨rfl, rfl⟩; exact ⟨_, rfl, left_V (p := fun u => u = .agg #[.int .u64 10, .int .u64 0, .int .u64 0, .int .u64 0]) rfl ((Below.refl _ _).alloc (Nat.le_refl _) _) rfl⟩
            rintro ⟨v1, lo1, hi1⟩ - - (rfl : v1 = _)
            refine hK _ _ ?_; clear hK K
            -- 2: call F47(t43, t44)
            refine stepS _ rfl (by kernel_rfl) (fun K hK => ?_); go_simp
            refine ⟨?_, ?_⟩
            · intro wk hk hg hu; go_simp; refine upon_enter ((mul_any _ _ _ _ _ _ _ _ v 10 hx isW_ten _).mono ?_); rintro e w' ⟨y0, y1, y2, y3, rfl, hy, hb⟩; exact ⟨_, rfl, left_V rfl hb ⟨y0, y1, y2, y3, rfl, hy⟩⟩
            rintro ⟨v2, lo2, hi2⟩ - - ⟨y0, y1, y2, y3, rfl, hy⟩
            refine hK _ _ ?_; clear hK K
            -- 3: t45
            refine stepK rfl (by kernel_rfl) (fun K hK => ?_); go_simp
            apply Exists.intro; apply And.intro; (focus (intro wk hk; go_simp; exact ⟨rfl, rfl⟩)); refine hK _ _ ?_; clear hK K
            -- 4: extract t42 #0
            refine stepK rfl (by kernel_rfl) (fun K hK => ?_); go_simp
            apply Exists.intro; apply And.intro; (focus (intro wk hk; go_simp; exact ⟨rfl, rfl⟩)); refine hK _ _ ?_; clear hK K
            -- 5: extract t42 #1
            refine stepK rfl (by kernel_rfl) (fun K hK => ?_); go_simp
            apply Exists.intro; apply And.intro; (focus (intro wk hk; go_simp; exact ⟨rfl, rfl⟩)); refine hK _ _ ?_; clear hK K
            -- 6: alloc<31>
            refine stepS _ rfl (by kernel_rfl) (fun K hK => ?_); go_simp
            refine ⟨?_, ?_⟩
            · intro wk hk hg hu; go_simp; exact left_A rfl rfl
            rintro ⟨v6, lo6, hi6⟩ hlo6 hhi6 ⟨e6, f6⟩
            replace e6 : v6 = .pointer (some ⟨lo6, 0, none⟩) := e6; replace f6 : hi6 = lo6 + 1 := f6; replace hlo6 : _ ≤ lo6 := hlo6; subst e6; subst f6
            refine hK _ _ ?_; clear hK K
            -- 7: store<31> *t6 = t46
            refine stepS _ rfl (by kernel_rfl) (fun K hK => ?_); go_simp
            refine ⟨?_, ?_⟩
            · exact sStoreT rfl rfl rfl rfl rfl rfl rfl (by kernel_rfl) rfl (by kernel_rfl) (by decide) aggOf_congr
            rintro ⟨v7, lo7, hi7⟩ - - (rfl : v7 = undef)
            refine hK _ _ ?_; clear hK K
            -- 8: assign t47
            refine stepK rfl (by kernel_rfl) (fun K hK => ?_); go_simp
            apply Exists.intro; apply And.intro; (focus (intro wk hk; go_simp; exact ⟨rfl, rfl⟩)); refine hK _ _ ?_; clear hK K
            refine stepN ?_
            refine hQ _ _ ?_
            intro w5 hT hG hF
            have hb5 := hT.undrew.below
            have h6 : w.heap.size + 1 + 1 ≤ lo6 := by have := ra.lt; omega
            have rt : Row w5 lo6 31 (arr .u64 (sel4 y0 y1 y2 y3) 4) := (hF 7 _ rfl rfl (by decide)).2
            have hl5 := hl0.trans (hb5.mono hl0.size)
            have rr5 := rr.below hb5 rr.lt
            have ra5 := ra.below hb5 ra.lt
            clear hT hG hF hl0 rr ra hb5 hQ QQ L
            obtain ⟨rr, ra, hv, hi⟩ := S.out
            clear rr ra
            obtain ⟨⟨d0, d1, d2, d3⟩, f0, f1, f2, f3⟩ := rr5.four
            cases hmB : mulB v 10
            · have hnone : pAt s s.size = none := pAt_end (by omega) (pAt_bad hv (by simp [mulB] at hmB; omega))
              have S := Lib.hid (show _ ∧ _ from ⟨hnone, hl5⟩)
              clear hnone
              go_wp2_with fail
              refine bodyPost_ret (results_ct rfl aggT31 rfl (rr5.store4 rfl _ _ _ _) rfl) rfl ?_
              rw [S.out.1]
              exact ⟨_, _, _, _, rfl, isW_zero, by go_grown⟩
            · have hm : v * 10 < M := by simpa [mulB] using hmB
              have hy : IsW y0 y1 y2 y3 (v * 10) := by unfold mulN at hy; rwa [if_pos hm] at hy
              have hd : IntKind.u64.wrap (IntKind.u8.wrap (((chr s i : Nat) : Int) - 48)) = ((chr s i - 48 : Nat) : Int) := by rw [IntKind.wrap_u64, IntKind.wrap_u8']; omega
              go_wp2_with fail
              refine wp_abs (Mem w [(w.heap.size, 31, arr .u64 (fun _ => 0) 4), (w.heap.size + 1, 31, arr .u64 (sel4 x0 x1 x2 x3) 4), (lo6, 31, arr .u64 (sel4 y0 y1 y2 y3) 4)]) ⟨hl5, rr5, ra5, rt, trivial⟩ ?_
              clear hl5 rr5 ra5 rt d0 d1 d2 d3 f0 f1 f2 f3
              intro W1 hM
              obtain ⟨hl5, rr5, ra5, rt, -⟩ := hM
              let L : List Sp := [sV 6 [] [] (OneV (chr s i - 48)), sV 7 [] [] (PairV (addN (v * 10) (chr s i - 48)) (addB (v * 10) (chr s i - 48))), sO 11 (w.heap.size + 1) 31 [9] (fun g => aggOf g 9)]
              refine wp_region_six (shs L) (look6 L) (fun c => c = w.heap.size + 1) (by kernel_rfl) (by kernel_rfl) (mk_St L [11] [11] (by kernel_rfl) (by kernel_rfl) ⟨ok_V (oneV_some (by unfold M; omega)), ok_V (pairV_some (add_lt _ _) _), ok_O aggOf_congr ra5.lt (rfl), trivial⟩ (by simp)) ?_
              intro QQ hQ
              -- 0: load<31> *t6
              refine stepK rfl (by kernel_rfl) (fun K hK => ?_); go_simp
              apply Exists.intro; apply And.intro; (focus exact kLoad rfl rfl aggT31 rt rfl id); refine hK _ _ ?_; clear hK K
              -- 1: t0
              refine stepK rfl (by kernel_rfl) (fun K hK => ?_); go_simp
              apply Exists.intro; apply And.intro; (focus (intro wk hk; go_simp; exact ⟨rfl, rfl⟩)); refine hK _ _ ?_; clear hK K
              -- 2: t5
              refine stepK rfl (by kernel_rfl) (fun K hK => ?_); go_simp
              apply Exists.intro; apply And.intro; (focus (intro wk hk; go_simp; exact ⟨rfl, rfl⟩)); refine hK _ _ ?_; clear hK K
              -- 3: index<9> t53[t54]
              refine stepK rfl (by kernel_rfl) (fun K hK => ?_); go_simp
              apply Exists.intro; apply And.intro; (focus (intro wk hk; go_simp; exact ⟨rfl, rfl⟩)); refine hK _ _ ?_; clear hK K
              -- 4: sub<5> t55, 48b
              refine stepK rfl (by kernel_rfl) (fun K hK => ?_); go_simp
              apply Exists.intro; apply And.intro; (focus (intro wk hk; go_simp; exact ⟨rfl, rfl⟩)); refine hK _ _ ?_; clear hK K
              -- 5: convert<5->29> t56
              refine stepK rfl (by kernel_rfl) (fun K hK => ?_); go_simp
              apply Exists.intro; apply And.intro; (focus (intro wk hk; go_simp; exact ⟨rfl, rfl⟩)); refine hK _ _ ?_; clear hK K
              -- 6: call F103(t57)
              refine stepS _ rfl (by kernel_rfl) (fun K hK => ?_); go_simp
              refine ⟨?_, ?_⟩
              · intro wk hk hg hu; go_simp; refine upon_enter ((of_any _ (chr s i - 48) rfl (by omega) _).mono ?_); rintro e w' ⟨d0, d1, d2, d3, rfl, hd, hb⟩; exact ⟨_, rfl, left_V rfl hb ⟨d0, d1, d2, d3, rfl, hd⟩⟩
              rintro ⟨v6, lo6, hi6⟩ - - ⟨d0, d1, d2, d3, rfl, hd⟩
              refine hK _ _ ?_; clear hK K
              -- 7: call F46(t52, t58)
              refine stepS _ rfl (by kernel_rfl) (fun K hK => ?_); go_simp
              refine ⟨?_, ?_⟩
              · intro wk hk hg hu; go_simp; refine upon_enter ((add_any _ _ _ _ _ _ _ _ (v * 10) (chr s i - 48) hy hd _).mono ?_); rintro e w' ⟨z0, z1, z2, z3, rfl, hz, hb⟩; exact ⟨_, rfl, left_V rfl hb ⟨z0, z1, z2, z3, rfl, hz⟩⟩
              rintro ⟨v7, lo7, hi7⟩ - - ⟨z0, z1, z2, z3, rfl, hz⟩
              refine hK _ _ ?_; clear hK K
              -- 8: t59
              refine stepK rfl (by kernel_rfl) (fun K hK => ?_); go_simp
              apply Exists.intro; apply And.intro; (focus (intro wk hk; go_simp; exact ⟨rfl, rfl⟩)); refine hK _ _ ?_; clear hK K
              -- 9: extract t51 #0
              refine stepK rfl (by kernel_rfl) (fun K hK => ?_); go_simp
              apply Exists.intro; apply And.intro; (focus (intro wk hk; go_simp; exact ⟨rfl, rfl⟩)); refine hK _ _ ?_; clear hK K
              -- 10: extract t51 #1
              refine stepKz rfl (fun K hK => ?_); go_simp
              apply Exists.intro; apply And.intro; (focus (intro wk hk; go_simp; exact ⟨rfl, rfl⟩)); refine hK _ _ ?_; clear hK K
              -- 11: store<31> *t4 = t60
              refine stepS _ rfl (by kernel_rfl) (fun K hK => ?_); go_simp
              refine ⟨?_, ?_⟩
              · exact sStoreO rfl rfl rfl rfl rfl rfl ra5 id (by kernel_rfl) rfl (by kernel_rfl) (by decide) aggOf_congr
              rintro ⟨v11, lo11, hi11⟩ - - (rfl : v11 = undef)
              refine hK _ _ ?_; clear hK K
              -- 12: assign t61
              refine stepKz rfl (fun K hK => ?_); go_simp
              apply Exists.intro; apply And.intro; (focus (intro wk hk; go_simp; exact ⟨rfl, rfl⟩)); refine hK _ _ ?_; clear hK K
              refine stepN ?_
              refine hQ _ _ ?_
              intro w6 hT hG hF
              have hT' := hT.undrew
              have z5 := hl5.size
              have hl6 : Below w.heap.size w w6 := hl5.trans (hT'.below_of (Nat.le_trans (Nat.le_refl _) z5) (by intro c hc; omega))
              have rr6 : Row w6 w.heap.size 31 (arr .u64 (fun _ => 0) 4) := K6.Row.tr rr5 hT' (by omega)
              have ra6 : Row w6 (w.heap.size + 1) 31 (arr .u64 (sel4 z0 z1 z2 z3) 4) := hF 11 _ rfl rfl (by decide)
              have z6 := hT'.size
              have z7 := ra5.lt
              clear hT hT' hG hF hl5 rr5 ra5 rt hQ QQ L
              obtain ⟨⟨d0, d1, d2, d3⟩, f0, f1, f2, f3⟩ := rr6.four
              cases haB : addB (v * 10) (chr s i - 48)
              · have hnone : pAt s s.size = none := pAt_end (by omega) (pAt_bad hv (by simp [addB] at haB; omega))
                have S := Lib.hid (show _ from hnone)
                clear hnone
                go_wp2_with fail
                refine bodyPost_ret (results_ct rfl aggT31 rfl (rr6.store4 rfl _ _ _ _) rfl) rfl ?_
                rw [S.out]
                exact ⟨_, _, _, _, rfl, isW_zero, by go_grown⟩
              · have ha10 : v * 10 + (chr s i - 48) < M := by simpa [addB] using haB
                have hz' : IsW z0 z1 z2 z3 (v * 10 + (chr s i - 48)) := by unfold addN at hz; rwa [if_pos ha10] at hz
                have hgood := pAt_good hv ⟨by omega, by omega, hm, ha10⟩
                have S := Lib.hid (show _ ∧ _ ∧ _ ∧ _ ∧ _ ∧ _ from ⟨hgood, hz', rr6, ra6, hl6, hi⟩)
                clear hgood hz' rr6 ra6 hi hv
                go_wp2_with fail
                go_roundg (gk - 1)
                case measure => have := S.out.2.2.2.2.2; omega
                case rel =>
                  obtain ⟨hgood, hz', rr6, ra6, hl6, hi⟩ := S.out
                  exact ⟨i + 1, _, z0, z1, z2, z3, by omega, by go_num, hgood, hz', by omega, hl6, rr6, ra6⟩
      · obtain rfl : i = s.size := by omega
        obtain ⟨⟨c0, c1, c2, c3⟩, _⟩ := ra.four4
        obtain ⟨⟨d0, d1, d2, d3⟩, f0, f1, f2, f3⟩ := rr.four
        have S := Lib.hid (show _ ∧ _ from ⟨rr, hv⟩)
        clear rr ra hv
        go_wp2_with fail
        refine bodyPost_ret (results_ct rfl aggT31 rfl (S.out.1.store4 rfl _ _ _ _) rfl) rfl ?_
        rw [S.out.2]
        exact ⟨x0, x1, x2, x3, rfl, hx, by go_grown⟩

/-- THE CONTRACT -/
theorem parse_any (s : ByteArray) (w : World) : Calls Try.prog 83 #[.string s] w (Pair w ((parsN s).getD 0) (parsN s).isSome) := by
  by_cases hs : s.size = 0 ∨ 78 < s.size ∨ (chr s 0 = 48 ∧ 1 < s.size)
  · rw [head_none s hs]; exact parse_head s hs w
  · have e : parsN s = pAt s s.size := by unfold parsN; rw [if_neg hs]
    rw [e]
    exact parse_body s (by omega) (by omega) (by omega) w
end Go.Proofs.Ytpdenhmkpiafiaa
