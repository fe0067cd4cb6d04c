/-
  muldiv.Down, muldiv.Up: a product divided, rounded down and up.
-/
import Derived.Test.YtpdenhmkpiafiaaMQuo
namespace Go.Proofs.Ytpdenhmkpiafiaa
open Go Go.RowKit K6

theorem quoN_lt (n d : Nat) : quoN n d < M := by
  unfold quoN; split
  · rename_i h; exact h.2
  · exact M_pos
theorem remN_lt {d : Nat} (n : Nat) (hd : d < M) : remN n d < M := by
  unfold remN; split
  · rename_i h; exact Nat.lt_trans (Nat.mod_lt _ (Nat.pos_of_ne_zero h.1)) hd
  · exact M_pos
theorem quoP {a b d : Nat} (ha : a < M) (hb : b < M) (hd : d < M) (w : World) : Calls Try.prog 92 #[.agg (W8 (a * b / M) (a * b % M)), .agg (W4 d)] w (Ret w (.tuple #[.agg (W4 (quoN (a * b) d)), .agg (W4 (remN (a * b) d)), .bool (quoB (a * b) d)])) := by
  have h1 : a * b / M < M := by
    rw [Nat.div_lt_iff_lt_mul M_pos]
    exact Nat.lt_of_le_of_lt (Nat.mul_le_mul_left a (Nat.le_of_lt hb)) (Nat.mul_lt_mul_of_pos_right ha M_pos)
  have := mquo_any h1 (Nat.mod_lt (a * b) M_pos) hd w
  rwa [show a * b / M * M + a * b % M = a * b by rw [Nat.mul_comm]; exact Nat.div_add_mod _ _] at this

set_option maxRecDepth 100000 in
set_option maxHeartbeats 8000000 in
theorem downU {a b d : Nat} (ha : a < M) (hb : b < M) (hd : d < M) (w : World) : Calls Try.prog 85 #[.agg (W4 a), .agg (W4 b), .agg (W4 d)] w (Ret w (.tuple #[.agg (W4 (quoN (a * b) d)), .bool (quoB (a * b) d)])) := by
  have qd := fun wx => quoP ha hb hd wx
  obtain ⟨q, hq⟩ : ∃ q, q = quoN (a * b) d := ⟨_, rfl⟩
  obtain ⟨r, hr⟩ : ∃ r, r = remN (a * b) d := ⟨_, rfl⟩
  obtain ⟨ok, ho⟩ : ∃ ok, ok = quoB (a * b) d := ⟨_, rfl⟩
  rw [← hq, ← hr, ← ho] at qd
  rw [← hq, ← ho]
  clear hq hr ho
  go_enter Try.func85, Try.ntmps85
  apply wp_seq_eq
  focus
    intro J hJ
    go_wp2_with fail
    exact hJ
  refine wp_abs (Mem w [(w.heap.size, 31, W4 a), (w.heap.size + 1, 31, W4 b), (w.heap.size + 1 + 1, 31, W4 d), (w.heap.size + 1 + 1 + 1, 31, arr .u64 (fun _ => 0) 4)]) ⟨by go_grown, ?_, ?_, ?_, ?_, trivial⟩ ?_
  · repeat (first | (refine Row.new_at ?_; simp; done) | refine Row.alloc ?_ _)
  · repeat (first | (refine Row.new_at ?_; simp; done) | refine Row.alloc ?_ _)
  · repeat (first | (refine Row.new_at ?_; simp; done) | refine Row.alloc ?_ _)
  · repeat (first | (refine Row.new_at ?_; simp; done) | refine Row.alloc ?_ _)
  intro w0 hM
  obtain ⟨hl, ra, rb, rd, rr, -⟩ := hM
  go_upto_region 1 with (fail)
  let L : List Sp := [sV 2 [] [] (fun u => u = .agg (W8 (a * b / M) (a * b % M))), sV 4 [] [] (fun u => u = .tuple #[.agg (W4 (q)), .agg (W4 (r)), .bool ok]), sA 9 31 [11] #[.int .u64 0, .int .u64 0, .int .u64 0, .int .u64 0], sA 10 31 [12] #[.int .u64 0, .int .u64 0, .int .u64 0, .int .u64 0], sT 11 9 31 [6] (fun g => aggOf g 6), sT 12 10 31 [7] (fun g => aggOf g 7)]
  refine wp_region_six (shs L) (look6 L) (None_) (by kernel_rfl) (by kernel_rfl) (mk_St L [] [] (by kernel_rfl) (by kernel_rfl) ⟨ok_V ⟨_, rfl⟩, ok_V ⟨_, rfl⟩, ok_A, ok_A, ok_T aggOf_congr, ok_T aggOf_congr, trivial⟩ (by simp)) ?_
  intro QQ hQ
  -- 0: load<31> *t3
  refine stepK rfl (by kernel_rfl) (fun K hK => ?_); go_simp
  apply Exists.intro; apply And.intro; (focus exact kLoad rfl rfl aggT31 ra rfl id); refine hK _ _ ?_; clear hK K
  -- 1: load<31> *t4
  refine stepK rfl (by kernel_rfl) (fun K hK => ?_); go_simp
  apply Exists.intro; apply And.intro; (focus exact kLoad rfl rfl aggT31 rb rfl id); refine hK _ _ ?_; clear hK K
  -- 2: call F89(t12, t13)
  refine stepS _ rfl (by kernel_rfl) (fun K hK => ?_); go_simp
  refine ⟨?_, ?_⟩
  · intro wk hk hg hu; go_simp; refine upon_enter ((mmulU ha hb _).mono ?_); rintro e w' ⟨rfl, hb⟩; exact ⟨_, rfl, left_V (p := fun u => u = .agg (W8 (a * b / M) (a * b % M))) rfl (hb) rfl⟩
  rintro ⟨v2, lo2, hi2⟩ - - (rfl : v2 = _)
  refine hK _ _ ?_; clear hK K
  -- 3: load<31> *t5
  refine stepK rfl (by kernel_rfl) (fun K hK => ?_); go_simp
  apply Exists.intro; apply And.intro; (focus exact kLoad rfl rfl aggT31 rd rfl id); refine hK _ _ ?_; clear hK K
  -- 4: call F92(t14, t15)
  refine stepS _ rfl (by kernel_rfl) (fun K hK => ?_); go_simp
  refine ⟨?_, ?_⟩
  · intro wk hk hg hu; go_simp; refine upon_enter ((qd _).mono ?_); rintro e w' ⟨rfl, hb⟩; exact ⟨_, rfl, left_V (p := fun u => u = .tuple #[.agg (W4 (q)), .agg (W4 (r)), .bool ok]) rfl (hb) rfl⟩
  rintro ⟨v4, lo4, hi4⟩ - - (rfl : v4 = _)
  refine hK _ _ ?_; clear hK K
  -- 5: t16
  refine stepK rfl (by kernel_rfl) (fun K hK => ?_); go_simp
  apply Exists.intro; apply And.intro; (focus (intro wk hk; go_simp; exact ⟨rfl, rfl⟩)); refine hK _ _ ?_; clear hK K
  -- 6: extract t11 #0
  refine stepK rfl (by kernel_rfl) (fun K hK => ?_); go_simp
  apply Exists.intro; apply And.intro; (focus (intro wk hk; go_simp; exact ⟨rfl, rfl⟩)); refine hK _ _ ?_; clear hK K
  -- 7: extract t11 #1
  refine stepK rfl (by kernel_rfl) (fun K hK => ?_); go_simp
  apply Exists.intro; apply And.intro; (focus (intro wk hk; go_simp; exact ⟨rfl, rfl⟩)); refine hK _ _ ?_; clear hK K
  -- 8: extract t11 #2
  refine stepK rfl (by kernel_rfl) (fun K hK => ?_); go_simp
  apply Exists.intro; apply And.intro; (focus (intro wk hk; go_simp; exact ⟨rfl, rfl⟩)); refine hK _ _ ?_; clear hK K
  -- 9: alloc<31>
  refine stepS _ rfl (by kernel_rfl) (fun K hK => ?_); go_simp
  refine ⟨?_, ?_⟩
  · intro wk hk hg hu; go_simp; exact left_A rfl rfl
  rintro ⟨v9, lo9, hi9⟩ hlo9 hhi9 ⟨e9, f9⟩
  replace e9 : v9 = .pointer (some ⟨lo9, 0, none⟩) := e9; replace f9 : hi9 = lo9 + 1 := f9; replace hlo9 : _ ≤ lo9 := hlo9; subst e9; subst f9
  refine hK _ _ ?_; clear hK K
  -- 10: alloc<31>
  refine stepS _ rfl (by kernel_rfl) (fun K hK => ?_); go_simp
  refine ⟨?_, ?_⟩
  · intro wk hk hg hu; go_simp; exact left_A rfl rfl
  rintro ⟨v10, lo10, hi10⟩ hlo10 hhi10 ⟨e10, f10⟩
  replace e10 : v10 = .pointer (some ⟨lo10, 0, none⟩) := e10; replace f10 : hi10 = lo10 + 1 := f10; replace hlo10 : _ ≤ lo10 := hlo10; subst e10; subst f10
  refine hK _ _ ?_; clear hK K
  -- 11: store<31> *t8 = t17
  refine stepS _ rfl (by kernel_rfl) (fun K hK => ?_); go_simp
  refine ⟨?_, ?_⟩
  · exact sStoreT rfl rfl rfl rfl rfl rfl rfl (by kernel_rfl) rfl (by kernel_rfl) (by decide) aggOf_congr
  rintro ⟨v11, lo11, hi11⟩ - - (rfl : v11 = undef)
  refine hK _ _ ?_; clear hK K
  -- 12: store<31> *t9 = t18
  refine stepS _ rfl (by kernel_rfl) (fun K hK => ?_); go_simp
  refine ⟨?_, ?_⟩
  · exact sStoreT rfl rfl rfl rfl rfl rfl rfl (by kernel_rfl) rfl (by kernel_rfl) (by decide) aggOf_congr
  rintro ⟨v12, lo12, hi12⟩ - - (rfl : v12 = undef)
  refine hK _ _ ?_; clear hK K
  -- 13: assign t19
  refine stepK rfl (by kernel_rfl) (fun K hK => ?_); go_simp
  apply Exists.intro; apply And.intro; (focus (intro wk hk; go_simp; exact ⟨rfl, rfl⟩)); refine hK _ _ ?_; clear hK K
  refine stepN ?_
  refine hQ _ _ ?_
  intro w1 hT hG hF
  have hbw1 := hT.undrew.below
  have rq : Row w1 lo9 31 (W4 (q)) := (hF 11 _ rfl rfl (by decide)).2
  have rl : Row w1 lo10 31 (W4 (r)) := (hF 12 _ rfl rfl (by decide)).2
  replace rr := rr.below hbw1 rr.lt
  replace hl := hl.trans (hbw1.mono hl.size)
  clear hT hG hF hbw1 hQ QQ L hhi9 hhi10 ra rb rd
  go_upto_region 2 with (fail)
  let L : List Sp := [sO 2 (w.heap.size + 1 + 1 + 1) 31 [0] (fun g => aggOf g 0)]
  refine wp_region_six0 (shs L) (look6 L) (fun c => c = w.heap.size + 1 + 1 + 1) (by kernel_rfl) (by kernel_rfl) (mk_St L [2] [2] (by kernel_rfl) (by kernel_rfl) ⟨ok_O aggOf_congr rr.lt (rfl), trivial⟩ (by simp)) ?_
  intro QQ hQ
  -- 0: load<31> *t8
  refine stepK rfl (by kernel_rfl) (fun K hK => ?_); go_simp
  apply Exists.intro; apply And.intro; (focus exact kLoad rfl rfl aggT31 rq rfl id); refine hK _ _ ?_; clear hK K
  -- 1: t10
  refine stepKz rfl (fun K hK => ?_); go_simp
  apply Exists.intro; apply And.intro; (focus (intro wk hk; go_simp; exact ⟨rfl, rfl⟩)); refine hK _ _ ?_; clear hK K
  -- 2: store<31> *t6 = t20
  refine stepS _ rfl (by kernel_rfl) (fun K hK => ?_); go_simp
  refine ⟨?_, ?_⟩
  · exact sStoreO rfl rfl rfl rfl rfl rfl rr id (by kernel_rfl) rfl (by kernel_rfl) (by decide) aggOf_congr
  rintro ⟨v2, lo2, hi2⟩ - - (rfl : v2 = undef)
  refine hK _ _ ?_; clear hK K
  -- 3: assign t21
  refine stepKz rfl (fun K hK => ?_); go_simp
  apply Exists.intro; apply And.intro; (focus (intro wk hk; go_simp; exact ⟨rfl, rfl⟩)); refine hK _ _ ?_; clear hK K
  refine stepN ?_
  refine hQ _ _ ?_
  intro w9 hT hG hF
  have hT' := hT
  have x2 : Row w9 (w.heap.size + 1 + 1 + 1) 31 (W4 q) := hF 2 _ rfl rfl (by decide)
  have hl9 : Below w.heap.size w w9 := hl.trans (hT'.below_of hl.size (by intro c hc; omega))
  clear hT hT' hG hF hQ QQ L
  go_wp2_with fail
  refine bodyPost_ret (results_ct rfl aggT31 rfl x2 rfl) rfl ?_
  exact ⟨rfl, hl9⟩

def upN (n d : Nat) : Nat := if remN n d = 0 then quoN n d else addN (quoN n d) 1
def upB (n d : Nat) : Bool := if remN n d = 0 then quoB n d else addB (quoN n d) 1
theorem one_lt : 1 < M := by unfold M; omega
set_option maxRecDepth 100000 in
set_option maxHeartbeats 8000000 in
theorem upU {a b d : Nat} (ha : a < M) (hb : b < M) (hd : d < M) (w : World) : Calls Try.prog 87 #[.agg (W4 a), .agg (W4 b), .agg (W4 d)] w (Ret w (.tuple #[.agg (W4 (upN (a * b) d)), .bool (upB (a * b) d)])) := by
  have qd := fun wx => quoP ha hb hd wx
  have hql := quoN_lt (a * b) d
  have hrl := remN_lt (d := d) (a * b) hd
  have hno : quoB (a * b) d = false → remN (a * b) d = 0 := fun h => if_neg (of_decide_eq_false h)
  have fin : upN (a * b) d = (if remN (a * b) d = 0 then quoN (a * b) d else addN (quoN (a * b) d) 1) ∧ upB (a * b) d = (if remN (a * b) d = 0 then quoB (a * b) d else addB (quoN (a * b) d) 1) := ⟨rfl, rfl⟩
  obtain ⟨q, hq⟩ : ∃ q, q = quoN (a * b) d := ⟨_, rfl⟩
  obtain ⟨r, hr⟩ : ∃ r, r = remN (a * b) d := ⟨_, rfl⟩
  obtain ⟨ok, ho⟩ : ∃ ok, ok = quoB (a * b) d := ⟨_, rfl⟩
  rw [← hq, ← hr, ← ho] at qd
  rw [← hq, ← hr, ← ho] at fin
  rw [← hq] at hql
  rw [← hr] at hrl
  rw [← hr, ← ho] at hno
  rw [fin.1, fin.2]
  clear hq hr ho fin
  by_cases h0 : r = 0
  · rw [if_pos h0, if_pos h0]
    have Q0 : ∀ wx, (Op.equalIn 10000 31 (.agg (W4 r)) (.agg #[.int .u64 0, .int .u64 0, .int .u64 0, .int .u64 0])).run Try.prog wx = .ok true wx := fun wx => by rw [eqU0 hrl, decide_eq_true h0]
    clear h0 hno
    cases ok
    · go_enter Try.func87, Try.ntmps87
      apply wp_seq_eq
      focus
        intro J hJ
        go_wp2_with fail
        exact hJ
      refine wp_abs (Mem w [(w.heap.size, 31, W4 a), (w.heap.size + 1, 31, W4 b), (w.heap.size + 1 + 1, 31, W4 d), (w.heap.size + 1 + 1 + 1, 31, arr .u64 (fun _ => 0) 4)]) ⟨by go_grown, ?_, ?_, ?_, ?_, trivial⟩ ?_
      · repeat (first | (refine Row.new_at ?_; simp; done) | refine Row.alloc ?_ _)
      · repeat (first | (refine Row.new_at ?_; simp; done) | refine Row.alloc ?_ _)
      · repeat (first | (refine Row.new_at ?_; simp; done) | refine Row.alloc ?_ _)
      · repeat (first | (refine Row.new_at ?_; simp; done) | refine Row.alloc ?_ _)
      intro w0 hM
      obtain ⟨hl, ra, rb, rd, rr, -⟩ := hM
      go_upto_region 1 with (fail)
      let L : List Sp := [sV 2 [] [] (fun u => u = .agg (W8 (a * b / M) (a * b % M))), sV 4 [] [] (fun u => u = .tuple #[.agg (W4 (q)), .agg (W4 (r)), .bool false]), sA 9 31 [11] #[.int .u64 0, .int .u64 0, .int .u64 0, .int .u64 0], sA 10 31 [12] #[.int .u64 0, .int .u64 0, .int .u64 0, .int .u64 0], sT 11 9 31 [6] (fun g => aggOf g 6), sT 12 10 31 [7] (fun g => aggOf g 7)]
      refine wp_region_six (shs L) (look6 L) (None_) (by kernel_rfl) (by kernel_rfl) (mk_St L [] [] (by kernel_rfl) (by kernel_rfl) ⟨ok_V ⟨_, rfl⟩, ok_V ⟨_, rfl⟩, ok_A, ok_A, ok_T aggOf_congr, ok_T aggOf_congr, trivial⟩ (by simp)) ?_
      intro QQ hQ
      -- 0: load<31> *t3
      refine stepK rfl (by kernel_rfl) (fun K hK => ?_); go_simp
      apply Exists.intro; apply And.intro; (focus exact kLoad rfl rfl aggT31 ra rfl id); refine hK _ _ ?_; clear hK K
      -- 1: load<31> *t4
      refine stepK rfl (by kernel_rfl) (fun K hK => ?_); go_simp
      apply Exists.intro; apply And.intro; (focus exact kLoad rfl rfl aggT31 rb rfl id); refine hK _ _ ?_; clear hK K
      -- 2: call F89(t12, t13)
      refine stepS _ rfl (by kernel_rfl) (fun K hK => ?_); go_simp
      refine ⟨?_, ?_⟩
      · intro wk hk hg hu; go_simp; refine upon_enter ((mmulU ha hb _).mono ?_); rintro e w' ⟨rfl, hb⟩; exact ⟨_, rfl, left_V (p := fun u => u = .agg (W8 (a * b / M) (a * b % M))) rfl (hb) rfl⟩
      rintro ⟨v2, lo2, hi2⟩ - - (rfl : v2 = _)
      refine hK _ _ ?_; clear hK K
      -- 3: load<31> *t5
      refine stepK rfl (by kernel_rfl) (fun K hK => ?_); go_simp
      apply Exists.intro; apply And.intro; (focus exact kLoad rfl rfl aggT31 rd rfl id); refine hK _ _ ?_; clear hK K
      -- 4: call F92(t14, t15)
      refine stepS _ rfl (by kernel_rfl) (fun K hK => ?_); go_simp
      refine ⟨?_, ?_⟩
      · intro wk hk hg hu; go_simp; refine upon_enter ((qd _).mono ?_); rintro e w' ⟨rfl, hb⟩; exact ⟨_, rfl, left_V (p := fun u => u = .tuple #[.agg (W4 (q)), .agg (W4 (r)), .bool false]) rfl (hb) rfl⟩
      rintro ⟨v4, lo4, hi4⟩ - - (rfl : v4 = _)
      refine hK _ _ ?_; clear hK K
      -- 5: t16
      refine stepK rfl (by kernel_rfl) (fun K hK => ?_); go_simp
      apply Exists.intro; apply And.intro; (focus (intro wk hk; go_simp; exact ⟨rfl, rfl⟩)); refine hK _ _ ?_; clear hK K
      -- 6: extract t11 #0
      refine stepK rfl (by kernel_rfl) (fun K hK => ?_); go_simp
      apply Exists.intro; apply And.intro; (focus (intro wk hk; go_simp; exact ⟨rfl, rfl⟩)); refine hK _ _ ?_; clear hK K
      -- 7: extract t11 #1
      refine stepK rfl (by kernel_rfl) (fun K hK => ?_); go_simp
      apply Exists.intro; apply And.intro; (focus (intro wk hk; go_simp; exact ⟨rfl, rfl⟩)); refine hK _ _ ?_; clear hK K
      -- 8: extract t11 #2
      refine stepK rfl (by kernel_rfl) (fun K hK => ?_); go_simp
      apply Exists.intro; apply And.intro; (focus (intro wk hk; go_simp; exact ⟨rfl, rfl⟩)); refine hK _ _ ?_; clear hK K
      -- 9: alloc<31>
      refine stepS _ rfl (by kernel_rfl) (fun K hK => ?_); go_simp
      refine ⟨?_, ?_⟩
      · intro wk hk hg hu; go_simp; exact left_A rfl rfl
      rintro ⟨v9, lo9, hi9⟩ hlo9 hhi9 ⟨e9, f9⟩
      replace e9 : v9 = .pointer (some ⟨lo9, 0, none⟩) := e9; replace f9 : hi9 = lo9 + 1 := f9; replace hlo9 : _ ≤ lo9 := hlo9; subst e9; subst f9
      refine hK _ _ ?_; clear hK K
      -- 10: alloc<31>
      refine stepS _ rfl (by kernel_rfl) (fun K hK => ?_); go_simp
      refine ⟨?_, ?_⟩
      · intro wk hk hg hu; go_simp; exact left_A rfl rfl
      rintro ⟨v10, lo10, hi10⟩ hlo10 hhi10 ⟨e10, f10⟩
      replace e10 : v10 = .pointer (some ⟨lo10, 0, none⟩) := e10; replace f10 : hi10 = lo10 + 1 := f10; replace hlo10 : _ ≤ lo10 := hlo10; subst e10; subst f10
      refine hK _ _ ?_; clear hK K
      -- 11: store<31> *t8 = t17
      refine stepS _ rfl (by kernel_rfl) (fun K hK => ?_); go_simp
      refine ⟨?_, ?_⟩
      · exact sStoreT rfl rfl rfl rfl rfl rfl rfl (by kernel_rfl) rfl (by kernel_rfl) (by decide) aggOf_congr
      rintro ⟨v11, lo11, hi11⟩ - - (rfl : v11 = undef)
      refine hK _ _ ?_; clear hK K
      -- 12: store<31> *t9 = t18
      refine stepS _ rfl (by kernel_rfl) (fun K hK => ?_); go_simp
      refine ⟨?_, ?_⟩
      · exact sStoreT rfl rfl rfl rfl rfl rfl rfl (by kernel_rfl) rfl (by kernel_rfl) (by decide) aggOf_congr
      rintro ⟨v12, lo12, hi12⟩ - - (rfl : v12 = undef)
      refine hK _ _ ?_; clear hK K
      -- 13: assign t19
      refine stepK rfl (by kernel_rfl) (fun K hK => ?_); go_simp
      apply Exists.intro; apply And.intro; (focus (intro wk hk; go_simp; exact ⟨rfl, rfl⟩)); refine hK _ _ ?_; clear hK K
      refine stepN ?_
      refine hQ _ _ ?_
      intro w1 hT hG hF
      have hbw1 := hT.undrew.below
      have rq : Row w1 lo9 31 (W4 (q)) := (hF 11 _ rfl rfl (by decide)).2
      have rl : Row w1 lo10 31 (W4 (r)) := (hF 12 _ rfl rfl (by decide)).2
      replace rr := rr.below hbw1 rr.lt
      replace hl := hl.trans (hbw1.mono hl.size)
      clear hT hG hF hbw1 hQ QQ L hhi9 hhi10 ra rb rd
      go_upto_region 2 with (fail)
      let L : List Sp := []
      refine wp_region_six0 (shs L) (look6 L) (None_) (by kernel_rfl) (by kernel_rfl) (mk_St L [] [] (by kernel_rfl) (by kernel_rfl) trivial (by simp)) ?_
      intro QQ hQ
      -- 0: t10
      refine stepK rfl (by kernel_rfl) (fun K hK => ?_); go_simp
      apply Exists.intro; apply And.intro; (focus (intro wk hk; go_simp; exact ⟨rfl, rfl⟩)); refine hK _ _ ?_; clear hK K
      -- 1: not<4> t20
      refine stepK rfl (by kernel_rfl) (fun K hK => ?_); go_simp
      apply Exists.intro; apply And.intro; (focus (intro wk hk; go_simp; exact ⟨rfl, rfl⟩)); refine hK _ _ ?_; clear hK K
      -- 2: t21
      refine stepK rfl (by kernel_rfl) (fun K hK => ?_); go_simp
      apply Exists.intro; apply And.intro; (focus (intro wk hk; go_simp; exact ⟨rfl, rfl⟩)); refine hK _ _ ?_; clear hK K
      -- 3: load<31> *t9
      refine stepK rfl (by kernel_rfl) (fun K hK => ?_); go_simp
      first | (refine hK _ _ ?_; clear hK K) | (apply Exists.intro; apply And.intro; (focus exact kLoad rfl rfl aggT31 rl rfl id); refine hK _ _ ?_; clear hK K)
      -- 4: build<31> 
      refine stepK rfl (by kernel_rfl) (fun K hK => ?_); go_simp
      first | (refine hK _ _ ?_; clear hK K) | (apply Exists.intro; apply And.intro; (focus (intro wk hk; go_simp; exact ⟨rfl, rfl⟩)); refine hK _ _ ?_; clear hK K)
      -- 5: eql<31> t23, t24
      refine stepK rfl (by kernel_rfl) (fun K hK => ?_); go_simp
      first | (refine hK _ _ ?_; clear hK K) | (apply Exists.intro; apply And.intro; (focus (intro wk hk; go_simp; exact ⟨rfl, rfl⟩)); refine hK _ _ ?_; clear hK K)
      -- 6: pick t22 ? true : t25
      refine stepK rfl (by kernel_rfl) (fun K hK => ?_); go_simp
      apply Exists.intro; apply And.intro; (focus (intro wk hk; go_simp; exact ⟨rfl, rfl⟩)); refine hK _ _ ?_; clear hK K
      refine stepN ?_
      refine hQ _ _ ?_
      intro w2 hT hG hF
      have hbw2 := hT.below
      replace rr := rr.below hbw2 rr.lt
      replace rq := rq.below hbw2 rq.lt
      replace hl := hl.trans (hbw2.mono hl.size)
      clear hT hG hF hbw2 hQ QQ L 
      go_upto_region 3 with (fail)
      let L : List Sp := [sO 2 (w.heap.size + 1 + 1 + 1) 31 [0] (fun g => aggOf g 0)]
      refine wp_region_six0 (shs L) (look6 L) (fun c => c = w.heap.size + 1 + 1 + 1) (by kernel_rfl) (by kernel_rfl) (mk_St L [2] [2] (by kernel_rfl) (by kernel_rfl) ⟨ok_O aggOf_congr rr.lt (rfl), trivial⟩ (by simp)) ?_
      intro QQ hQ
      -- 0: load<31> *t8
      refine stepK rfl (by kernel_rfl) (fun K hK => ?_); go_simp
      apply Exists.intro; apply And.intro; (focus exact kLoad rfl rfl aggT31 rq rfl id); refine hK _ _ ?_; clear hK K
      -- 1: t10
      refine stepKz rfl (fun K hK => ?_); go_simp
      apply Exists.intro; apply And.intro; (focus (intro wk hk; go_simp; exact ⟨rfl, rfl⟩)); refine hK _ _ ?_; clear hK K
      -- 2: store<31> *t6 = t27
      refine stepS _ rfl (by kernel_rfl) (fun K hK => ?_); go_simp
      refine ⟨?_, ?_⟩
      · exact sStoreO rfl rfl rfl rfl rfl rfl rr id (by kernel_rfl) rfl (by kernel_rfl) (by decide) aggOf_congr
      rintro ⟨v2, lo2, hi2⟩ - - (rfl : v2 = undef)
      refine hK _ _ ?_; clear hK K
      -- 3: assign t28
      refine stepKz rfl (fun K hK => ?_); go_simp
      apply Exists.intro; apply And.intro; (focus (intro wk hk; go_simp; exact ⟨rfl, rfl⟩)); refine hK _ _ ?_; clear hK K
      refine stepN ?_
      refine hQ _ _ ?_
      intro w9 hT hG hF
      have hT' := hT
      have x2 : Row w9 (w.heap.size + 1 + 1 + 1) 31 (W4 q) := hF 2 _ rfl rfl (by decide)
      have hl9 : Below w.heap.size w w9 := hl.trans (hT'.below_of hl.size (by intro c hc; omega))
      clear hT hT' hG hF hQ QQ L
      go_wp2_with fail
      refine bodyPost_ret (results_ct rfl aggT31 rfl x2 rfl) rfl ?_
      exact ⟨rfl, hl9⟩
    · go_enter Try.func87, Try.ntmps87
      apply wp_seq_eq
      focus
        intro J hJ
        go_wp2_with fail
        exact hJ
      refine wp_abs (Mem w [(w.heap.size, 31, W4 a), (w.heap.size + 1, 31, W4 b), (w.heap.size + 1 + 1, 31, W4 d), (w.heap.size + 1 + 1 + 1, 31, arr .u64 (fun _ => 0) 4)]) ⟨by go_grown, ?_, ?_, ?_, ?_, trivial⟩ ?_
      · repeat (first | (refine Row.new_at ?_; simp; done) | refine Row.alloc ?_ _)
      · repeat (first | (refine Row.new_at ?_; simp; done) | refine Row.alloc ?_ _)
      · repeat (first | (refine Row.new_at ?_; simp; done) | refine Row.alloc ?_ _)
      · repeat (first | (refine Row.new_at ?_; simp; done) | refine Row.alloc ?_ _)
      intro w0 hM
      obtain ⟨hl, ra, rb, rd, rr, -⟩ := hM
      go_upto_region 1 with (fail)
      let L : List Sp := [sV 2 [] [] (fun u => u = .agg (W8 (a * b / M) (a * b % M))), sV 4 [] [] (fun u => u = .tuple #[.agg (W4 (q)), .agg (W4 (r)), .bool true]), sA 9 31 [11] #[.int .u64 0, .int .u64 0, .int .u64 0, .int .u64 0], sA 10 31 [12] #[.int .u64 0, .int .u64 0, .int .u64 0, .int .u64 0], sT 11 9 31 [6] (fun g => aggOf g 6), sT 12 10 31 [7] (fun g => aggOf g 7)]
      refine wp_region_six (shs L) (look6 L) (None_) (by kernel_rfl) (by kernel_rfl) (mk_St L [] [] (by kernel_rfl) (by kernel_rfl) ⟨ok_V ⟨_, rfl⟩, ok_V ⟨_, rfl⟩, ok_A, ok_A, ok_T aggOf_congr, ok_T aggOf_congr, trivial⟩ (by simp)) ?_
      intro QQ hQ
      -- 0: load<31> *t3
      refine stepK rfl (by kernel_rfl) (fun K hK => ?_); go_simp
      apply Exists.intro; apply And.intro; (focus exact kLoad rfl rfl aggT31 ra rfl id); refine hK _ _ ?_; clear hK K
      -- 1: load<31> *t4
      refine stepK rfl (by kernel_rfl) (fun K hK => ?_); go_simp
      apply Exists.intro; apply And.intro; (focus exact kLoad rfl rfl aggT31 rb rfl id); refine hK _ _ ?_; clear hK K
      -- 2: call F89(t12, t13)
      refine stepS _ rfl (by kernel_rfl) (fun K hK => ?_); go_simp
      refine ⟨?_, ?_⟩
      · intro wk hk hg hu; go_simp; refine upon_enter ((mmulU ha hb _).mono ?_); rintro e w' ⟨rfl, hb⟩; exact ⟨_, rfl, left_V (p := fun u => u = .agg (W8 (a * b / M) (a * b % M))) rfl (hb) rfl⟩
      rintro ⟨v2, lo2, hi2⟩ - - (rfl : v2 = _)
      refine hK _ _ ?_; clear hK K
      -- 3: load<31> *t5
      refine stepK rfl (by kernel_rfl) (fun K hK => ?_); go_simp
      apply Exists.intro; apply And.intro; (focus exact kLoad rfl rfl aggT31 rd rfl id); refine hK _ _ ?_; clear hK K
      -- 4: call F92(t14, t15)
      refine stepS _ rfl (by kernel_rfl) (fun K hK => ?_); go_simp
      refine ⟨?_, ?_⟩
      · intro wk hk hg hu; go_simp; refine upon_enter ((qd _).mono ?_); rintro e w' ⟨rfl, hb⟩; exact ⟨_, rfl, left_V (p := fun u => u = .tuple #[.agg (W4 (q)), .agg (W4 (r)), .bool true]) rfl (hb) rfl⟩
      rintro ⟨v4, lo4, hi4⟩ - - (rfl : v4 = _)
      refine hK _ _ ?_; clear hK K
      -- 5: t16
      refine stepK rfl (by kernel_rfl) (fun K hK => ?_); go_simp
      apply Exists.intro; apply And.intro; (focus (intro wk hk; go_simp; exact ⟨rfl, rfl⟩)); refine hK _ _ ?_; clear hK K
      -- 6: extract t11 #0
      refine stepK rfl (by kernel_rfl) (fun K hK => ?_); go_simp
      apply Exists.intro; apply And.intro; (focus (intro wk hk; go_simp; exact ⟨rfl, rfl⟩)); refine hK _ _ ?_; clear hK K
      -- 7: extract t11 #1
      refine stepK rfl (by kernel_rfl) (fun K hK => ?_); go_simp
      apply Exists.intro; apply And.intro; (focus (intro wk hk; go_simp; exact ⟨rfl, rfl⟩)); refine hK _ _ ?_; clear hK K
      -- 8: extract t11 #2
      refine stepK rfl (by kernel_rfl) (fun K hK => ?_); go_simp
      apply Exists.intro; apply And.intro; (focus (intro wk hk; go_simp; exact ⟨rfl, rfl⟩)); refine hK _ _ ?_; clear hK K
      -- 9: alloc<31>
      refine stepS _ rfl (by kernel_rfl) (fun K hK => ?_); go_simp
      refine ⟨?_, ?_⟩
      · intro wk hk hg hu; go_simp; exact left_A rfl rfl
      rintro ⟨v9, lo9, hi9⟩ hlo9 hhi9 ⟨e9, f9⟩
      replace e9 : v9 = .pointer (some ⟨lo9, 0, none⟩) := e9; replace f9 : hi9 = lo9 + 1 := f9; replace hlo9 : _ ≤ lo9 := hlo9; subst e9; subst f9
      refine hK _ _ ?_; clear hK K
      -- 10: alloc<31>
      refine stepS _ rfl (by kernel_rfl) (fun K hK => ?_); go_simp
      refine ⟨?_, ?_⟩
      · intro wk hk hg hu; go_simp; exact left_A rfl rfl
      rintro ⟨v10, lo10, hi10⟩ hlo10 hhi10 ⟨e10, f10⟩
      replace e10 : v10 = .pointer (some ⟨lo10, 0, none⟩) := e10; replace f10 : hi10 = lo10 + 1 := f10; replace hlo10 : _ ≤ lo10 := hlo10; subst e10; subst f10
      refine hK _ _ ?_; clear hK K
      -- 11: store<31> *t8 = t17
      refine stepS _ rfl (by kernel_rfl) (fun K hK => ?_); go_simp
      refine ⟨?_, ?_⟩
      · exact sStoreT rfl rfl rfl rfl rfl rfl rfl (by kernel_rfl) rfl (by kernel_rfl) (by decide) aggOf_congr
      rintro ⟨v11, lo11, hi11⟩ - - (rfl : v11 = undef)
      refine hK _ _ ?_; clear hK K
      -- 12: store<31> *t9 = t18
      refine stepS _ rfl (by kernel_rfl) (fun K hK => ?_); go_simp
      refine ⟨?_, ?_⟩
      · exact sStoreT rfl rfl rfl rfl rfl rfl rfl (by kernel_rfl) rfl (by kernel_rfl) (by decide) aggOf_congr
      rintro ⟨v12, lo12, hi12⟩ - - (rfl : v12 = undef)
      refine hK _ _ ?_; clear hK K
      -- 13: assign t19
      refine stepK rfl (by kernel_rfl) (fun K hK => ?_); go_simp
      apply Exists.intro; apply And.intro; (focus (intro wk hk; go_simp; exact ⟨rfl, rfl⟩)); refine hK _ _ ?_; clear hK K
      refine stepN ?_
      refine hQ _ _ ?_
      intro w1 hT hG hF
      have hbw1 := hT.undrew.below
      have rq : Row w1 lo9 31 (W4 (q)) := (hF 11 _ rfl rfl (by decide)).2
      have rl : Row w1 lo10 31 (W4 (r)) := (hF 12 _ rfl rfl (by decide)).2
      replace rr := rr.below hbw1 rr.lt
      replace hl := hl.trans (hbw1.mono hl.size)
      clear hT hG hF hbw1 hQ QQ L hhi9 hhi10 ra rb rd
      go_upto_region 2 with (fail)
      let L : List Sp := []
      refine wp_region_six0 (shs L) (look6 L) (None_) (by kernel_rfl) (by kernel_rfl) (mk_St L [] [] (by kernel_rfl) (by kernel_rfl) trivial (by simp)) ?_
      intro QQ hQ
      -- 0: t10
      refine stepK rfl (by kernel_rfl) (fun K hK => ?_); go_simp
      apply Exists.intro; apply And.intro; (focus (intro wk hk; go_simp; exact ⟨rfl, rfl⟩)); refine hK _ _ ?_; clear hK K
      -- 1: not<4> t20
      refine stepK rfl (by kernel_rfl) (fun K hK => ?_); go_simp
      apply Exists.intro; apply And.intro; (focus (intro wk hk; go_simp; exact ⟨rfl, rfl⟩)); refine hK _ _ ?_; clear hK K
      -- 2: t21
      refine stepK rfl (by kernel_rfl) (fun K hK => ?_); go_simp
      apply Exists.intro; apply And.intro; (focus (intro wk hk; go_simp; exact ⟨rfl, rfl⟩)); refine hK _ _ ?_; clear hK K
      -- 3: load<31> *t9
      refine stepK rfl (by kernel_rfl) (fun K hK => ?_); go_simp
      first | (refine hK _ _ ?_; clear hK K) | (apply Exists.intro; apply And.intro; (focus exact kLoad rfl rfl aggT31 rl rfl id); refine hK _ _ ?_; clear hK K)
      -- 4: build<31> 
      refine stepK rfl (by kernel_rfl) (fun K hK => ?_); go_simp
      first | (refine hK _ _ ?_; clear hK K) | (apply Exists.intro; apply And.intro; (focus (intro wk hk; go_simp; exact ⟨rfl, rfl⟩)); refine hK _ _ ?_; clear hK K)
      -- 5: eql<31> t23, t24
      refine stepK rfl (by kernel_rfl) (fun K hK => ?_); go_simp
      first | (refine hK _ _ ?_; clear hK K) | (apply Exists.intro; apply And.intro; (focus (intro wk hk; go_simp; exact ⟨rfl, rfl⟩)); refine hK _ _ ?_; clear hK K)
      -- 6: pick t22 ? true : t25
      refine stepK rfl (by kernel_rfl) (fun K hK => ?_); go_simp
      apply Exists.intro; apply And.intro; (focus (intro wk hk; go_simp; exact ⟨rfl, rfl⟩)); refine hK _ _ ?_; clear hK K
      refine stepN ?_
      refine hQ _ _ ?_
      intro w2 hT hG hF
      have hbw2 := hT.below
      replace rr := rr.below hbw2 rr.lt
      replace rq := rq.below hbw2 rq.lt
      replace hl := hl.trans (hbw2.mono hl.size)
      clear hT hG hF hbw2 hQ QQ L 
      go_upto_region 3 with (fail)
      let L : List Sp := [sO 2 (w.heap.size + 1 + 1 + 1) 31 [0] (fun g => aggOf g 0)]
      refine wp_region_six0 (shs L) (look6 L) (fun c => c = w.heap.size + 1 + 1 + 1) (by kernel_rfl) (by kernel_rfl) (mk_St L [2] [2] (by kernel_rfl) (by kernel_rfl) ⟨ok_O aggOf_congr rr.lt (rfl), trivial⟩ (by simp)) ?_
      intro QQ hQ
      -- 0: load<31> *t8
      refine stepK rfl (by kernel_rfl) (fun K hK => ?_); go_simp
      apply Exists.intro; apply And.intro; (focus exact kLoad rfl rfl aggT31 rq rfl id); refine hK _ _ ?_; clear hK K
      -- 1: t10
      refine stepKz rfl (fun K hK => ?_); go_simp
      apply Exists.intro; apply And.intro; (focus (intro wk hk; go_simp; exact ⟨rfl, rfl⟩)); refine hK _ _ ?_; clear hK K
      -- 2: store<31> *t6 = t27
      refine stepS _ rfl (by kernel_rfl) (fun K hK => ?_); go_simp
      refine ⟨?_, ?_⟩
      · exact sStoreO rfl rfl rfl rfl rfl rfl rr id (by kernel_rfl) rfl (by kernel_rfl) (by decide) aggOf_congr
      rintro ⟨v2, lo2, hi2⟩ - - (rfl : v2 = undef)
      refine hK _ _ ?_; clear hK K
      -- 3: assign t28
      refine stepKz rfl (fun K hK => ?_); go_simp
      apply Exists.intro; apply And.intro; (focus (intro wk hk; go_simp; exact ⟨rfl, rfl⟩)); refine hK _ _ ?_; clear hK K
      refine stepN ?_
      refine hQ _ _ ?_
      intro w9 hT hG hF
      have hT' := hT
      have x2 : Row w9 (w.heap.size + 1 + 1 + 1) 31 (W4 q) := hF 2 _ rfl rfl (by decide)
      have hl9 : Below w.heap.size w w9 := hl.trans (hT'.below_of hl.size (by intro c hc; omega))
      clear hT hT' hG hF hQ QQ L
      go_wp2_with fail
      refine bodyPost_ret (results_ct rfl aggT31 rfl x2 rfl) rfl ?_
      exact ⟨rfl, hl9⟩
  · rw [if_neg h0, if_neg h0]
    have Q0 : ∀ wx, (Op.equalIn 10000 31 (.agg (W4 r)) (.agg #[.int .u64 0, .int .u64 0, .int .u64 0, .int .u64 0])).run Try.prog wx = .ok false wx := fun wx => by rw [eqU0 hrl, decide_eq_false h0]
    obtain rfl : ok = true := by cases ok with
      | true => rfl
      | false => exact absurd (hno rfl) h0
    clear h0 hno
    go_enter Try.func87, Try.ntmps87
    apply wp_seq_eq
    focus
      intro J hJ
      go_wp2_with fail
      exact hJ
    refine wp_abs (Mem w [(w.heap.size, 31, W4 a), (w.heap.size + 1, 31, W4 b), (w.heap.size + 1 + 1, 31, W4 d), (w.heap.size + 1 + 1 + 1, 31, arr .u64 (fun _ => 0) 4)]) ⟨by go_grown, ?_, ?_, ?_, ?_, trivial⟩ ?_
    · repeat (first | (refine Row.new_at ?_; simp; done) | refine Row.alloc ?_ _)
    · repeat (first | (refine Row.new_at ?_; simp; done) | refine Row.alloc ?_ _)
    · repeat (first | (refine Row.new_at ?_; simp; done) | refine Row.alloc ?_ _)
    · repeat (first | (refine Row.new_at ?_; simp; done) | refine Row.alloc ?_ _)
    intro w0 hM
    obtain ⟨hl, ra, rb, rd, rr, -⟩ := hM
    go_upto_region 1 with (fail)
    let L : List Sp := [sV 2 [] [] (fun u => u = .agg (W8 (a * b / M) (a * b % M))), sV 4 [] [] (fun u => u = .tuple #[.agg (W4 (q)), .agg (W4 (r)), .bool true]), sA 9 31 [11] #[.int .u64 0, .int .u64 0, .int .u64 0, .int .u64 0], sA 10 31 [12] #[.int .u64 0, .int .u64 0, .int .u64 0, .int .u64 0], sT 11 9 31 [6] (fun g => aggOf g 6), sT 12 10 31 [7] (fun g => aggOf g 7)]
    refine wp_region_six (shs L) (look6 L) (None_) (by kernel_rfl) (by kernel_rfl) (mk_St L [] [] (by kernel_rfl) (by kernel_rfl) ⟨ok_V ⟨_, rfl⟩, ok_V ⟨_, rfl⟩, ok_A, ok_A, ok_T aggOf_congr, ok_T aggOf_congr, trivial⟩ (by simp)) ?_
    intro QQ hQ
    -- 0: load<31> *t3
    refine stepK rfl (by kernel_rfl) (fun K hK => ?_); go_simp
    apply Exists.intro; apply And.intro; (focus exact kLoad rfl rfl aggT31 ra rfl id); refine hK _ _ ?_; clear hK K
    -- 1: load<31> *t4
    refine stepK rfl (by kernel_rfl) (fun K hK => ?_); go_simp
    apply Exists.intro; apply And.intro; (focus exact kLoad rfl rfl aggT31 rb rfl id); refine hK _ _ ?_; clear hK K
    -- 2: call F89(t12, t13)
    refine stepS _ rfl (by kernel_rfl) (fun K hK => ?_); go_simp
    refine ⟨?_, ?_⟩
    · intro wk hk hg hu; go_simp; refine upon_enter ((mmulU ha hb _).mono ?_); rintro e w' ⟨rfl, hb⟩; exact ⟨_, rfl, left_V (p := fun u => u = .agg (W8 (a * b / M) (a * b % M))) rfl (hb) rfl⟩
    rintro ⟨v2, lo2, hi2⟩ - - (rfl : v2 = _)
    refine hK _ _ ?_; clear hK K
    -- 3: load<31> *t5
    refine stepK rfl (by kernel_rfl) (fun K hK => ?_); go_simp
    apply Exists.intro; apply And.intro; (focus exact kLoad rfl rfl aggT31 rd rfl id); refine hK _ _ ?_; clear hK K
    -- 4: call F92(t14, t15)
    refine stepS _ rfl (by kernel_rfl) (fun K hK => ?_); go_simp
    refine ⟨?_, ?_⟩
    · intro wk hk hg hu; go_simp; refine upon_enter ((qd _).mono ?_); rintro e w' ⟨rfl, hb⟩; exact ⟨_, rfl, left_V (p := fun u => u = .tuple #[.agg (W4 (q)), .agg (W4 (r)), .bool true]) rfl (hb) rfl⟩
    rintro ⟨v4, lo4, hi4⟩ - - (rfl : v4 = _)
    refine hK _ _ ?_; clear hK K
    -- 5: t16
    refine stepK rfl (by kernel_rfl) (fun K hK => ?_); go_simp
    apply Exists.intro; apply And.intro; (focus (intro wk hk; go_simp; exact ⟨rfl, rfl⟩)); refine hK _ _ ?_; clear hK K
    -- 6: extract t11 #0
    refine stepK rfl (by kernel_rfl) (fun K hK => ?_); go_simp
    apply Exists.intro; apply And.intro; (focus (intro wk hk; go_simp; exact ⟨rfl, rfl⟩)); refine hK _ _ ?_; clear hK K
    -- 7: extract t11 #1
    refine stepK rfl (by kernel_rfl) (fun K hK => ?_); go_simp
    apply Exists.intro; apply And.intro; (focus (intro wk hk; go_simp; exact ⟨rfl, rfl⟩)); refine hK _ _ ?_; clear hK K
    -- 8: extract t11 #2
    refine stepK rfl (by kernel_rfl) (fun K hK => ?_); go_simp
    apply Exists.intro; apply And.intro; (focus (intro wk hk; go_simp; exact ⟨rfl, rfl⟩)); refine hK _ _ ?_; clear hK K
    -- 9: alloc<31>
    refine stepS _ rfl (by kernel_rfl) (fun K hK => ?_); go_simp
    refine ⟨?_, ?_⟩
    · intro wk hk hg hu; go_simp; exact left_A rfl rfl
    rintro ⟨v9, lo9, hi9⟩ hlo9 hhi9 ⟨e9, f9⟩
    replace e9 : v9 = .pointer (some ⟨lo9, 0, none⟩) := e9; replace f9 : hi9 = lo9 + 1 := f9; replace hlo9 : _ ≤ lo9 := hlo9; subst e9; subst f9
    refine hK _ _ ?_; clear hK K
    -- 10: alloc<31>
    refine stepS _ rfl (by kernel_rfl) (fun K hK => ?_); go_simp
    refine ⟨?_, ?_⟩
    · intro wk hk hg hu; go_simp; exact left_A rfl rfl
    rintro ⟨v10, lo10, hi10⟩ hlo10 hhi10 ⟨e10, f10⟩
    replace e10 : v10 = .pointer (some ⟨lo10, 0, none⟩) := e10; replace f10 : hi10 = lo10 + 1 := f10; replace hlo10 : _ ≤ lo10 := hlo10; subst e10; subst f10
    refine hK _ _ ?_; clear hK K
    -- 11: store<31> *t8 = t17
    refine stepS _ rfl (by kernel_rfl) (fun K hK => ?_); go_simp
    refine ⟨?_, ?_⟩
    · exact sStoreT rfl rfl rfl rfl rfl rfl rfl (by kernel_rfl) rfl (by kernel_rfl) (by decide) aggOf_congr
    rintro ⟨v11, lo11, hi11⟩ - - (rfl : v11 = undef)
    refine hK _ _ ?_; clear hK K
    -- 12: store<31> *t9 = t18
    refine stepS _ rfl (by kernel_rfl) (fun K hK => ?_); go_simp
    refine ⟨?_, ?_⟩
    · exact sStoreT rfl rfl rfl rfl rfl rfl rfl (by kernel_rfl) rfl (by kernel_rfl) (by decide) aggOf_congr
    rintro ⟨v12, lo12, hi12⟩ - - (rfl : v12 = undef)
    refine hK _ _ ?_; clear hK K
    -- 13: assign t19
    refine stepK rfl (by kernel_rfl) (fun K hK => ?_); go_simp
    apply Exists.intro; apply And.intro; (focus (intro wk hk; go_simp; exact ⟨rfl, rfl⟩)); refine hK _ _ ?_; clear hK K
    refine stepN ?_
    refine hQ _ _ ?_
    intro w1 hT hG hF
    have hbw1 := hT.undrew.below
    have rq : Row w1 lo9 31 (W4 (q)) := (hF 11 _ rfl rfl (by decide)).2
    have rl : Row w1 lo10 31 (W4 (r)) := (hF 12 _ rfl rfl (by decide)).2
    replace rr := rr.below hbw1 rr.lt
    replace hl := hl.trans (hbw1.mono hl.size)
    clear hT hG hF hbw1 hQ QQ L hhi9 hhi10 ra rb rd
    go_upto_region 2 with (fail)
    let L : List Sp := []
    refine wp_region_six0 (shs L) (look6 L) (None_) (by kernel_rfl) (by kernel_rfl) (mk_St L [] [] (by kernel_rfl) (by kernel_rfl) trivial (by simp)) ?_
    intro QQ hQ
    -- 0: t10
    refine stepK rfl (by kernel_rfl) (fun K hK => ?_); go_simp
    apply Exists.intro; apply And.intro; (focus (intro wk hk; go_simp; exact ⟨rfl, rfl⟩)); refine hK _ _ ?_; clear hK K
    -- 1: not<4> t20
    refine stepK rfl (by kernel_rfl) (fun K hK => ?_); go_simp
    apply Exists.intro; apply And.intro; (focus (intro wk hk; go_simp; exact ⟨rfl, rfl⟩)); refine hK _ _ ?_; clear hK K
    -- 2: t21
    refine stepK rfl (by kernel_rfl) (fun K hK => ?_); go_simp
    apply Exists.intro; apply And.intro; (focus (intro wk hk; go_simp; exact ⟨rfl, rfl⟩)); refine hK _ _ ?_; clear hK K
    -- 3: load<31> *t9
    refine stepK rfl (by kernel_rfl) (fun K hK => ?_); go_simp
    first | (refine hK _ _ ?_; clear hK K) | (apply Exists.intro; apply And.intro; (focus exact kLoad rfl rfl aggT31 rl rfl id); refine hK _ _ ?_; clear hK K)
    -- 4: build<31> 
    refine stepK rfl (by kernel_rfl) (fun K hK => ?_); go_simp
    first | (refine hK _ _ ?_; clear hK K) | (apply Exists.intro; apply And.intro; (focus (intro wk hk; go_simp; exact ⟨rfl, rfl⟩)); refine hK _ _ ?_; clear hK K)
    -- 5: eql<31> t23, t24
    refine stepK rfl (by kernel_rfl) (fun K hK => ?_); go_simp
    first | (refine hK _ _ ?_; clear hK K) | (apply Exists.intro; apply And.intro; (focus (intro wk hk; go_simp; exact ⟨rfl, rfl⟩)); refine hK _ _ ?_; clear hK K)
    -- 6: pick t22 ? true : t25
    refine stepK rfl (by kernel_rfl) (fun K hK => ?_); go_simp
    apply Exists.intro; apply And.intro; (focus (intro wk hk; go_simp; exact ⟨rfl, rfl⟩)); refine hK _ _ ?_; clear hK K
    refine stepN ?_
    refine hQ _ _ ?_
    intro w2 hT hG hF
    have hbw2 := hT.below
    replace rr := rr.below hbw2 rr.lt
    replace rq := rq.below hbw2 rq.lt
    replace hl := hl.trans (hbw2.mono hl.size)
    clear hT hG hF hbw2 hQ QQ L 
    go_upto_region 4 with (fail)
    let L : List Sp := [sV 1 [] [] (fun u => u = .agg (W4 1)), sV 2 [] [] (fun u => u = .tuple #[.agg (W4 (addN q 1)), .bool (addB q 1)]), sO 5 (w.heap.size + 1 + 1 + 1) 31 [3] (fun g => aggOf g 3)]
    refine wp_region_six (shs L) (look6 L) (fun c => c = w.heap.size + 1 + 1 + 1) (by kernel_rfl) (by kernel_rfl) (mk_St L [5] [5] (by kernel_rfl) (by kernel_rfl) ⟨ok_V ⟨_, rfl⟩, ok_V ⟨_, rfl⟩, ok_O aggOf_congr rr.lt (rfl), trivial⟩ (by simp)) ?_
    intro QQ hQ
    -- 0: load<31> *t8
    refine stepK rfl (by kernel_rfl) (fun K hK => ?_); go_simp
    apply Exists.intro; apply And.intro; (focus exact kLoad rfl rfl aggT31 rq rfl id); refine hK _ _ ?_; clear hK K
    -- 1: call F103(1u)
    refine stepS _ rfl (by kernel_rfl) (fun K hK => ?_); go_simp
    refine ⟨?_, ?_⟩
    · intro wk hk hg hu; go_simp; refine upon_enter ((ofU 1 (by omega) _).mono ?_); rintro e w' ⟨rfl, hb⟩; exact ⟨_, rfl, left_V (p := fun u => u = .agg (W4 1)) rfl (hb) rfl⟩
    rintro ⟨v1, lo1, hi1⟩ - - (rfl : v1 = _)
    refine hK _ _ ?_; clear hK K
    -- 2: call F46(t29, t30)
    refine stepS _ rfl (by kernel_rfl) (fun K hK => ?_); go_simp
    refine ⟨?_, ?_⟩
    · intro wk hk hg hu; go_simp; refine upon_enter ((addU hql one_lt _).mono ?_); rintro e w' ⟨rfl, hb⟩; exact ⟨_, rfl, left_V (p := fun u => u = .tuple #[.agg (W4 (addN q 1)), .bool (addB q 1)]) rfl (hb) rfl⟩
    rintro ⟨v2, lo2, hi2⟩ - - (rfl : v2 = _)
    refine hK _ _ ?_; clear hK K
    -- 3: extract t31 #0
    refine stepK rfl (by kernel_rfl) (fun K hK => ?_); go_simp
    apply Exists.intro; apply And.intro; (focus (intro wk hk; go_simp; exact ⟨rfl, rfl⟩)); refine hK _ _ ?_; clear hK K
    -- 4: extract t31 #1
    refine stepK rfl (by kernel_rfl) (fun K hK => ?_); go_simp
    apply Exists.intro; apply And.intro; (focus (intro wk hk; go_simp; exact ⟨rfl, rfl⟩)); refine hK _ _ ?_; clear hK K
    -- 5: store<31> *t6 = t32
    refine stepS _ rfl (by kernel_rfl) (fun K hK => ?_); go_simp
    refine ⟨?_, ?_⟩
    · exact sStoreO rfl rfl rfl rfl rfl rfl rr id (by kernel_rfl) rfl (by kernel_rfl) (by decide) aggOf_congr
    rintro ⟨v5, lo5, hi5⟩ - - (rfl : v5 = undef)
    refine hK _ _ ?_; clear hK K
    -- 6: assign t33
    refine stepKz rfl (fun K hK => ?_); go_simp
    apply Exists.intro; apply And.intro; (focus (intro wk hk; go_simp; exact ⟨rfl, rfl⟩)); refine hK _ _ ?_; clear hK K
    refine stepN ?_
    refine hQ _ _ ?_
    intro w9 hT hG hF
    have hT' := hT.undrew
    have x2 : Row w9 (w.heap.size + 1 + 1 + 1) 31 (W4 (addN q 1)) := hF 5 _ rfl rfl (by decide)
    have hl9 : Below w.heap.size w w9 := hl.trans (hT'.below_of hl.size (by intro c hc; omega))
    clear hT hT' hG hF hQ QQ L
    go_wp2_with fail
    refine bodyPost_ret (results_ct rfl aggT31 rfl x2 rfl) rfl ?_
    exact ⟨rfl, hl9⟩
end Go.Proofs.Ytpdenhmkpiafiaa
