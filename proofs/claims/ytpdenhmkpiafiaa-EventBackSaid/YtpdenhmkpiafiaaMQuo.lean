/-
  muldiv.Quo: a number of 512 bits divided by one of 256: how often, and what is left, or that there is none.
-/
import Derived.Test.YtpdenhmkpiafiaaMTake
namespace Go.Proofs.Ytpdenhmkpiafiaa
open Go Go.RowKit K6

def quoB (n d : Nat) : Bool := decide (d ≠ 0 ∧ n / d < M)
def quoN (n d : Nat) : Nat := if d ≠ 0 ∧ n / d < M then n / d else 0
def remN (n d : Nat) : Nat := if d ≠ 0 ∧ n / d < M then n % d else 0
theorem put_bit (m k : Nat) :
    upd (wordsOf (2 ^ (k + 1) * m)) (k / 64) (bits .or .u64 (wordsOf (2 ^ (k + 1) * m) (k / 64)) (((2 ^ (k % 64) : Nat) : Int))) = wordsOf (2 ^ (k + 1) * m + 2 ^ k) := by
  have hB : 2 ^ k < 2 ^ (k + 1) := Nat.pow_lt_pow_right (by decide) (by omega)
  have hor := Nat.two_pow_add_eq_or_of_lt hB m
  have hw : ∀ q, (2 ^ (k + 1) * m + 2 ^ k) / 2 ^ (64 * q) % 2 ^ 64 = (2 ^ (k + 1) * m) / 2 ^ (64 * q) % 2 ^ 64 ||| (2 ^ k) / 2 ^ (64 * q) % 2 ^ 64 := fun q => by
    rw [hor, Nat.or_div_two_pow, Nat.or_mod_two_pow]
  have hlt : 2 ^ (k % 64) < 2 ^ 64 := Nat.pow_lt_pow_right (by decide) (Nat.mod_lt _ (by decide))
  have hat : (2 ^ k) / 2 ^ (64 * (k / 64)) % 2 ^ 64 = 2 ^ (k % 64) := by
    have e : k = k % 64 + 64 * (k / 64) := by omega
    have h1 : 2 ^ k = 2 ^ (k % 64) * 2 ^ (64 * (k / 64)) := by rw [← Nat.pow_add, ← e]
    rw [h1, Nat.mul_div_cancel _ (Nat.pow_pos (by decide))]
    exact Nat.mod_eq_of_lt hlt
  have hne : ∀ q, q ≠ k / 64 → (2 ^ k) / 2 ^ (64 * q) % 2 ^ 64 = 0 := fun q hq => by
    rcases Nat.lt_or_ge (k / 64) q with h | h
    · have h1 : 2 ^ (k + 1) ≤ 2 ^ (64 * q) := Nat.pow_le_pow_right (by decide) (by omega)
      rw [Nat.div_eq_of_lt (by omega)]
    · have e : k = (k - 64 * (q + 1)) + 64 + 64 * q := by omega
      rw [e, Nat.pow_add, Nat.pow_add, Nat.mul_div_cancel _ (Nat.pow_pos (by decide)), Nat.mul_mod_left]
  funext q
  unfold upd
  by_cases e : q = k / 64
  · rw [if_pos e, e]
    unfold wordsOf
    rw [hw, hat]
    rw [u64_or_nat _ _ (Nat.mod_lt _ (by decide)) (by omega)]
  · rw [if_neg e]
    unfold wordsOf
    rw [hw, hne q e, Nat.or_zero]
/-- the quotient's bits from k on, in their places -/
def qAt (n d k : Nat) : Nat := n / 2 ^ k / d * 2 ^ k
theorem qAt_step (n d k : Nat) (hd : d ≠ 0) : ∃ m, qAt n d (k + 1) = 2 ^ (k + 1) * m ∧ qAt n d k = if d ≤ 2 * (n / 2 ^ (k + 1) % d) + bitN n k then 2 ^ (k + 1) * m + 2 ^ k else 2 ^ (k + 1) * m := by
  refine ⟨n / 2 ^ (k + 1) / d, Nat.mul_comm _ _, ?_⟩
  unfold qAt
  rw [(div_round n d k hd).1]
  unfold qN
  split
  · rw [Nat.pow_succ, Nat.add_mul, Nat.one_mul]; simp only [Nat.mul_assoc, Nat.mul_comm, Nat.mul_left_comm]
  · rw [Nat.pow_succ]; simp only [Nat.mul_assoc, Nat.mul_comm, Nat.mul_left_comm]
theorem qAt_lt {n d : Nat} (k : Nat) (h : n / d < M) : qAt n d k < M := by
  have : qAt n d k ≤ n / d := by
    unfold qAt
    rw [Nat.div_div_eq_div_mul, Nat.mul_comm (2 ^ k) d, ← Nat.div_div_eq_div_mul]
    exact Nat.div_mul_le_self _ _
  omega
theorem wide_lt {h l : Nat} (hh : h < M) (hl : l < M) : h * M + l < M * M := by
  have : (h + 1) * M ≤ M * M := Nat.mul_le_mul_right _ hh
  rw [Nat.add_mul, Nat.one_mul] at this
  omega
theorem log_sq {n k P : Nat} (hP : P = 2 ^ k) (h : n < P * P) (h0 : n ≠ 0) : n.log2 < k + k := (Nat.log2_lt h0).2 (by rw [Nat.pow_add, ← hP]; exact h)
theorem wide_quo {h l d : Nat} (hl : l < M) (hd : d ≠ 0) : (h * M + l) / d < M ↔ h < d := by
  rw [Nat.div_lt_iff_lt_mul (by omega)]
  constructor
  · intro h1
    refine Nat.lt_of_not_le fun h2 => ?_
    have := Nat.mul_le_mul_right M h2
    rw [Nat.mul_comm M d] at h1
    omega
  · intro h1
    have : (h + 1) * M ≤ d * M := Nat.mul_le_mul_right _ h1
    rw [Nat.add_mul, Nat.one_mul, Nat.mul_comm d M] at this
    omega
theorem div_log (n : Nat) : n / 2 ^ blen n = 0 := by
  unfold blen
  split
  · rename_i h; rw [h, Nat.zero_div]
  · rename_i h; exact Nat.div_eq_of_lt ((Nat.log2_lt h).1 (by omega))
theorem blen_le512 {n : Nat} (h : n < M * M) : blen n ≤ 512 := by
  unfold blen
  split
  · omega
  · rename_i h0
    have := log_sq M_eq h h0
    omega

set_option maxRecDepth 100000 in
set_option maxHeartbeats 8000000 in
theorem mquo_any {h l d : Nat} (hh : h < M) (hlM : l < M) (hd : d < M) (w : World) :
    Calls Try.prog 92 #[.agg (W8 h l), .agg (W4 d)] w (Ret w (.tuple #[.agg (W4 (quoN (h * M + l) d)), .agg (W4 (remN (h * M + l) d)), .bool (quoB (h * M + l) d)])) := by
  go_enter Try.func92, Try.ntmps92
  apply wp_seq_eq
  focus
    intro J hJ
    go_wp2_with fail
    exact hJ
  refine wp_abs (Mem w [(w.heap.size, 92, W8 h l), (w.heap.size + 1, 31, W4 d), (w.heap.size + 1 + 1, 31, arr .u64 (fun _ => 0) 4), (w.heap.size + 1 + 1 + 1, 31, arr .u64 (fun _ => 0) 4)]) ⟨by go_grown, ?_, ?_, ?_, ?_, trivial⟩ ?_
  · repeat (first | (refine Row.new_at ?_; simp; done) | refine Row.alloc ?_ _)
  · repeat (first | (refine Row.new_at ?_; simp; done) | refine Row.alloc ?_ _)
  · repeat (first | (refine Row.new_at ?_; simp; done) | refine Row.alloc ?_ _)
  · repeat (first | (refine Row.new_at ?_; simp; done) | refine Row.alloc ?_ _)
  intro w0 hM
  obtain ⟨hl, r0, r1, r2, r3, -⟩ := hM
  by_cases h0 : h = 0
  · have Q0 : ∀ wx, (Op.equalIn 10000 31 (.agg (W4 h)) (.agg #[.int .u64 0, .int .u64 0, .int .u64 0, .int .u64 0])).run Try.prog wx = .ok true wx := fun wx => by rw [eqU0 hh, decide_eq_true h0]
    have fin := Lib.hid (show quoN (h * M + l) d = l / d ∧ remN (h * M + l) d = divR l d ∧ quoB (h * M + l) d = !decide (d = 0) by
      have e : h * M + l = l := by rw [h0]; simp
      have hle := Nat.div_le_self l d
      rw [e]
      unfold quoN remN quoB divR
      by_cases d0 : d = 0
      · rw [if_neg (by simp [d0]), if_neg (by simp [d0]), if_pos d0, decide_eq_false (by simp [d0])]
        exact ⟨by rw [d0, Nat.div_zero], rfl, by simp [d0]⟩
      · rw [if_pos ⟨d0, by omega⟩, if_pos ⟨d0, by omega⟩, if_neg d0, decide_eq_true ⟨d0, by omega⟩]
        exact ⟨rfl, rfl, by simp [d0]⟩)
    clear h0
    go_upto_region 1 with (fail)
    let L : List Sp := []
    refine wp_region_six0 (shs L) (look6 L) (None_) (by kernel_rfl) (by kernel_rfl) (mk_St L [] [] (by kernel_rfl) (by kernel_rfl) trivial (by simp)) ?_
    intro QQ hQ
    -- 0: fieldAddr<92> t2.0
    refine stepK rfl (by kernel_rfl) (fun K hK => ?_); go_simp
    apply Exists.intro; apply And.intro; (focus (intro wk hk; go_simp; exact ⟨rfl, rfl⟩)); refine hK _ _ ?_; clear hK K
    -- 1: load<31> *t10
    refine stepK rfl (by kernel_rfl) (fun K hK => ?_); go_simp
    apply Exists.intro; apply And.intro; (focus exact kLoadMid rfl rfl aggT31 r0 (W8_hi h l) rfl id); refine hK _ _ ?_; clear hK K
    -- 2: build<31> 
    refine stepK rfl (by kernel_rfl) (fun K hK => ?_); go_simp
    apply Exists.intro; apply And.intro; (focus (intro wk hk; go_simp; exact ⟨rfl, rfl⟩)); refine hK _ _ ?_; clear hK K
    -- 3: eql<31> t11, t12
    refine stepK rfl (by kernel_rfl) (fun K hK => ?_); go_simp
    apply Exists.intro; apply And.intro; (focus (intro wk hk; go_simp; exact ⟨rfl, rfl⟩)); refine hK _ _ ?_; clear hK K
    refine stepN ?_
    refine hQ _ _ ?_
    intro w1 hT hG hF
    have hbw1 := hT.below
    replace r0 := r0.below hbw1 r0.lt
    replace r1 := r1.below hbw1 r1.lt
    replace r2 := r2.below hbw1 r2.lt
    replace r3 := r3.below hbw1 r3.lt
    replace hl := hl.trans (hbw1.mono hl.size)
    clear hT hG hF hbw1 hQ QQ L 
    go_upto_region 2 with (fail)
    let L : List Sp := [sV 3 [] [] (fun u => u = .tuple #[.agg (W4 (l / d)), .agg (W4 (divR l d)), .bool (decide (d ≠ 0))]), sO 7 (w.heap.size + 1 + 1) 31 [4] (fun g => aggOf g 4), sO 8 (w.heap.size + 1 + 1 + 1) 31 [5] (fun g => aggOf g 5)]
    refine wp_region_six0 (shs L) (look6 L) (fun c => c = w.heap.size + 1 + 1 ∨ c = w.heap.size + 1 + 1 + 1) (by kernel_rfl) (by kernel_rfl) (mk_St L [7, 8] [7, 8] (by kernel_rfl) (by kernel_rfl) ⟨ok_V ⟨_, rfl⟩, ok_O aggOf_congr r2.lt (Or.inl rfl), ok_O aggOf_congr r3.lt (Or.inr rfl), trivial⟩ (by intro i hi j hj hij b hb hb'; simp only [List.mem_cons, List.not_mem_nil, or_false] at hi hj; rcases hi with rfl | rfl <;> rcases hj with rfl | rfl <;> first | exact absurd rfl hij | (have h1 : b = _ := hb; have h2 : b = _ := hb'; omega))) ?_
    intro QQ hQ
    -- 0: fieldAddr<92> t2.1
    refine stepK rfl (by kernel_rfl) (fun K hK => ?_); go_simp
    apply Exists.intro; apply And.intro; (focus (intro wk hk; go_simp; exact ⟨rfl, rfl⟩)); refine hK _ _ ?_; clear hK K
    -- 1: load<31> *t14
    refine stepK rfl (by kernel_rfl) (fun K hK => ?_); go_simp
    apply Exists.intro; apply And.intro; (focus exact kLoadMid rfl rfl aggT31 r0 (W8_lo h l) rfl id); refine hK _ _ ?_; clear hK K
    -- 2: load<31> *t3
    refine stepK rfl (by kernel_rfl) (fun K hK => ?_); go_simp
    apply Exists.intro; apply And.intro; (focus exact kLoad rfl rfl aggT31 r1 rfl id); refine hK _ _ ?_; clear hK K
    -- 3: call F55(t15, t16)
    refine stepS _ rfl (by kernel_rfl) (fun K hK => ?_); go_simp
    refine ⟨?_, ?_⟩
    · intro wk hk hg hu; go_simp; refine upon_enter ((divU hlM hd _).mono ?_); rintro e w' ⟨rfl, hb⟩; exact ⟨_, rfl, left_V (p := fun u => u = .tuple #[.agg (W4 (l / d)), .agg (W4 (divR l d)), .bool (decide (d ≠ 0))]) rfl (hb) rfl⟩
    rintro ⟨v3, lo3, hi3⟩ - - (rfl : v3 = _)
    refine hK _ _ ?_; clear hK K
    -- 4: extract t17 #0
    refine stepK rfl (by kernel_rfl) (fun K hK => ?_); go_simp
    apply Exists.intro; apply And.intro; (focus (intro wk hk; go_simp; exact ⟨rfl, rfl⟩)); refine hK _ _ ?_; clear hK K
    -- 5: extract t17 #1
    refine stepK rfl (by kernel_rfl) (fun K hK => ?_); go_simp
    apply Exists.intro; apply And.intro; (focus (intro wk hk; go_simp; exact ⟨rfl, rfl⟩)); refine hK _ _ ?_; clear hK K
    -- 6: extract t17 #2
    refine stepK rfl (by kernel_rfl) (fun K hK => ?_); go_simp
    apply Exists.intro; apply And.intro; (focus (intro wk hk; go_simp; exact ⟨rfl, rfl⟩)); refine hK _ _ ?_; clear hK K
    -- 7: store<31> *t4 = t18
    refine stepS _ rfl (by kernel_rfl) (fun K hK => ?_); go_simp
    refine ⟨?_, ?_⟩
    · exact sStoreO rfl rfl rfl rfl rfl rfl r2 id (by kernel_rfl) rfl (by kernel_rfl) (by decide) aggOf_congr
    rintro ⟨v7, lo7, hi7⟩ - - (rfl : v7 = undef)
    refine hK _ _ ?_; clear hK K
    -- 8: store<31> *t5 = t19
    refine stepSx _ [7] (fun c => c = w.heap.size + 1 + 1) rfl (by kernel_rfl) (by intro i hi b hb; simp only [List.mem_cons, List.not_mem_nil, or_false] at hi; subst hi; exact hb) (fun K hK => ?_); go_simp
    refine ⟨?_, ?_⟩
    · exact sStoreO rfl rfl rfl rfl rfl rfl r3 (by omega) (by kernel_rfl) rfl (by kernel_rfl) (by decide) aggOf_congr
    rintro ⟨v8, lo8, hi8⟩ - - (rfl : v8 = undef)
    refine hK _ _ ?_; clear hK K
    -- 9: assign t20
    refine stepKz rfl (fun K hK => ?_); go_simp
    apply Exists.intro; apply And.intro; (focus (intro wk hk; go_simp; exact ⟨rfl, rfl⟩)); refine hK _ _ ?_; clear hK K
    refine stepN ?_
    refine hQ _ _ ?_
    intro w9 hT hG hF
    have hT' := hT
    have x2 : Row w9 (w.heap.size + 1 + 1) 31 (W4 (l / d)) := hF 7 _ rfl rfl (by decide)
    have x3 : Row w9 (w.heap.size + 1 + 1 + 1) 31 (W4 (divR l d)) := hF 8 _ rfl rfl (by decide)
    have hl9 : Below w.heap.size w w9 := hl.trans (hT'.below_of hl.size (by intro c hc; omega))
    clear hT hT' hG hF hQ QQ L
    go_wp2_with fail
    refine bodyPost_ret (results_cct rfl aggT31 aggT31 rfl rfl x2 x3 rfl rfl) rfl ?_
    exact ⟨by rw [fin.out.1, fin.out.2.1, fin.out.2.2]; rfl, hl9⟩
  · have Q0 : ∀ wx, (Op.equalIn 10000 31 (.agg (W4 h)) (.agg #[.int .u64 0, .int .u64 0, .int .u64 0, .int .u64 0])).run Try.prog wx = .ok false wx := fun wx => by rw [eqU0 hh, decide_eq_false h0]
    go_upto_region 1 with (fail)
    let L : List Sp := []
    refine wp_region_six0 (shs L) (look6 L) (None_) (by kernel_rfl) (by kernel_rfl) (mk_St L [] [] (by kernel_rfl) (by kernel_rfl) trivial (by simp)) ?_
    intro QQ hQ
    -- 0: fieldAddr<92> t2.0
    refine stepK rfl (by kernel_rfl) (fun K hK => ?_); go_simp
    apply Exists.intro; apply And.intro; (focus (intro wk hk; go_simp; exact ⟨rfl, rfl⟩)); refine hK _ _ ?_; clear hK K
    -- 1: load<31> *t10
    refine stepK rfl (by kernel_rfl) (fun K hK => ?_); go_simp
    apply Exists.intro; apply And.intro; (focus exact kLoadMid rfl rfl aggT31 r0 (W8_hi h l) rfl id); refine hK _ _ ?_; clear hK K
    -- 2: build<31> 
    refine stepK rfl (by kernel_rfl) (fun K hK => ?_); go_simp
    apply Exists.intro; apply And.intro; (focus (intro wk hk; go_simp; exact ⟨rfl, rfl⟩)); refine hK _ _ ?_; clear hK K
    -- 3: eql<31> t11, t12
    refine stepK rfl (by kernel_rfl) (fun K hK => ?_); go_simp
    apply Exists.intro; apply And.intro; (focus (intro wk hk; go_simp; exact ⟨rfl, rfl⟩)); refine hK _ _ ?_; clear hK K
    refine stepN ?_
    refine hQ _ _ ?_
    intro w1 hT hG hF
    have hbw1 := hT.below
    replace r0 := r0.below hbw1 r0.lt
    replace r1 := r1.below hbw1 r1.lt
    replace r2 := r2.below hbw1 r2.lt
    replace r3 := r3.below hbw1 r3.lt
    replace hl := hl.trans (hbw1.mono hl.size)
    clear hT hG hF hbw1 hQ QQ L Q0
    by_cases hhd : d ≤ h
    · have hc : decide (0 ≤ cmpN h d) = true := decide_eq_true (by unfold cmpN; rw [if_neg (by omega)]; split <;> omega)
      have fin := Lib.hid (show quoN (h * M + l) d = 0 ∧ remN (h * M + l) d = 0 ∧ quoB (h * M + l) d = false by
        have hno : ¬ (d ≠ 0 ∧ (h * M + l) / d < M) := fun ⟨h1, h2⟩ => by have := (wide_quo hlM h1).1 h2; omega
        exact ⟨if_neg hno, if_neg hno, decide_eq_false hno⟩)
      clear hhd h0
      go_upto_region 3 with (fail)
      let L : List Sp := [sV 3 [] [] (fun u => u = .int .i64 (cmpN h d))]
      refine wp_region_six0 (shs L) (look6 L) (None_) (by kernel_rfl) (by kernel_rfl) (mk_St L [] [] (by kernel_rfl) (by kernel_rfl) ⟨ok_V ⟨_, rfl⟩, trivial⟩ (by simp)) ?_
      intro QQ hQ
      -- 0: fieldAddr<92> t2.0
      refine stepK rfl (by kernel_rfl) (fun K hK => ?_); go_simp
      apply Exists.intro; apply And.intro; (focus (intro wk hk; go_simp; exact ⟨rfl, rfl⟩)); refine hK _ _ ?_; clear hK K
      -- 1: load<31> *t21
      refine stepK rfl (by kernel_rfl) (fun K hK => ?_); go_simp
      apply Exists.intro; apply And.intro; (focus exact kLoadMid rfl rfl aggT31 r0 (W8_hi h l) rfl id); refine hK _ _ ?_; clear hK K
      -- 2: load<31> *t3
      refine stepK rfl (by kernel_rfl) (fun K hK => ?_); go_simp
      apply Exists.intro; apply And.intro; (focus exact kLoad rfl rfl aggT31 r1 rfl id); refine hK _ _ ?_; clear hK K
      -- 3: call F48(t22, t23)
      refine stepS _ rfl (by kernel_rfl) (fun K hK => ?_); go_simp
      refine ⟨?_, ?_⟩
      · intro wk hk hg hu; go_simp; refine upon_enter ((cmpU hh hd _).mono ?_); rintro e w' ⟨rfl, hb⟩; exact ⟨_, rfl, left_V (p := fun u => u = .int .i64 (cmpN h d)) rfl (hb) rfl⟩
      rintro ⟨v3, lo3, hi3⟩ - - (rfl : v3 = _)
      refine hK _ _ ?_; clear hK K
      -- 4: geq<3> t24, 0
      refine stepK rfl (by kernel_rfl) (fun K hK => ?_); go_simp
      apply Exists.intro; apply And.intro; (focus (intro wk hk; go_simp; exact ⟨rfl, rfl⟩)); refine hK _ _ ?_; clear hK K
      refine stepN ?_
      refine hQ _ _ ?_
      intro w2 hT hG hF
      have hbw2 := hT.below
      replace r0 := r0.below hbw2 r0.lt
      replace r1 := r1.below hbw2 r1.lt
      replace r2 := r2.below hbw2 r2.lt
      replace r3 := r3.below hbw2 r3.lt
      replace hl := hl.trans (hbw2.mono hl.size)
      clear hT hG hF hbw2 hQ QQ L 
      go_upto_region 4 with (fail)
      let L : List Sp := [sO 2 (w.heap.size + 1 + 1) 31 [0] (fun g => aggOf g 0), sO 3 (w.heap.size + 1 + 1 + 1) 31 [1] (fun g => aggOf g 1)]
      refine wp_region_six0 (shs L) (look6 L) (fun c => c = w.heap.size + 1 + 1 ∨ c = w.heap.size + 1 + 1 + 1) (by kernel_rfl) (by kernel_rfl) (mk_St L [2, 3] [2, 3] (by kernel_rfl) (by kernel_rfl) ⟨ok_O aggOf_congr r2.lt (Or.inl rfl), ok_O aggOf_congr r3.lt (Or.inr rfl), trivial⟩ (by intro i hi j hj hij b hb hb'; simp only [List.mem_cons, List.not_mem_nil, or_false] at hi hj; rcases hi with rfl | rfl <;> rcases hj with rfl | rfl <;> first | exact absurd rfl hij | (have h1 : b = _ := hb; have h2 : b = _ := hb'; omega))) ?_
      intro QQ hQ
      -- 0: build<31> 
      refine stepK rfl (by kernel_rfl) (fun K hK => ?_); go_simp
      apply Exists.intro; apply And.intro; (focus (intro wk hk; go_simp; exact ⟨rfl, rfl⟩)); refine hK _ _ ?_; clear hK K
      -- 1: build<31> 
      refine stepKz rfl (fun K hK => ?_); go_simp
      apply Exists.intro; apply And.intro; (focus (intro wk hk; go_simp; exact ⟨rfl, rfl⟩)); refine hK _ _ ?_; clear hK K
      -- 2: store<31> *t4 = t26
      refine stepS _ rfl (by kernel_rfl) (fun K hK => ?_); go_simp
      refine ⟨?_, ?_⟩
      · exact sStoreO rfl rfl rfl rfl rfl rfl r2 id (by kernel_rfl) rfl (by kernel_rfl) (by decide) aggOf_congr
      rintro ⟨v2, lo2, hi2⟩ - - (rfl : v2 = undef)
      refine hK _ _ ?_; clear hK K
      -- 3: store<31> *t5 = t27
      refine stepSx _ [2] (fun c => c = w.heap.size + 1 + 1) rfl (by kernel_rfl) (by intro i hi b hb; simp only [List.mem_cons, List.not_mem_nil, or_false] at hi; subst hi; exact hb) (fun K hK => ?_); go_simp
      refine ⟨?_, ?_⟩
      · exact sStoreO rfl rfl rfl rfl rfl rfl r3 (by omega) (by kernel_rfl) rfl (by kernel_rfl) (by decide) aggOf_congr
      rintro ⟨v3, lo3, hi3⟩ - - (rfl : v3 = undef)
      refine hK _ _ ?_; clear hK K
      -- 4: assign false
      refine stepKz rfl (fun K hK => ?_); go_simp
      apply Exists.intro; apply And.intro; (focus (intro wk hk; go_simp; exact ⟨rfl, rfl⟩)); refine hK _ _ ?_; clear hK K
      refine stepN ?_
      refine hQ _ _ ?_
      intro w9 hT hG hF
      have hT' := hT
      have x2 : Row w9 (w.heap.size + 1 + 1) 31 (W4 0) := Row.congr (show Row w9 (w.heap.size + 1 + 1) 31 _ from hF 2 _ rfl rfl (by decide)) W4_zero
      have x3 : Row w9 (w.heap.size + 1 + 1 + 1) 31 (W4 0) := Row.congr (show Row w9 (w.heap.size + 1 + 1 + 1) 31 _ from hF 3 _ rfl rfl (by decide)) W4_zero
      have hl9 : Below w.heap.size w w9 := hl.trans (hT'.below_of hl.size (by intro c hc; omega))
      clear hT hT' hG hF hQ QQ L
      go_wp2_with fail
      refine bodyPost_ret (results_cct rfl aggT31 aggT31 rfl rfl x2 x3 rfl rfl) rfl ?_
      exact ⟨by rw [fin.out.1, fin.out.2.1, fin.out.2.2]; rfl, hl9⟩
    · have hc : decide (0 ≤ cmpN h d) = false := decide_eq_false (by unfold cmpN; rw [if_pos (by omega)]; omega)
      have d0 : d ≠ 0 := by omega
      have hq : (h * M + l) / d < M := (wide_quo hlM d0).2 (by omega)
      have fin := Lib.hid (show quoN (h * M + l) d = (h * M + l) / d ∧ remN (h * M + l) d = (h * M + l) % d ∧ quoB (h * M + l) d = true from ⟨if_pos ⟨d0, hq⟩, if_pos ⟨d0, hq⟩, decide_eq_true ⟨d0, hq⟩⟩)
      clear hhd h0
      go_upto_region 3 with (fail)
      let L : List Sp := [sV 3 [] [] (fun u => u = .int .i64 (cmpN h d))]
      refine wp_region_six0 (shs L) (look6 L) (None_) (by kernel_rfl) (by kernel_rfl) (mk_St L [] [] (by kernel_rfl) (by kernel_rfl) ⟨ok_V ⟨_, rfl⟩, trivial⟩ (by simp)) ?_
      intro QQ hQ
      -- 0: fieldAddr<92> t2.0
      refine stepK rfl (by kernel_rfl) (fun K hK => ?_); go_simp
      apply Exists.intro; apply And.intro; (focus (intro wk hk; go_simp; exact ⟨rfl, rfl⟩)); refine hK _ _ ?_; clear hK K
      -- 1: load<31> *t21
      refine stepK rfl (by kernel_rfl) (fun K hK => ?_); go_simp
      apply Exists.intro; apply And.intro; (focus exact kLoadMid rfl rfl aggT31 r0 (W8_hi h l) rfl id); refine hK _ _ ?_; clear hK K
      -- 2: load<31> *t3
      refine stepK rfl (by kernel_rfl) (fun K hK => ?_); go_simp
      apply Exists.intro; apply And.intro; (focus exact kLoad rfl rfl aggT31 r1 rfl id); refine hK _ _ ?_; clear hK K
      -- 3: call F48(t22, t23)
      refine stepS _ rfl (by kernel_rfl) (fun K hK => ?_); go_simp
      refine ⟨?_, ?_⟩
      · intro wk hk hg hu; go_simp; refine upon_enter ((cmpU hh hd _).mono ?_); rintro e w' ⟨rfl, hb⟩; exact ⟨_, rfl, left_V (p := fun u => u = .int .i64 (cmpN h d)) rfl (hb) rfl⟩
      rintro ⟨v3, lo3, hi3⟩ - - (rfl : v3 = _)
      refine hK _ _ ?_; clear hK K
      -- 4: geq<3> t24, 0
      refine stepK rfl (by kernel_rfl) (fun K hK => ?_); go_simp
      apply Exists.intro; apply And.intro; (focus (intro wk hk; go_simp; exact ⟨rfl, rfl⟩)); refine hK _ _ ?_; clear hK K
      refine stepN ?_
      refine hQ _ _ ?_
      intro w2 hT hG hF
      have hbw2 := hT.below
      replace r0 := r0.below hbw2 r0.lt
      replace r1 := r1.below hbw2 r1.lt
      replace r2 := r2.below hbw2 r2.lt
      replace r3 := r3.below hbw2 r3.lt
      replace hl := hl.trans (hbw2.mono hl.size)
      clear hT hG hF hbw2 hQ QQ L 
      go_upto_region 7 with (fail)
      have z3 := r3.lt
      refine wp_abs (Mem w [(w.heap.size, 92, W8 h l), (w.heap.size + 1, 31, W4 d), (w.heap.size + 1 + 1, 31, arr .u64 (fun _ => 0) 4), (w.heap.size + 1 + 1 + 1, 31, arr .u64 (fun _ => 0) 4), (w2.heap.size, 31, arr .u64 (fun _ => 0) 4), (w2.heap.size + 1, 184, arr .u64 (fun _ => 0) 5)]) ⟨by go_grown, (r0.alloc _).alloc _, (r1.alloc _).alloc _, (r2.alloc _).alloc _, (r3.alloc _).alloc _, (Row.new_at rfl).alloc _, Row.new_at (by simp), trivial⟩ ?_
      clear hl r0 r1 r2 r3
      intro w3 hM
      obtain ⟨hl, r0, r1, r2, r3, r4, r5, -⟩ := hM
      have hbl := blen_le512 (wide_lt hh hlM)
      have hbi : ((blen (h * M + l) : Nat) : Int) ≤ 512 := by omega
      have hbw : IntKind.i64.wrap (((blen (h * M + l) : Nat) : Int) - 1) = ((blen (h * M + l) : Nat) : Int) - 1 := IntWalk.i64_in _ (by omega)
      let L : List Sp := [sV 1 [] [] (fun u => u = .int .i64 ((blen (h * M + l) : Nat) : Int))]
      refine wp_region_six0 (shs L) (look6 L) (None_) (by kernel_rfl) (by kernel_rfl) (mk_St L [] [] (by kernel_rfl) (by kernel_rfl) ⟨ok_V ⟨_, rfl⟩, trivial⟩ (by simp)) ?_
      intro QQ hQ
      -- 0: load<92> *t2
      refine stepK rfl (by kernel_rfl) (fun K hK => ?_); go_simp
      apply Exists.intro; apply And.intro; (focus exact kLoad rfl rfl aggT92 r0 rfl id); refine hK _ _ ?_; clear hK K
      -- 1: call F194(t28)
      refine stepS _ rfl (by kernel_rfl) (fun K hK => ?_); go_simp
      refine ⟨?_, ?_⟩
      · intro wk hk hg hu; go_simp; refine upon_enter ((mbits_any hh hlM _).mono ?_); rintro e w' ⟨rfl, hb⟩; exact ⟨_, rfl, left_V (p := fun u => u = .int .i64 ((blen (h * M + l) : Nat) : Int)) rfl (hb) rfl⟩
      rintro ⟨v1, lo1, hi1⟩ - - (rfl : v1 = _)
      refine hK _ _ ?_; clear hK K
      -- 2: sub<3> t29, 1
      refine stepK rfl (by kernel_rfl) (fun K hK => ?_); go_simp
      apply Exists.intro; apply And.intro; (focus (intro wk hk; go_simp; exact ⟨rfl, rfl⟩)); refine hK _ _ ?_; clear hK K
      -- 3: assign t30
      refine stepK rfl (by kernel_rfl) (fun K hK => ?_); go_simp
      apply Exists.intro; apply And.intro; (focus (intro wk hk; go_simp; exact ⟨rfl, rfl⟩)); refine hK _ _ ?_; clear hK K
      refine stepN ?_
      refine hQ _ _ ?_
      intro w4 hT hG hF
      have hbw4 := hT.below
      replace r0 := r0.below hbw4 r0.lt
      replace r1 := r1.below hbw4 r1.lt
      replace r2 := r2.below hbw4 r2.lt
      replace r3 := r3.below hbw4 r3.lt
      replace r4 := r4.below hbw4 r4.lt
      replace r5 := r5.below hbw4 r5.lt
      replace hl := hl.trans (hbw4.mono hl.size)
      clear hT hG hF hbw4 hQ QQ L 
      go_wp2_with fail
      go_loopg [9] (blen (h * M + l)) (fun gg i wr => ∃ (k : Nat) (f : Nat → Int), k = gg ∧ k ≤ blen (h * M + l) ∧ i = .int .i64 ((k : Int) - 1) ∧ Below w.heap.size w wr ∧ Row wr (w.heap.size) 92 (W8 h l) ∧ Row wr (w.heap.size + 1) 31 (W4 d) ∧ Row wr (w.heap.size + 1 + 1) 31 (arr .u64 (fun _ => 0) 4) ∧ Row wr (w.heap.size + 1 + 1 + 1) 31 (arr .u64 (fun _ => 0) 4) ∧ Row wr (w2.heap.size) 31 (arr .u64 (wordsOf (qAt (h * M + l) d k)) 4) ∧ Row wr (w2.heap.size + 1) 184 (arr .u64 f 5) ∧ Wordy f ∧ IsW (f 0) (f 1) (f 2) (f 3) ((h * M + l) / 2 ^ k % d))
      case atStart =>
        refine ⟨_, fun _ => 0, rfl, Nat.le_refl _, rfl, hl, r0, r1, r2, r3, r4.congr ?_, r5, wordy_zero, ?_⟩
        · unfold qAt; rw [div_log, Nat.zero_div, Nat.zero_mul, wordsOf_zero]
        · rw [div_log, Nat.zero_mod]; exact isW_zero
      case round =>
        clear r0 r1 r2 r3 r4 r5 hl
        obtain ⟨k, f, rfl, hkb, rfl, hl, r0, r1, r2, r3, r4, r5, hfW, hfR⟩ := hrel
        rcases k with _ | k
        · clear hkb
          have hq0 : qAt (h * M + l) d 0 = (h * M + l) / d := by unfold qAt; simp
          rw [hq0] at r4
          rw [Nat.pow_zero, Nat.div_one] at hfR
          have fin2 := fin.out
          obtain ⟨qq, hqq⟩ : ∃ qq, qq = (h * M + l) / d := ⟨_, rfl⟩
          obtain ⟨rm, hrm⟩ : ∃ rm, rm = (h * M + l) % d := ⟨_, rfl⟩
          rw [← hqq, ← hrm] at fin2
          rw [← hqq] at r4
          rw [← hrm] at hfR
          have fin3 := Lib.hid fin2
          have r4' : Row wr (w2.heap.size) 31 (W4 qq) := r4
          clear hqq hrm fin2 hq0 hq r4
          have r4 := r4'
          go_upto_region 12 with (fail)
          let L : List Sp := [sO 3 (w.heap.size + 1 + 1) 31 [0] (fun g => aggOf g 0), sO 4 (w.heap.size + 1 + 1 + 1) 31 [2] (fun g => aggOf g 2)]
          refine wp_region_six (shs L) (look6 L) (fun c => c = w.heap.size + 1 + 1 ∨ c = w.heap.size + 1 + 1 + 1) (by kernel_rfl) (by kernel_rfl) (mk_St L [3, 4] [3, 4] (by kernel_rfl) (by kernel_rfl) ⟨ok_O aggOf_congr r2.lt (Or.inl rfl), ok_O aggOf_congr r3.lt (Or.inr rfl), trivial⟩ (by intro i hi j hj hij b hb hb'; simp only [List.mem_cons, List.not_mem_nil, or_false] at hi hj; rcases hi with rfl | rfl <;> rcases hj with rfl | rfl <;> first | exact absurd rfl hij | (have h1 : b = _ := hb; have h2 : b = _ := hb'; omega))) ?_
          intro QQ hQ
          -- 0: load<31> *t7
          refine stepK rfl (by kernel_rfl) (fun K hK => ?_); go_simp
          apply Exists.intro; apply And.intro; (focus exact kLoad rfl rfl aggT31 r4 rfl id); refine hK _ _ ?_; clear hK K
          -- 1: fieldAddr<184> t8.0
          refine stepKz rfl (fun K hK => ?_); go_simp
          apply Exists.intro; apply And.intro; (focus (intro wk hk; go_simp; exact ⟨rfl, rfl⟩)); refine hK _ _ ?_; clear hK K
          -- 2: load<31> *t50
          refine stepKz rfl (fun K hK => ?_); go_simp
          apply Exists.intro; apply And.intro; (focus exact kLoadMid rfl rfl aggT31 r5 (row5_hi hfR) rfl (by omega)); refine hK _ _ ?_; clear hK K
          -- 3: store<31> *t4 = t49
          refine stepS _ rfl (by kernel_rfl) (fun K hK => ?_); go_simp
          refine ⟨?_, ?_⟩
          · exact sStoreO rfl rfl rfl rfl rfl rfl r2 id (by kernel_rfl) rfl (by kernel_rfl) (by decide) aggOf_congr
          rintro ⟨v3, lo3, hi3⟩ - - (rfl : v3 = undef)
          refine hK _ _ ?_; clear hK K
          -- 4: store<31> *t5 = t51
          refine stepSx _ [3] (fun c => c = w.heap.size + 1 + 1) rfl (by kernel_rfl) (by intro i hi b hb; simp only [List.mem_cons, List.not_mem_nil, or_false] at hi; subst hi; exact hb) (fun K hK => ?_); go_simp
          refine ⟨?_, ?_⟩
          · exact sStoreO rfl rfl rfl rfl rfl rfl r3 (by omega) (by kernel_rfl) rfl (by kernel_rfl) (by decide) aggOf_congr
          rintro ⟨v4, lo4, hi4⟩ - - (rfl : v4 = undef)
          refine hK _ _ ?_; clear hK K
          -- 5: assign true
          refine stepKz rfl (fun K hK => ?_); go_simp
          apply Exists.intro; apply And.intro; (focus (intro wk hk; go_simp; exact ⟨rfl, rfl⟩)); refine hK _ _ ?_; clear hK K
          refine stepN ?_
          refine hQ _ _ ?_
          intro w9 hT hG hF
          have hT' := hT.undrew
          have x2 : Row w9 (w.heap.size + 1 + 1) 31 (W4 qq) := hF 3 _ rfl rfl (by decide)
          have x3 : Row w9 (w.heap.size + 1 + 1 + 1) 31 (W4 rm) := hF 4 _ rfl rfl (by decide)
          have hl9 : Below w.heap.size w w9 := hl.trans (hT'.below_of hl.size (by intro c hc; omega))
          clear hT hT' hG hF hQ QQ L
          go_wp2_with fail
          refine bodyPost_ret (results_cct rfl aggT31 aggT31 rfl rfl x2 x3 rfl rfl) rfl ?_
          exact ⟨by rw [fin3.out.1, fin3.out.2.1, fin3.out.2.2]; rfl, hl9⟩
        · rw [show ((k + 1 : Nat) : Int) - 1 = (k : Int) by omega]
          have hk5 : k < 512 := by omega
          have e0 : (0 : Int) ≤ (k : Int) := by omega
          obtain ⟨R, hR⟩ : ∃ R, R = (h * M + l) / 2 ^ (k + 1) % d := ⟨_, rfl⟩
          obtain ⟨bt, hbt'⟩ : ∃ bt, bt = bitN (h * M + l) k := ⟨_, rfl⟩
          have hRd : R < d := hR ▸ Nat.mod_lt _ (by omega)
          have hbt : bt ≤ 1 := hbt' ▸ bitN_le _ _
          have hdr := div_round (h * M + l) d k d0
          have hqs := qAt_step (h * M + l) d k d0
          rw [← hR, ← hbt'] at hqs hdr
          rw [← hR] at hfR
          have mb : ∀ wx, Calls Try.prog 196 #[.agg (W8 h l), .int .i64 (k : Int)] wx (Ret wx (.int .u64 ((bt : Nat) : Int))) := fun wx => hbt' ▸ mbit_any hh hlM k hk5 wx
          have HH := Lib.hid (show _ ∧ _ from ⟨hdr, hqs⟩)
          clear hdr hqs hR hbt'
          go_upto_region 10 with (fail)
          let L : List Sp := [sV 2 [] [] (fun u => u = .int .u64 ((bt : Nat) : Int)), (⟨4, [], [], [], [], [], false, true, true⟩, ⟨fun _ x => x.v = .bool (decide (d ≤ 2 * R + bt)), fun _ w' => ∃ f : Nat → Int, Wordy f ∧ IsW (f 0) (f 1) (f 2) (f 3) (rN R d bt) ∧ Row w' (w2.heap.size + 1) 184 (arr .u64 f 5), (· = w2.heap.size + 1), (· = w2.heap.size + 1)⟩)]
          refine wp_region_six (shs L) (look6 L) (fun c => c = w2.heap.size + 1) (by kernel_rfl) (by kernel_rfl) (mk_St L [4] [4] (by kernel_rfl) (by kernel_rfl) ⟨ok_V ⟨_, rfl⟩, ⟨fun _ => ⟨⟨_, _, _⟩, Nat.le_refl _, Nat.le_refl _, rfl⟩, fun _ _ _ _ h => h, fun _ _ _ _ h => h, fun g w1 w2 ⟨f, h1, h2, h3⟩ hT => ⟨f, h1, h2, K6.Row.tr h3 hT fun hn => hn (.inr (.inl rfl))⟩, fun c hc => ⟨rfl, hc, by have hc' : c = _ := hc; subst hc'; exact r5.lt⟩, fun c hc => ⟨rfl, by have hc' : c = _ := hc; subst hc'; exact r5.lt⟩⟩, trivial⟩ (by simp)) ?_
          intro QQ hQ
          -- 0: load<92> *t2
          refine stepK rfl (by kernel_rfl) (fun K hK => ?_); go_simp
          apply Exists.intro; apply And.intro; (focus exact kLoad rfl rfl aggT92 r0 rfl id); refine hK _ _ ?_; clear hK K
          -- 1: t9
          refine stepK rfl (by kernel_rfl) (fun K hK => ?_); go_simp
          apply Exists.intro; apply And.intro; (focus (intro wk hk; go_simp; exact ⟨rfl, rfl⟩)); refine hK _ _ ?_; clear hK K
          -- 2: call F196(t35, t36)
          refine stepS _ rfl (by kernel_rfl) (fun K hK => ?_); go_simp
          refine ⟨?_, ?_⟩
          · intro wk hk hg hu; go_simp; refine upon_enter ((mb _).mono ?_); rintro e w' ⟨rfl, hb⟩; exact ⟨_, rfl, left_V (p := fun u => u = .int .u64 ((bt : Nat) : Int)) rfl (hb) rfl⟩
          rintro ⟨v2, lo2, hi2⟩ - - (rfl : v2 = _)
          refine hK _ _ ?_; clear hK K
          -- 3: load<31> *t3
          refine stepK rfl (by kernel_rfl) (fun K hK => ?_); go_simp
          apply Exists.intro; apply And.intro; (focus exact kLoad rfl rfl aggT31 r1 rfl id); refine hK _ _ ?_; clear hK K
          -- 4: call F195(t8, t37, t38)
          refine stepS _ rfl (by kernel_rfl) (fun K hK => ?_); go_simp
          refine ⟨?_, ?_⟩
          · intro wk hk hg hu; have rk := K6.Row.tr (w := wr) r5 hk.undrew id; go_simp; refine upon_enter ((take_any _ R d bt f hfW hfR hRd hd hbt _ rk).mono ?_); rintro e w' ⟨rfl, hT5, hex⟩; exact ⟨_, rfl, rfl, hT5.mono (fun c _ hc => .inl hc), hex⟩
          rintro ⟨v4, lo4, hi4⟩ - - (rfl : v4 = _)
          refine hK _ _ ?_; clear hK K
          refine stepN ?_
          refine hQ _ _ ?_
          intro w10 hT hG hF
          have hT' := hT.undrew
          have x0 := K6.Row.tr r0 hT' (by omega)
          have x1 := K6.Row.tr r1 hT' (by omega)
          have x2 := K6.Row.tr r2 hT' (by omega)
          have x3 := K6.Row.tr r3 hT' (by omega)
          have x4 := K6.Row.tr r4 hT' (by omega)
          obtain ⟨f', hfW', hfR', x5⟩ : ∃ f' : Nat → Int, Wordy f' ∧ IsW (f' 0) (f' 1) (f' 2) (f' 3) (rN R d bt) ∧ Row w10 (w2.heap.size + 1) 184 (arr .u64 f' 5) := hF 4 _ rfl rfl (by decide)
          have hl' : Below w.heap.size w w10 := hl.trans (hT'.below_of hl.size (by intro c hc; omega))
          clear hT hT' hG hF hQ QQ L r0 r1 r2 r3 r4 r5 hl mb
          have r0 := x0; have r1 := x1; have r2 := x2; have r3 := x3; have r4 := x4; have r5 := x5; have hl := hl'
          clear x0 x1 x2 x3 x4 x5 hl'
          by_cases hle : d ≤ 2 * R + bt
          · rw [decide_eq_true hle]
            have t1 : ((k : Int)).tdiv 64 = (k : Int) / 64 := Int.tdiv_eq_ediv_of_nonneg (by omega)
            have t2 : ((k : Int)).tmod 64 = (k : Int) % 64 := Int.tmod_eq_emod_of_nonneg (by omega)
            have t3 : IntKind.i64.wrap ((k : Int) / 64) = (k : Int) / 64 := IntWalk.i64_in _ (by omega)
            have t4 : IntKind.i64.wrap ((k : Int) % 64) = (k : Int) % 64 := IntWalk.i64_in _ (by omega)
            have t5 : 0 ≤ (k : Int) / 64 := by omega
            have hk256 : k < 256 := by
              refine Nat.lt_of_not_le fun hge => ?_
              obtain ⟨-, m, -, hm2⟩ := HH.out
              rw [if_pos hle] at hm2
              have h1 := qAt_lt (n := h * M + l) k hq
              have h2 : M ≤ 2 ^ k := by rw [M_eq]; exact Nat.pow_le_pow_right (by decide) hge
              omega
            have t6 : (k : Int) / 64 < 4 := by omega
            have t7 : ((k : Int) / 64).toNat = k / 64 := by omega
            have t8 : 0 ≤ (k : Int) % 64 := by omega
            have t9 : (k : Int) % 64 < 64 := by omega
            have t10 : ((k : Int) % 64).toNat = k % 64 := by omega
            go_upto_region 11 with (fail)
            let L : List Sp := [sO 9 (w2.heap.size) 31 [7] (fun gh => arr .u64 (upd (wordsOf (qAt (h * M + l) d (k + 1))) (k / 64) (intOf (gh 7).v)) 4)]
            refine wp_region_six (shs L) (look6 L) (fun c => c = w2.heap.size) (by kernel_rfl) (by kernel_rfl) (mk_St L [9] [9] (by kernel_rfl) (by kernel_rfl) ⟨ok_O (fun g g' h => by rw [h 7 (by simp)]) r4.lt (rfl), trivial⟩ (by simp)) ?_
            intro QQ hQ
            -- 0: t9
            refine stepK rfl (by kernel_rfl) (fun K hK => ?_); go_simp
            apply Exists.intro; apply And.intro; (focus (intro wk hk; go_simp; exact ⟨rfl, rfl⟩)); refine hK _ _ ?_; clear hK K
            -- 1: quo<3> t40, 64
            refine stepK rfl (by kernel_rfl) (fun K hK => ?_); go_simp
            apply Exists.intro; apply And.intro; (focus (intro wk hk; go_simp; exact ⟨rfl, rfl⟩)); refine hK _ _ ?_; clear hK K
            -- 2: indexAddr<31> t7[t41]
            refine stepK rfl (by kernel_rfl) (fun K hK => ?_); go_simp
            apply Exists.intro; apply And.intro; (focus (intro wk hk; go_simp; exact ⟨rfl, rfl⟩)); refine hK _ _ ?_; clear hK K
            -- 3: load<29> *t42
            refine stepK rfl (by kernel_rfl) (fun K hK => ?_); go_simp
            apply Exists.intro; apply And.intro; (focus (intro wk hk; have cc := (K6.Row.tr (w := w10) r4 hk.undrew id).at_ (k / 64) (by omega); go_simp; exact ⟨rfl, rfl⟩)); refine hK _ _ ?_; clear hK K
            -- 4: t9
            refine stepK rfl (by kernel_rfl) (fun K hK => ?_); go_simp
            apply Exists.intro; apply And.intro; (focus (intro wk hk; go_simp; exact ⟨rfl, rfl⟩)); refine hK _ _ ?_; clear hK K
            -- 5: rem<3> t44, 64
            refine stepK rfl (by kernel_rfl) (fun K hK => ?_); go_simp
            apply Exists.intro; apply And.intro; (focus (intro wk hk; go_simp; exact ⟨rfl, rfl⟩)); refine hK _ _ ?_; clear hK K
            -- 6: shl<29> 1u, t45 <3>
            refine stepK rfl (by kernel_rfl) (fun K hK => ?_); go_simp
            apply Exists.intro; apply And.intro; (focus (intro wk hk; go_simp; exact ⟨rfl, rfl⟩)); refine hK _ _ ?_; clear hK K
            -- 7: or<29> t43, t46
            refine stepK rfl (by kernel_rfl) (fun K hK => ?_); go_simp
            apply Exists.intro; apply And.intro; (focus (intro wk hk; go_simp; exact ⟨rfl, rfl⟩)); refine hK _ _ ?_; clear hK K
            -- 8: indexAddr<31> t7[t41]
            refine stepK rfl (by kernel_rfl) (fun K hK => ?_); go_simp
            apply Exists.intro; apply And.intro; (focus (intro wk hk; go_simp; exact ⟨rfl, rfl⟩)); refine hK _ _ ?_; clear hK K
            -- 9: store<29> *t48 = t47
            refine stepS _ rfl (by kernel_rfl) (fun K hK => ?_); go_simp
            refine ⟨?_, ?_⟩
            · intro wk hk hg hu; have rk := K6.Row.tr (w := w10) r4 hk.undrew id; have cc := rk.at_ (k / 64) (by omega); have ff := rk.frozen (k / 64); go_simp; exact left_O (s := (sO 9 (w2.heap.size) 31 [7] (fun gh => arr .u64 (upd (wordsOf (qAt (h * M + l) d (k + 1))) (k / 64) (intOf (gh 7).v)) 4)).1) rfl rfl (by decide) (fun g g' h => by rw [h 7 (by simp)]) (fun c hc => Below.heap_setCell _ _ _ _ hc) rfl rfl rfl (by simp) (rk.put (k / 64) (by omega) _)
            rintro ⟨v9, lo9, hi9⟩ - - (rfl : v9 = undef)
            refine hK _ _ ?_; clear hK K
            refine stepN ?_
            refine hQ _ _ ?_
            intro w11 hT hG hF
            have hT' := hT.undrew
            obtain ⟨hdr, m, hm, hm2⟩ := HH.out
            rw [if_pos hle] at hm2
            have hpow : IntKind.u64.wrap (2 ^ (k % 64)) = ((2 ^ (k % 64) : Nat) : Int) := by
              have h1 : 2 ^ (k % 64) < 18446744073709551616 := Nat.lt_of_lt_of_le (Nat.pow_lt_pow_right (by decide) (Nat.mod_lt k (show 0 < 64 by decide))) (by decide)
              rw [show (2 : Int) ^ (k % 64) = ((2 ^ (k % 64) : Nat) : Int) from (Int.natCast_pow 2 (k % 64)).symm, IntKind.wrap_u64]
              generalize 2 ^ (k % 64) = P at *
              omega
            have x4 : Row w11 (w2.heap.size) 31 (arr .u64 (wordsOf (qAt (h * M + l) d k)) 4) := Row.congr (show Row w11 (w2.heap.size) 31 (arr .u64 (upd (wordsOf (qAt (h * M + l) d (k + 1))) (k / 64) (bits .or .u64 (wordsOf (qAt (h * M + l) d (k + 1)) (k / 64)) (IntKind.u64.wrap (2 ^ (k % 64))))) 4) from hF 9 _ rfl rfl (by decide)) (by rw [hpow, hm, put_bit, ← hm2])
            have x0 := K6.Row.tr r0 hT' (by omega)
            have x1 := K6.Row.tr r1 hT' (by omega)
            have x2 := K6.Row.tr r2 hT' (by omega)
            have x3 := K6.Row.tr r3 hT' (by omega)
            have x5 := K6.Row.tr r5 hT' (by omega)
            have hl' : Below w.heap.size w w11 := hl.trans (hT'.below_of hl.size (by intro c hc; omega))
            have hfR2 : IsW (f' 0) (f' 1) (f' 2) (f' 3) ((h * M + l) / 2 ^ k % d) := by rw [hdr.2]; exact hfR'
            clear hT hT' hG hF hQ QQ L r0 r1 r2 r3 r4 r5 hl hpow hm hm2 hdr t1 t2 t3 t4 t5 t6 t7 t8 t9 t10
            go_wp2_with fail
            go_roundg k
            case measure => omega
            case rel => exact ⟨k, f', rfl, by omega, rfl, hl', x0, x1, x2, x3, x4, x5, hfW', hfR2⟩
          · rw [decide_eq_false hle]
            go_wp2_with fail
            go_roundg k
            case measure => omega
            case rel =>
              obtain ⟨hdr, m, hm, hm2⟩ := HH.out
              refine ⟨k, f', rfl, by omega, rfl, hl, r0, r1, r2, r3, r4.congr ?_, r5, hfW', ?_⟩
              · rw [if_neg hle] at hm2; rw [hm2, hm]
              · rw [hdr.2]; exact hfR'
end Go.Proofs.Ytpdenhmkpiafiaa
