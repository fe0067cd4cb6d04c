/-
  Package factor: Square, Good, Worth, factor.
-/
import Derived.Test.YtpdenhmkpiafiaaPart8
import Derived.Test.YtpdenhmkpiafiaaWad
import Derived.Test.YtpdenhmkpiafiaaRefMulDiv
namespace Go.Proofs.Ytpdenhmkpiafiaa
open Go Go.RowKit K6

def M2 : Nat := 340282366920938463463374607431768211456
theorem amount_bits {a : Nat} (ha : a < M) : (bits .or .u64 (wordsOf a 2) (wordsOf a 3) == 0) = decide (a < M2) := by
  unfold wordsOf
  rw [u64_or_nat _ _ (Nat.mod_lt _ (by decide)) (Nat.mod_lt _ (by decide)), Bool.eq_iff_iff]
  simp only [beq_iff_eq, decide_eq_true_eq]
  have e : ((a / 2 ^ (64 * 2) % 2 ^ 64 ||| a / 2 ^ (64 * 3) % 2 ^ 64 : Nat) : Int) = 0 ↔ a / 2 ^ (64 * 2) % 2 ^ 64 = 0 ∧ a / 2 ^ (64 * 3) % 2 ^ 64 = 0 := by
    rw [Int.natCast_eq_zero, Nat.or_eq_zero_iff]
  rw [e]
  unfold M at ha
  unfold M2
  omega
set_option maxRecDepth 100000 in
set_option maxHeartbeats 4000000 in
theorem amountU {a : Nat} (ha : a < M) (w : World) : Calls Try.prog 105 #[.agg (W4 a)] w (Ret w (.bool (decide (a < M2)))) := by
  have hb := amount_bits ha
  obtain ⟨x2, h2⟩ : ∃ x, x = wordsOf a 2 := ⟨_, rfl⟩
  obtain ⟨x3, h3⟩ : ∃ x, x = wordsOf a 3 := ⟨_, rfl⟩
  rw [← h2, ← h3] at hb
  go_enter Try.func105, Try.ntmps105
  apply wp_seq_eq
  focus
    intro J hJ
    go_wp2_with fail
    exact hJ
  refine wp_abs (Mem w [(w.heap.size, 31, W4 a)]) ⟨by go_grown, ?_, trivial⟩ ?_
  · repeat (first | (refine Row.new_at ?_; simp; done) | refine Row.alloc ?_ _)
  intro w0 hM
  obtain ⟨hl, ra, -⟩ := hM
  go_upto_region 1 with (fail)
  have c2 : w0.cell? ⟨w.heap.size, 2, none⟩ = some (.int .u64 x2) := by rw [h2]; exact ra.cell 2
  have c3 : w0.cell? ⟨w.heap.size, 3, none⟩ = some (.int .u64 x3) := by rw [h3]; exact ra.cell 3
  go_wp2_with fail
  go_ret
  exact ⟨by rw [← hb, h2, h3]; rfl, hl⟩
theorem cmpN_le {a b : Nat} (h : a ≤ b) : cmpN a b ≤ 0 := by unfold cmpN; split <;> (try split) <;> omega
theorem cmpN_gt {a b : Nat} (h : b < a) : 0 < cmpN a b := by unfold cmpN; rw [if_neg (by omega), if_pos h]; omega
theorem quo_pos {n d : Nat} (hd : d ≠ 0) (h : n / d < M) : quoN n d = n / d ∧ quoB n d = true := ⟨if_pos ⟨hd, h⟩, decide_eq_true ⟨hd, h⟩⟩
namespace K6
theorem kField {P : Program} {o : Oper} {a : Act} {w1 : World} {X : Nat → Prop} {t : TypeId} {x : Operand} {i : Nat} {u z : Value} (ho : o.op = .field t x i) (hx : a.eval x = u) (h : ∀ w, (Instr.field t u i).run P w = .ok z w) : kOut P w1 X o a z := by
  intro w hw
  unfold execOp
  simp only [ho, hx, Sem.run_bind, Sem.run_pure, Result.andThen_ok, h w]
  exact ⟨rfl, rfl⟩
end K6
/-- the same value laid again -/
theorem set_same {w : World} {g t i B : Nat} {cs : Array Value} {v : Value} (h : Row w g t cs) (hv : cs.setIfInBounds i v = cs) : Below B w (w.setCell ⟨g, i, none⟩ v) := by
  refine ⟨rfl, rfl, rfl, by simp, fun k _ => ?_⟩
  by_cases e : k = g
  · subst e
    have h2 := h.set i v
    rw [hv] at h2
    unfold Row at h h2
    rw [h, h2]
  · exact Below.heap_setCell _ _ _ _ e
theorem field92_1 (h l : Nat) (w : World) : (Instr.field 92 (.agg (W8 h l)) 1).run Try.prog w = .ok (.agg (W4 l)) w := by kernel_rfl
theorem field92_0 (h l : Nat) (w : World) : (Instr.field 92 (.agg (W8 h l)) 0).run Try.prog w = .ok (.agg (W4 h)) w := by kernel_rfl
def E36 : Nat := 1000000000000000000000000000000000000
theorem E36_lt : E36 < M := by unfold E36 M; omega
theorem sq_h : E18 * E18 / M = 0 := by decide
theorem sq_l : E18 * E18 % M = E36 := by decide
def goodF (d f m : Nat) : Bool := decide (d < M2) && (decide (f ≤ E36) && decide (m ≤ E18))
theorem goodF_get {d f m : Nat} (h : goodF d f m = true) : d < M2 ∧ f ≤ E36 ∧ m ≤ E18 := by
  unfold goodF at h
  rw [Bool.and_eq_true, Bool.and_eq_true] at h
  exact ⟨of_decide_eq_true h.1, of_decide_eq_true h.2.1, of_decide_eq_true h.2.2⟩
theorem goodF_mk {d f m : Nat} (h1 : d < M2) (h2 : f ≤ E36) (h3 : m ≤ E18) : goodF d f m = true := by
  unfold goodF; rw [decide_eq_true h1, decide_eq_true h2, decide_eq_true h3]; rfl
def wrN (d f m : Nat) : Nat := if goodF d f m = true then d * f * m / E36 else 0
theorem M2E36 : M2 * E36 < M := by unfold M2 E36 M; decide
theorem M2E18 : M2 * E18 < M := by unfold M2 E18 M; decide
theorem E36_pos : E36 ≠ 0 := by decide
theorem E36_0 : 0 < E36 := by decide
theorem df_lt {d f : Nat} (h1 : d < M2) (h2 : f ≤ E36) : d * f < M := Nat.lt_of_le_of_lt (Nat.mul_le_mul (Nat.le_of_lt h1) h2) M2E36
theorem dm_lt {d m : Nat} (h1 : d < M2) (h2 : m ≤ E18) : d * m < M := Nat.lt_of_le_of_lt (Nat.mul_le_mul (Nat.le_of_lt h1) h2) M2E18
/-- a part of a product, where the other factor is at most 10^36 -/
theorem wr_dm {d f m : Nat} (h2 : f ≤ E36) : d * f * m / E36 ≤ d * m := Nat.div_le_of_le_mul (by
  rw [Nat.mul_right_comm, Nat.mul_comm E36]
  exact Nat.mul_le_mul_left _ h2)
theorem wr_facts {d f m : Nat} (h : goodF d f m = true) : mulN d f = d * f ∧ mulB d f = true ∧ quoN (d * f * m) E36 = wrN d f m ∧ quoB (d * f * m) E36 = true := by
  have g := goodF_get h
  have h1 := df_lt g.1 g.2.1
  have h2 : d * f * m / E36 < M := Nat.lt_of_le_of_lt (wr_dm g.2.1) (dm_lt g.1 g.2.2)
  refine ⟨if_pos h1, decide_eq_true h1, ?_, (quo_pos E36_pos h2).2⟩
  rw [(quo_pos E36_pos h2).1]
  exact (if_pos h).symm
theorem wr_lt (d f m : Nat) : wrN d f m < M := by
  unfold wrN
  split
  · rename_i h
    have g := goodF_get h
    exact Nat.lt_of_le_of_lt (wr_dm g.2.1) (dm_lt g.1 g.2.2)
  · exact M_pos
/-- the factor of w shares' worth, of n = d m, if it may be one -/
def fcB (a n : Nat) : Bool := quoB (a * E36) n && (decide (quoN (a * E36) n ≠ 0) && decide (quoN (a * E36) n ≤ E36))
def fcN (a n : Nat) : Nat := if fcB a n = true then quoN (a * E36) n else 0
theorem fc_lt (a n : Nat) : fcN a n < M := by
  unfold fcN
  split
  · exact quoN_lt _ _
  · exact M_pos
theorem fcB_get {a n : Nat} (h : fcB a n = true) : n ≠ 0 ∧ fcN a n = a * E36 / n ∧ fcN a n ≠ 0 ∧ fcN a n ≤ E36 := by
  have e : fcN a n = quoN (a * E36) n := if_pos h
  unfold fcB at h
  rw [Bool.and_eq_true, Bool.and_eq_true] at h
  have h1 : n ≠ 0 ∧ a * E36 / n < M := of_decide_eq_true h.1
  have h2 := of_decide_eq_true h.2.1
  have h3 := of_decide_eq_true h.2.2
  have h4 : quoN (a * E36) n = a * E36 / n := if_pos h1
  rw [e]
  exact ⟨h1.1, h4, h2, h3⟩
set_option maxRecDepth 100000 in
set_option maxHeartbeats 16000000 in
theorem sqU (w : World) : Calls Try.prog 127 #[] w (Ret w (.agg (W4 E36))) := by
  have k0 := Lib.hid (show ∀ wx, Calls Try.prog 107 #[] wx (Ret wx (.agg (W4 E18))) from fun wx => by have h := oneU  wx; exact h)
  have k1 := Lib.hid (show ∀ wx, Calls Try.prog 89 #[.agg (W4 E18), .agg (W4 E18)] wx (Ret wx (.agg (W8 0 E36))) from fun wx => by have h := mmulU E18_lt E18_lt wx; rw [sq_h, sq_l] at h; exact h)
  go_enter Try.func127, Try.ntmps127
  apply wp_seq_eq
  focus
    intro J hJ
    go_wp2_with fail
    exact hJ
  refine wp_abs (Mem w [(w.heap.size, 31, arr .u64 (fun _ => 0) 4)]) ⟨by go_grown, ?_, trivial⟩ ?_
  · repeat (first | (refine Row.new_at ?_; simp; done) | refine Row.alloc ?_ _)
  intro w0 hM
  obtain ⟨hl, r0, -⟩ := hM
  go_upto_region 1 with (fail)
  let L : List Sp := [sV 0 [] [] (fun u => u = .agg (W4 E18)), sV 1 [] [] (fun u => u = .agg (W4 E18)), sV 2 [] [] (fun u => u = .agg (W8 0 E36)), sO 4 (w.heap.size) 31 [3] (fun g => aggOf g 3)]
  refine wp_region_six0 (shs L) (look6 L) (fun c => c = w.heap.size) (by kernel_rfl) (by kernel_rfl) (mk_St L [4] [4] (by kernel_rfl) (by kernel_rfl) ⟨ok_V ⟨_, rfl⟩, ok_V ⟨_, rfl⟩, ok_V ⟨_, rfl⟩, ok_O aggOf_congr r0.lt (rfl), trivial⟩ (by simp)) ?_
  intro QQ hQ
  -- 0: call F107()
  refine stepS _ rfl (by kernel_rfl) (fun K hK => ?_); go_simp
  refine ⟨?_, ?_⟩
  · intro wk hk hg hu; go_simp; refine upon_enter ((k0.out _).mono ?_); rintro e w' ⟨rfl, hb⟩; exact ⟨_, rfl, left_V (p := fun u => u = .agg (W4 E18)) rfl (hb) rfl⟩
  rintro ⟨v0, lo0, hi0⟩ - - (rfl : v0 = _)
  refine hK _ _ ?_; clear hK K
  -- 1: call F107()
  refine stepS _ rfl (by kernel_rfl) (fun K hK => ?_); go_simp
  refine ⟨?_, ?_⟩
  · intro wk hk hg hu; go_simp; refine upon_enter ((k0.out _).mono ?_); rintro e w' ⟨rfl, hb⟩; exact ⟨_, rfl, left_V (p := fun u => u = .agg (W4 E18)) rfl (hb) rfl⟩
  rintro ⟨v1, lo1, hi1⟩ - - (rfl : v1 = _)
  refine hK _ _ ?_; clear hK K
  -- 2: call F89(t1, t2)
  refine stepS _ rfl (by kernel_rfl) (fun K hK => ?_); go_simp
  refine ⟨?_, ?_⟩
  · intro wk hk hg hu; go_simp; refine upon_enter ((k1.out _).mono ?_); rintro e w' ⟨rfl, hb⟩; exact ⟨_, rfl, left_V (p := fun u => u = .agg (W8 0 E36)) rfl (hb) rfl⟩
  rintro ⟨v2, lo2, hi2⟩ - - (rfl : v2 = _)
  refine hK _ _ ?_; clear hK K
  -- 3: field<92> t3.1
  refine stepK rfl (by kernel_rfl) (fun K hK => ?_); go_simp
  apply Exists.intro; apply And.intro; (focus exact kField rfl rfl (fun wx => field92_1 0 E36 wx)); refine hK _ _ ?_; clear hK K
  -- 4: store<31> *t0 = t4
  refine stepS _ rfl (by kernel_rfl) (fun K hK => ?_); go_simp
  refine ⟨?_, ?_⟩
  · exact sStoreO rfl rfl rfl rfl rfl rfl r0 id (by kernel_rfl) rfl (by kernel_rfl) (by decide) aggOf_congr
  rintro ⟨v4, lo4, hi4⟩ - - (rfl : v4 = undef)
  refine hK _ _ ?_; clear hK K
  refine stepN ?_
  refine hQ _ _ ?_
  intro w1 hT hG hF
  have hT' := hT
  have xr0 : Row w1 (w.heap.size) 31 ((W4 E36)) := hF 4 _ rfl rfl (by decide)
  have hl9 : Below w.heap.size w w1 := hl.trans (hT'.below_of hl.size (by intro c hc; omega))
  clear hT hT' hG hF hQ QQ L hl r0
  have hl := hl9; clear hl9
  have r0 := xr0; clear xr0
  go_wp2_with fail
  refine bodyPost_ret (results_c rfl aggT31 rfl r0 rfl) rfl ?_
  exact ⟨rfl, hl⟩
set_option maxRecDepth 100000 in
set_option maxHeartbeats 16000000 in
theorem goodFU {d f m : Nat} (hd : d < M) (hf : f < M) (hm : m < M) (w : World) : Calls Try.prog 151 #[.agg (W4 d), .agg (W4 f), .agg (W4 m)] w (Ret w (.bool (goodF d f m))) := by
  cases g1 : decide (d < M2)
  · have hh := Lib.hid (show goodF d f m = false by unfold goodF; rw [g1]; rfl)
    have k0 := Lib.hid (show ∀ wx, Calls Try.prog 105 #[.agg (W4 d)] wx (Ret wx (.bool false)) from fun wx => by have h := amountU hd wx; rw [g1] at h; exact h)
    clear g1
    go_enter Try.func151, Try.ntmps151
    apply wp_seq_eq
    focus
      intro J hJ
      go_wp2_with fail
      exact hJ
    refine wp_abs (Mem w [(w.heap.size, 31, W4 d), (w.heap.size + 1, 31, W4 f), (w.heap.size + 1 + 1, 31, W4 m)]) ⟨by go_grown, ?_, ?_, ?_, trivial⟩ ?_
    · repeat (first | (refine Row.new_at ?_; simp; done) | refine Row.alloc ?_ _)
    · repeat (first | (refine Row.new_at ?_; simp; done) | refine Row.alloc ?_ _)
    · repeat (first | (refine Row.new_at ?_; simp; done) | refine Row.alloc ?_ _)
    intro w0 hM
    obtain ⟨hl, r0, r1, r2, -⟩ := hM
    go_upto_region 1 with (fail)
    let L : List Sp := [sV 1 [] [] (fun u => u = .bool false)]
    refine wp_region_six (shs L) (look6 L) (None_) (by kernel_rfl) (by kernel_rfl) (mk_St L [] [] (by kernel_rfl) (by kernel_rfl) ⟨ok_V ⟨_, rfl⟩, trivial⟩ (by simp)) ?_
    intro QQ hQ
    -- 0: load<31> *t3
    refine stepK rfl (by kernel_rfl) (fun K hK => ?_); go_simp
    apply Exists.intro; apply And.intro; (focus exact kLoad rfl rfl aggT31 r0 rfl id); refine hK _ _ ?_; clear hK K
    -- 1: call F105(t7)
    refine stepS _ rfl (by kernel_rfl) (fun K hK => ?_); go_simp
    refine ⟨?_, ?_⟩
    · intro wk hk hg hu; go_simp; refine upon_enter ((k0.out _).mono ?_); rintro e w' ⟨rfl, hb⟩; exact ⟨_, rfl, left_V (p := fun u => u = .bool false) rfl (hb) rfl⟩
    rintro ⟨v1, lo1, hi1⟩ - - (rfl : v1 = _)
    refine hK _ _ ?_; clear hK K
    -- 2: t8
    refine stepK rfl (by kernel_rfl) (fun K hK => ?_); go_simp
    apply Exists.intro; apply And.intro; (focus (intro wk hk; go_simp; exact ⟨rfl, rfl⟩)); refine hK _ _ ?_; clear hK K
    -- 3: load<31> *t4
    refine stepK rfl (by kernel_rfl) (fun K hK => ?_); go_simp
    first | (refine hK _ _ ?_; clear hK K) | (apply Exists.intro; apply And.intro; (focus (intro wk hk; go_simp; exact ⟨rfl, rfl⟩)); refine hK _ _ ?_; clear hK K)
    -- 4: call F127()
    refine stepK rfl (by kernel_rfl) (fun K hK => ?_); go_simp
    first | (refine hK _ _ ?_; clear hK K) | (apply Exists.intro; apply And.intro; (focus (intro wk hk; go_simp; exact ⟨rfl, rfl⟩)); refine hK _ _ ?_; clear hK K)
    -- 5: call F48(t10, t11)
    refine stepK rfl (by kernel_rfl) (fun K hK => ?_); go_simp
    first | (refine hK _ _ ?_; clear hK K) | (apply Exists.intro; apply And.intro; (focus (intro wk hk; go_simp; exact ⟨rfl, rfl⟩)); refine hK _ _ ?_; clear hK K)
    -- 6: leq<3> t12, 0
    refine stepK rfl (by kernel_rfl) (fun K hK => ?_); go_simp
    first | (refine hK _ _ ?_; clear hK K) | (apply Exists.intro; apply And.intro; (focus (intro wk hk; go_simp; exact ⟨rfl, rfl⟩)); refine hK _ _ ?_; clear hK K)
    -- 7: pick t9 ? t13 : false
    refine stepK rfl (by kernel_rfl) (fun K hK => ?_); go_simp
    apply Exists.intro; apply And.intro; (focus (intro wk hk; go_simp; exact ⟨rfl, rfl⟩)); refine hK _ _ ?_; clear hK K
    -- 8: t14
    refine stepK rfl (by kernel_rfl) (fun K hK => ?_); go_simp
    apply Exists.intro; apply And.intro; (focus (intro wk hk; go_simp; exact ⟨rfl, rfl⟩)); refine hK _ _ ?_; clear hK K
    -- 9: load<31> *t5
    refine stepK rfl (by kernel_rfl) (fun K hK => ?_); go_simp
    first | (refine hK _ _ ?_; clear hK K) | (apply Exists.intro; apply And.intro; (focus (intro wk hk; go_simp; exact ⟨rfl, rfl⟩)); refine hK _ _ ?_; clear hK K)
    -- 10: call F104(t16)
    refine stepK rfl (by kernel_rfl) (fun K hK => ?_); go_simp
    first | (refine hK _ _ ?_; clear hK K) | (apply Exists.intro; apply And.intro; (focus (intro wk hk; go_simp; exact ⟨rfl, rfl⟩)); refine hK _ _ ?_; clear hK K)
    -- 11: pick t15 ? t17 : false
    refine stepK rfl (by kernel_rfl) (fun K hK => ?_); go_simp
    apply Exists.intro; apply And.intro; (focus (intro wk hk; go_simp; exact ⟨rfl, rfl⟩)); refine hK _ _ ?_; clear hK K
    -- 12: assign t18
    refine stepK rfl (by kernel_rfl) (fun K hK => ?_); go_simp
    apply Exists.intro; apply And.intro; (focus (intro wk hk; go_simp; exact ⟨rfl, rfl⟩)); refine hK _ _ ?_; clear hK K
    refine stepN ?_
    refine hQ _ _ ?_
    intro w1 hT hG hF
    have hbw1 := hT.undrew.below
    replace r0 := r0.below hbw1 r0.lt
    replace r1 := r1.below hbw1 r1.lt
    replace r2 := r2.below hbw1 r2.lt
    replace hl := hl.trans (hbw1.mono hl.size)
    clear hT hG hF hbw1 hQ QQ L 
    go_wp2_with fail
    go_ret
    exact ⟨by rw [hh.out]; rfl, hl⟩
  · obtain ⟨c, hc⟩ : ∃ c, c = cmpN f E36 := ⟨_, rfl⟩
    obtain ⟨b, hb⟩ : ∃ b, b = decide (m ≤ E18) := ⟨_, rfl⟩
    by_cases h2 : f ≤ E36
    · have h1 : c ≤ 0 := hc ▸ cmpN_le h2
      have hh := Lib.hid (show goodF d f m = b by unfold goodF; rw [g1, decide_eq_true h2, hb]; simp)
      clear h2
      have k0 := Lib.hid (show ∀ wx, Calls Try.prog 105 #[.agg (W4 d)] wx (Ret wx (.bool true)) from fun wx => by have h := amountU hd wx; rw [g1] at h; exact h)
      have k1 := Lib.hid (show ∀ wx, Calls Try.prog 127 #[] wx (Ret wx (.agg (W4 E36))) from fun wx => by have h := sqU  wx; exact h)
      have k2 := Lib.hid (show ∀ wx, Calls Try.prog 48 #[.agg (W4 f), .agg (W4 E36)] wx (Ret wx (.int .i64 c)) from fun wx => by have h := cmpU hf E36_lt wx; rw [← hc] at h; exact h)
      have k3 := Lib.hid (show ∀ wx, Calls Try.prog 104 #[.agg (W4 m)] wx (Ret wx (.bool (b))) from fun wx => by have h := goodU hm wx; rw [← hb] at h; exact h)
      clear g1 hc hb
      go_enter Try.func151, Try.ntmps151
      apply wp_seq_eq
      focus
        intro J hJ
        go_wp2_with fail
        exact hJ
      refine wp_abs (Mem w [(w.heap.size, 31, W4 d), (w.heap.size + 1, 31, W4 f), (w.heap.size + 1 + 1, 31, W4 m)]) ⟨by go_grown, ?_, ?_, ?_, trivial⟩ ?_
      · repeat (first | (refine Row.new_at ?_; simp; done) | refine Row.alloc ?_ _)
      · repeat (first | (refine Row.new_at ?_; simp; done) | refine Row.alloc ?_ _)
      · repeat (first | (refine Row.new_at ?_; simp; done) | refine Row.alloc ?_ _)
      intro w0 hM
      obtain ⟨hl, r0, r1, r2, -⟩ := hM
      go_upto_region 1 with (fail)
      let L : List Sp := [sV 1 [] [] (fun u => u = .bool true), sV 4 [] [] (fun u => u = .agg (W4 E36)), sV 5 [] [] (fun u => u = .int .i64 c), sV 10 [] [] (fun u => u = .bool (b))]
      refine wp_region_six (shs L) (look6 L) (None_) (by kernel_rfl) (by kernel_rfl) (mk_St L [] [] (by kernel_rfl) (by kernel_rfl) ⟨ok_V ⟨_, rfl⟩, ok_V ⟨_, rfl⟩, ok_V ⟨_, rfl⟩, ok_V ⟨_, rfl⟩, trivial⟩ (by simp)) ?_
      intro QQ hQ
      -- 0: load<31> *t3
      refine stepK rfl (by kernel_rfl) (fun K hK => ?_); go_simp
      apply Exists.intro; apply And.intro; (focus exact kLoad rfl rfl aggT31 r0 rfl id); refine hK _ _ ?_; clear hK K
      -- 1: call F105(t7)
      refine stepS _ rfl (by kernel_rfl) (fun K hK => ?_); go_simp
      refine ⟨?_, ?_⟩
      · intro wk hk hg hu; go_simp; refine upon_enter ((k0.out _).mono ?_); rintro e w' ⟨rfl, hb⟩; exact ⟨_, rfl, left_V (p := fun u => u = .bool true) rfl (hb) rfl⟩
      rintro ⟨v1, lo1, hi1⟩ - - (rfl : v1 = _)
      refine hK _ _ ?_; clear hK K
      -- 2: t8
      refine stepK rfl (by kernel_rfl) (fun K hK => ?_); go_simp
      apply Exists.intro; apply And.intro; (focus (intro wk hk; go_simp; exact ⟨rfl, rfl⟩)); refine hK _ _ ?_; clear hK K
      -- 3: load<31> *t4
      refine stepK rfl (by kernel_rfl) (fun K hK => ?_); go_simp
      first | (refine hK _ _ ?_; clear hK K) | (apply Exists.intro; apply And.intro; (focus exact kLoad rfl rfl aggT31 r1 rfl id); refine hK _ _ ?_; clear hK K)
      -- 4: call F127()
      refine stepS _ rfl (by kernel_rfl) (fun K hK => ?_); go_simp
      refine ⟨?_, ?_⟩
      · intro wk hk hg hu; go_simp; refine upon_enter ((k1.out _).mono ?_); rintro e w' ⟨rfl, hb⟩; exact ⟨_, rfl, left_V (p := fun u => u = .agg (W4 E36)) rfl (hb) rfl⟩
      rintro ⟨v4, lo4, hi4⟩ - - (rfl : v4 = _)
      refine hK _ _ ?_; clear hK K
      -- 5: call F48(t10, t11)
      refine stepS _ rfl (by kernel_rfl) (fun K hK => ?_); go_simp
      refine ⟨?_, ?_⟩
      · intro wk hk hg hu; go_simp; refine upon_enter ((k2.out _).mono ?_); rintro e w' ⟨rfl, hb⟩; exact ⟨_, rfl, left_V (p := fun u => u = .int .i64 c) rfl (hb) rfl⟩
      rintro ⟨v5, lo5, hi5⟩ - - (rfl : v5 = _)
      refine hK _ _ ?_; clear hK K
      -- 6: leq<3> t12, 0
      refine stepK rfl (by kernel_rfl) (fun K hK => ?_); go_simp
      first | (refine hK _ _ ?_; clear hK K) | (apply Exists.intro; apply And.intro; (focus (intro wk hk; go_simp; exact ⟨rfl, rfl⟩)); refine hK _ _ ?_; clear hK K)
      -- 7: pick t9 ? t13 : false
      refine stepK rfl (by kernel_rfl) (fun K hK => ?_); go_simp
      apply Exists.intro; apply And.intro; (focus (intro wk hk; go_simp; exact ⟨rfl, rfl⟩)); refine hK _ _ ?_; clear hK K
      -- 8: t14
      refine stepK rfl (by kernel_rfl) (fun K hK => ?_); go_simp
      apply Exists.intro; apply And.intro; (focus (intro wk hk; go_simp; exact ⟨rfl, rfl⟩)); refine hK _ _ ?_; clear hK K
      -- 9: load<31> *t5
      refine stepK rfl (by kernel_rfl) (fun K hK => ?_); go_simp
      first | (refine hK _ _ ?_; clear hK K) | (apply Exists.intro; apply And.intro; (focus exact kLoad rfl rfl aggT31 r2 rfl id); refine hK _ _ ?_; clear hK K)
      -- 10: call F104(t16)
      refine stepS _ rfl (by kernel_rfl) (fun K hK => ?_); go_simp
      refine ⟨?_, ?_⟩
      · intro wk hk hg hu; go_simp; refine upon_enter ((k3.out _).mono ?_); rintro e w' ⟨rfl, hb⟩; exact ⟨_, rfl, left_V (p := fun u => u = .bool (b)) rfl (hb) rfl⟩
      rintro ⟨v10, lo10, hi10⟩ - - (rfl : v10 = _)
      refine hK _ _ ?_; clear hK K
      -- 11: pick t15 ? t17 : false
      refine stepK rfl (by kernel_rfl) (fun K hK => ?_); go_simp
      apply Exists.intro; apply And.intro; (focus (intro wk hk; go_simp; exact ⟨rfl, rfl⟩)); refine hK _ _ ?_; clear hK K
      -- 12: assign t18
      refine stepK rfl (by kernel_rfl) (fun K hK => ?_); go_simp
      apply Exists.intro; apply And.intro; (focus (intro wk hk; go_simp; exact ⟨rfl, rfl⟩)); refine hK _ _ ?_; clear hK K
      refine stepN ?_
      refine hQ _ _ ?_
      intro w1 hT hG hF
      have hbw1 := hT.undrew.below
      replace r0 := r0.below hbw1 r0.lt
      replace r1 := r1.below hbw1 r1.lt
      replace r2 := r2.below hbw1 r2.lt
      replace hl := hl.trans (hbw1.mono hl.size)
      clear hT hG hF hbw1 hQ QQ L 
      go_wp2_with fail
      go_ret
      exact ⟨by rw [hh.out]; rfl, hl⟩
    · have hc1 : cmpN f E36 = 1 := by unfold cmpN; rw [if_neg (by omega), if_pos (by omega)]
      have hh := Lib.hid (show goodF d f m = false by unfold goodF; rw [g1, decide_eq_false h2]; rfl)
      clear h2 hb b hc c
      have k0 := Lib.hid (show ∀ wx, Calls Try.prog 105 #[.agg (W4 d)] wx (Ret wx (.bool true)) from fun wx => by have h := amountU hd wx; rw [g1] at h; exact h)
      have k1 := Lib.hid (show ∀ wx, Calls Try.prog 127 #[] wx (Ret wx (.agg (W4 E36))) from fun wx => by have h := sqU  wx; exact h)
      have k2 := Lib.hid (show ∀ wx, Calls Try.prog 48 #[.agg (W4 f), .agg (W4 E36)] wx (Ret wx (.int .i64 1)) from fun wx => by have h := cmpU hf E36_lt wx; rw [hc1] at h; exact h)
      clear g1 hc1
      go_enter Try.func151, Try.ntmps151
      apply wp_seq_eq
      focus
        intro J hJ
        go_wp2_with fail
        exact hJ
      refine wp_abs (Mem w [(w.heap.size, 31, W4 d), (w.heap.size + 1, 31, W4 f), (w.heap.size + 1 + 1, 31, W4 m)]) ⟨by go_grown, ?_, ?_, ?_, trivial⟩ ?_
      · repeat (first | (refine Row.new_at ?_; simp; done) | refine Row.alloc ?_ _)
      · repeat (first | (refine Row.new_at ?_; simp; done) | refine Row.alloc ?_ _)
      · repeat (first | (refine Row.new_at ?_; simp; done) | refine Row.alloc ?_ _)
      intro w0 hM
      obtain ⟨hl, r0, r1, r2, -⟩ := hM
      go_upto_region 1 with (fail)
      let L : List Sp := [sV 1 [] [] (fun u => u = .bool true), sV 4 [] [] (fun u => u = .agg (W4 E36)), sV 5 [] [] (fun u => u = .int .i64 1)]
      refine wp_region_six (shs L) (look6 L) (None_) (by kernel_rfl) (by kernel_rfl) (mk_St L [] [] (by kernel_rfl) (by kernel_rfl) ⟨ok_V ⟨_, rfl⟩, ok_V ⟨_, rfl⟩, ok_V ⟨_, rfl⟩, trivial⟩ (by simp)) ?_
      intro QQ hQ
      -- 0: load<31> *t3
      refine stepK rfl (by kernel_rfl) (fun K hK => ?_); go_simp
      apply Exists.intro; apply And.intro; (focus exact kLoad rfl rfl aggT31 r0 rfl id); refine hK _ _ ?_; clear hK K
      -- 1: call F105(t7)
      refine stepS _ rfl (by kernel_rfl) (fun K hK => ?_); go_simp
      refine ⟨?_, ?_⟩
      · intro wk hk hg hu; go_simp; refine upon_enter ((k0.out _).mono ?_); rintro e w' ⟨rfl, hb⟩; exact ⟨_, rfl, left_V (p := fun u => u = .bool true) rfl (hb) rfl⟩
      rintro ⟨v1, lo1, hi1⟩ - - (rfl : v1 = _)
      refine hK _ _ ?_; clear hK K
      -- 2: t8
      refine stepK rfl (by kernel_rfl) (fun K hK => ?_); go_simp
      apply Exists.intro; apply And.intro; (focus (intro wk hk; go_simp; exact ⟨rfl, rfl⟩)); refine hK _ _ ?_; clear hK K
      -- 3: load<31> *t4
      refine stepK rfl (by kernel_rfl) (fun K hK => ?_); go_simp
      first | (refine hK _ _ ?_; clear hK K) | (apply Exists.intro; apply And.intro; (focus exact kLoad rfl rfl aggT31 r1 rfl id); refine hK _ _ ?_; clear hK K)
      -- 4: call F127()
      refine stepS _ rfl (by kernel_rfl) (fun K hK => ?_); go_simp
      refine ⟨?_, ?_⟩
      · intro wk hk hg hu; go_simp; refine upon_enter ((k1.out _).mono ?_); rintro e w' ⟨rfl, hb⟩; exact ⟨_, rfl, left_V (p := fun u => u = .agg (W4 E36)) rfl (hb) rfl⟩
      rintro ⟨v4, lo4, hi4⟩ - - (rfl : v4 = _)
      refine hK _ _ ?_; clear hK K
      -- 5: call F48(t10, t11)
      refine stepS _ rfl (by kernel_rfl) (fun K hK => ?_); go_simp
      refine ⟨?_, ?_⟩
      · intro wk hk hg hu; go_simp; refine upon_enter ((k2.out _).mono ?_); rintro e w' ⟨rfl, hb⟩; exact ⟨_, rfl, left_V (p := fun u => u = .int .i64 1) rfl (hb) rfl⟩
      rintro ⟨v5, lo5, hi5⟩ - - (rfl : v5 = _)
      refine hK _ _ ?_; clear hK K
      -- 6: leq<3> t12, 0
      refine stepK rfl (by kernel_rfl) (fun K hK => ?_); go_simp
      first | (refine hK _ _ ?_; clear hK K) | (apply Exists.intro; apply And.intro; (focus (intro wk hk; go_simp; exact ⟨rfl, rfl⟩)); refine hK _ _ ?_; clear hK K)
      -- 7: pick t9 ? t13 : false
      refine stepK rfl (by kernel_rfl) (fun K hK => ?_); go_simp
      apply Exists.intro; apply And.intro; (focus (intro wk hk; go_simp; exact ⟨rfl, rfl⟩)); refine hK _ _ ?_; clear hK K
      -- 8: t14
      refine stepK rfl (by kernel_rfl) (fun K hK => ?_); go_simp
      apply Exists.intro; apply And.intro; (focus (intro wk hk; go_simp; exact ⟨rfl, rfl⟩)); refine hK _ _ ?_; clear hK K
      -- 9: load<31> *t5
      refine stepK rfl (by kernel_rfl) (fun K hK => ?_); go_simp
      first | (refine hK _ _ ?_; clear hK K) | (apply Exists.intro; apply And.intro; (focus (intro wk hk; go_simp; exact ⟨rfl, rfl⟩)); refine hK _ _ ?_; clear hK K)
      -- 10: call F104(t16)
      refine stepK rfl (by kernel_rfl) (fun K hK => ?_); go_simp
      first | (refine hK _ _ ?_; clear hK K) | (apply Exists.intro; apply And.intro; (focus (intro wk hk; go_simp; exact ⟨rfl, rfl⟩)); refine hK _ _ ?_; clear hK K)
      -- 11: pick t15 ? t17 : false
      refine stepK rfl (by kernel_rfl) (fun K hK => ?_); go_simp
      apply Exists.intro; apply And.intro; (focus (intro wk hk; go_simp; exact ⟨rfl, rfl⟩)); refine hK _ _ ?_; clear hK K
      -- 12: assign t18
      refine stepK rfl (by kernel_rfl) (fun K hK => ?_); go_simp
      apply Exists.intro; apply And.intro; (focus (intro wk hk; go_simp; exact ⟨rfl, rfl⟩)); refine hK _ _ ?_; clear hK K
      refine stepN ?_
      refine hQ _ _ ?_
      intro w1 hT hG hF
      have hbw1 := hT.undrew.below
      replace r0 := r0.below hbw1 r0.lt
      replace r1 := r1.below hbw1 r1.lt
      replace r2 := r2.below hbw1 r2.lt
      replace hl := hl.trans (hbw1.mono hl.size)
      clear hT hG hF hbw1 hQ QQ L 
      go_wp2_with fail
      go_ret
      exact ⟨by rw [hh.out]; rfl, hl⟩
set_option maxRecDepth 100000 in
set_option maxHeartbeats 16000000 in
theorem worthU {d f m : Nat} (hd : d < M) (hf : f < M) (hm : m < M) (w : World) : Calls Try.prog 147 #[.agg (W4 d), .agg (W4 f), .agg (W4 m)] w (Ret w (.tuple #[.agg (W4 (wrN d f m)), .bool (goodF d f m)])) := by
  by_cases hg : goodF d f m = true
  · have F := wr_facts hg
    obtain ⟨v, hv⟩ : ∃ v, v = wrN d f m := ⟨_, rfl⟩
    obtain ⟨p, hp⟩ : ∃ p, p = d * f := ⟨_, rfl⟩
    have vl : v < M := hv ▸ wr_lt d f m
    have pl : p < M := hp ▸ df_lt (goodF_get hg).1 (goodF_get hg).2.1
    rw [← hv, ← hp] at F
    rw [← hv, hg]
    clear hv hp
    have k0 := Lib.hid (show ∀ wx, Calls Try.prog 151 #[.agg (W4 d), .agg (W4 f), .agg (W4 m)] wx (Ret wx (.bool true)) from fun wx => by have h := goodFU hd hf hm wx; rw [hg] at h; exact h)
    have k1 := Lib.hid (show ∀ wx, Calls Try.prog 47 #[.agg (W4 d), .agg (W4 f)] wx (Ret wx (.tuple #[.agg (W4 p), .bool true])) from fun wx => by have h := mulU hd hf wx; rw [F.1, F.2.1] at h; exact h)
    have k2 := Lib.hid (show ∀ wx, Calls Try.prog 127 #[] wx (Ret wx (.agg (W4 E36))) from fun wx => by have h := sqU  wx; exact h)
    have k3 := Lib.hid (show ∀ wx, Calls Try.prog 85 #[.agg (W4 p), .agg (W4 m), .agg (W4 E36)] wx (Ret wx (.tuple #[.agg (W4 v), .bool true])) from fun wx => by have h := downU pl hm E36_lt wx; rw [F.2.2.1, F.2.2.2] at h; exact h)
    clear hg F
    go_enter Try.func147, Try.ntmps147
    apply wp_seq_eq
    focus
      intro J hJ
      go_wp2_with fail
      exact hJ
    refine wp_abs (Mem w [(w.heap.size, 31, W4 d), (w.heap.size + 1, 31, W4 f), (w.heap.size + 1 + 1, 31, W4 m), (w.heap.size + 1 + 1 + 1, 31, arr .u64 (fun _ => 0) 4)]) ⟨by go_grown, ?_, ?_, ?_, ?_, trivial⟩ ?_
    · repeat (first | (refine Row.new_at ?_; simp; done) | refine Row.alloc ?_ _)
    · repeat (first | (refine Row.new_at ?_; simp; done) | refine Row.alloc ?_ _)
    · repeat (first | (refine Row.new_at ?_; simp; done) | refine Row.alloc ?_ _)
    · repeat (first | (refine Row.new_at ?_; simp; done) | refine Row.alloc ?_ _)
    intro w0 hM
    obtain ⟨hl, r0, r1, r2, r3, -⟩ := hM
    go_upto_region 1 with (fail)
    let L : List Sp := [sV 3 [] [] (fun u => u = .bool true)]
    refine wp_region_six0 (shs L) (look6 L) (None_) (by kernel_rfl) (by kernel_rfl) (mk_St L [] [] (by kernel_rfl) (by kernel_rfl) ⟨ok_V ⟨_, rfl⟩, trivial⟩ (by simp)) ?_
    intro QQ hQ
    -- 0: load<31> *t3
    refine stepK rfl (by kernel_rfl) (fun K hK => ?_); go_simp
    apply Exists.intro; apply And.intro; (focus exact kLoad rfl rfl aggT31 r0 rfl id); refine hK _ _ ?_; clear hK K
    -- 1: load<31> *t4
    refine stepK rfl (by kernel_rfl) (fun K hK => ?_); go_simp
    apply Exists.intro; apply And.intro; (focus exact kLoad rfl rfl aggT31 r1 rfl id); refine hK _ _ ?_; clear hK K
    -- 2: load<31> *t5
    refine stepK rfl (by kernel_rfl) (fun K hK => ?_); go_simp
    apply Exists.intro; apply And.intro; (focus exact kLoad rfl rfl aggT31 r2 rfl id); refine hK _ _ ?_; clear hK K
    -- 3: call F151(t10, t11, t12)
    refine stepS _ rfl (by kernel_rfl) (fun K hK => ?_); go_simp
    refine ⟨?_, ?_⟩
    · intro wk hk hg hu; go_simp; refine upon_enter ((k0.out _).mono ?_); rintro e w' ⟨rfl, hb⟩; exact ⟨_, rfl, left_V (p := fun u => u = .bool true) rfl (hb) rfl⟩
    rintro ⟨v3, lo3, hi3⟩ - - (rfl : v3 = _)
    refine hK _ _ ?_; clear hK K
    -- 4: not<4> t13
    refine stepK rfl (by kernel_rfl) (fun K hK => ?_); go_simp
    apply Exists.intro; apply And.intro; (focus (intro wk hk; go_simp; exact ⟨rfl, rfl⟩)); refine hK _ _ ?_; clear hK K
    refine stepN ?_
    refine hQ _ _ ?_
    intro w1 hT hG hF
    have hbw1 := hT.below
    replace r0 := r0.below hbw1 r0.lt
    replace r1 := r1.below hbw1 r1.lt
    replace r2 := r2.below hbw1 r2.lt
    replace r3 := r3.below hbw1 r3.lt
    replace hl := hl.trans (hbw1.mono hl.size)
    clear hT hG hF hbw1 hQ QQ L 
    go_upto_region 3 with (fail)
    let L : List Sp := [sV 2 [] [] (fun u => u = .tuple #[.agg (W4 p), .bool true]), sA 6 31 [7] #[.int .u64 0, .int .u64 0, .int .u64 0, .int .u64 0], sT 7 6 31 [4] (fun g => aggOf g 4)]
    refine wp_region_six0 (shs L) (look6 L) (None_) (by kernel_rfl) (by kernel_rfl) (mk_St L [] [] (by kernel_rfl) (by kernel_rfl) ⟨ok_V ⟨_, rfl⟩, ok_A, ok_T aggOf_congr, trivial⟩ (by simp)) ?_
    intro QQ hQ
    -- 0: load<31> *t3
    refine stepK rfl (by kernel_rfl) (fun K hK => ?_); go_simp
    apply Exists.intro; apply And.intro; (focus exact kLoad rfl rfl aggT31 r0 rfl id); refine hK _ _ ?_; clear hK K
    -- 1: load<31> *t4
    refine stepK rfl (by kernel_rfl) (fun K hK => ?_); go_simp
    apply Exists.intro; apply And.intro; (focus exact kLoad rfl rfl aggT31 r1 rfl id); refine hK _ _ ?_; clear hK K
    -- 2: call F47(t17, t18)
    refine stepS _ rfl (by kernel_rfl) (fun K hK => ?_); go_simp
    refine ⟨?_, ?_⟩
    · intro wk hk hg hu; go_simp; refine upon_enter ((k1.out _).mono ?_); rintro e w' ⟨rfl, hb⟩; exact ⟨_, rfl, left_V (p := fun u => u = .tuple #[.agg (W4 p), .bool true]) rfl (hb) rfl⟩
    rintro ⟨v2, lo2, hi2⟩ - - (rfl : v2 = _)
    refine hK _ _ ?_; clear hK K
    -- 3: t19
    refine stepK rfl (by kernel_rfl) (fun K hK => ?_); go_simp
    apply Exists.intro; apply And.intro; (focus (intro wk hk; go_simp; exact ⟨rfl, rfl⟩)); refine hK _ _ ?_; clear hK K
    -- 4: extract t16 #0
    refine stepK rfl (by kernel_rfl) (fun K hK => ?_); go_simp
    apply Exists.intro; apply And.intro; (focus (intro wk hk; go_simp; exact ⟨rfl, rfl⟩)); refine hK _ _ ?_; clear hK K
    -- 5: extract t16 #1
    refine stepK rfl (by kernel_rfl) (fun K hK => ?_); go_simp
    apply Exists.intro; apply And.intro; (focus (intro wk hk; go_simp; exact ⟨rfl, rfl⟩)); refine hK _ _ ?_; clear hK K
    -- 6: alloc<31>
    refine stepS _ rfl (by kernel_rfl) (fun K hK => ?_); go_simp
    refine ⟨?_, ?_⟩
    · intro wk hk hg hu; go_simp; exact left_A rfl rfl
    rintro ⟨v6, lo3_6, hi6⟩ hlo6 hhi6 ⟨e6, f6⟩
    replace e6 : v6 = .pointer (some ⟨lo3_6, 0, none⟩) := e6; replace f6 : hi6 = lo3_6 + 1 := f6; replace hlo6 : _ ≤ lo3_6 := hlo6; subst e6; subst f6
    refine hK _ _ ?_; clear hK K
    -- 7: store<31> *t8 = t20
    refine stepS _ rfl (by kernel_rfl) (fun K hK => ?_); go_simp
    refine ⟨?_, ?_⟩
    · exact sStoreT rfl rfl rfl rfl rfl rfl rfl (by kernel_rfl) rfl (by kernel_rfl) (by decide) aggOf_congr
    rintro ⟨v7, lo7, hi7⟩ - - (rfl : v7 = undef)
    refine hK _ _ ?_; clear hK K
    -- 8: assign t21
    refine stepK rfl (by kernel_rfl) (fun K hK => ?_); go_simp
    apply Exists.intro; apply And.intro; (focus (intro wk hk; go_simp; exact ⟨rfl, rfl⟩)); refine hK _ _ ?_; clear hK K
    refine stepN ?_
    refine hQ _ _ ?_
    intro w2 hT hG hF
    have nr4r0 : w.heap.size < lo3_6 := Nat.lt_of_lt_of_le r0.lt hlo6
    have nr4r1 : w.heap.size + 1 < lo3_6 := Nat.lt_of_lt_of_le r1.lt hlo6
    have nr4r2 : w.heap.size + 1 + 1 < lo3_6 := Nat.lt_of_lt_of_le r2.lt hlo6
    have nr4r3 : w.heap.size + 1 + 1 + 1 < lo3_6 := Nat.lt_of_lt_of_le r3.lt hlo6
    have hbw2 := hT.below
    have r4 : Row w2 lo3_6 31 ((W4 p)) := (hF 7 _ rfl rfl (by decide)).2
    replace r0 := r0.below hbw2 r0.lt
    replace r1 := r1.below hbw2 r1.lt
    replace r2 := r2.below hbw2 r2.lt
    replace r3 := r3.below hbw2 r3.lt
    replace hl := hl.trans (hbw2.mono hl.size)
    clear hT hG hF hbw2 hQ QQ L hlo6 hhi6
    go_upto_region 4 with (fail)
    let L : List Sp := [sV 2 [] [] (fun u => u = .agg (W4 E36)), sV 3 [] [] (fun u => u = .tuple #[.agg (W4 v), .bool true]), sO 6 (w.heap.size + 1 + 1 + 1) 31 [4] (fun g => aggOf g 4)]
    refine wp_region_six (shs L) (look6 L) (fun c => c = w.heap.size + 1 + 1 + 1) (by kernel_rfl) (by kernel_rfl) (mk_St L [6] [6] (by kernel_rfl) (by kernel_rfl) ⟨ok_V ⟨_, rfl⟩, ok_V ⟨_, rfl⟩, ok_O aggOf_congr r3.lt (rfl), trivial⟩ (by simp)) ?_
    intro QQ hQ
    -- 0: load<31> *t8
    refine stepK rfl (by kernel_rfl) (fun K hK => ?_); go_simp
    apply Exists.intro; apply And.intro; (focus exact kLoad rfl rfl aggT31 r4 rfl (by first | exact id | (intro hx; have hx' : _ = _ ∨ _ = _ := hx; omega) | (intro hx; have hx' : _ = _ := hx; omega) | omega)); refine hK _ _ ?_; clear hK K
    -- 1: load<31> *t5
    refine stepK rfl (by kernel_rfl) (fun K hK => ?_); go_simp
    apply Exists.intro; apply And.intro; (focus exact kLoad rfl rfl aggT31 r2 rfl (by first | exact id | (intro hx; have hx' : _ = _ ∨ _ = _ := hx; omega) | (intro hx; have hx' : _ = _ := hx; omega) | omega)); refine hK _ _ ?_; clear hK K
    -- 2: call F127()
    refine stepS _ rfl (by kernel_rfl) (fun K hK => ?_); go_simp
    refine ⟨?_, ?_⟩
    · intro wk hk hg hu; go_simp; refine upon_enter ((k2.out _).mono ?_); rintro e w' ⟨rfl, hb⟩; exact ⟨_, rfl, left_V (p := fun u => u = .agg (W4 E36)) rfl (hb) rfl⟩
    rintro ⟨v2, lo2, hi2⟩ - - (rfl : v2 = _)
    refine hK _ _ ?_; clear hK K
    -- 3: call F85(t22, t23, t24)
    refine stepS _ rfl (by kernel_rfl) (fun K hK => ?_); go_simp
    refine ⟨?_, ?_⟩
    · intro wk hk hg hu; go_simp; refine upon_enter ((k3.out _).mono ?_); rintro e w' ⟨rfl, hb⟩; exact ⟨_, rfl, left_V (p := fun u => u = .tuple #[.agg (W4 v), .bool true]) rfl (hb) rfl⟩
    rintro ⟨v3, lo3, hi3⟩ - - (rfl : v3 = _)
    refine hK _ _ ?_; clear hK K
    -- 4: extract t25 #0
    refine stepK rfl (by kernel_rfl) (fun K hK => ?_); go_simp
    apply Exists.intro; apply And.intro; (focus (intro wk hk; go_simp; exact ⟨rfl, rfl⟩)); refine hK _ _ ?_; clear hK K
    -- 5: extract t25 #1
    refine stepK rfl (by kernel_rfl) (fun K hK => ?_); go_simp
    apply Exists.intro; apply And.intro; (focus (intro wk hk; go_simp; exact ⟨rfl, rfl⟩)); refine hK _ _ ?_; clear hK K
    -- 6: store<31> *t6 = t26
    refine stepS _ rfl (by kernel_rfl) (fun K hK => ?_); go_simp
    refine ⟨?_, ?_⟩
    · exact sStoreO rfl rfl rfl rfl rfl rfl r3 id (by kernel_rfl) rfl (by kernel_rfl) (by decide) aggOf_congr
    rintro ⟨v6, lo6, hi6⟩ - - (rfl : v6 = undef)
    refine hK _ _ ?_; clear hK K
    -- 7: assign t27
    refine stepKz rfl (fun K hK => ?_); go_simp
    apply Exists.intro; apply And.intro; (focus (intro wk hk; go_simp; exact ⟨rfl, rfl⟩)); refine hK _ _ ?_; clear hK K
    refine stepN ?_
    refine hQ _ _ ?_
    intro w3 hT hG hF
    have hT' := hT.undrew
    have xr3 : Row w3 (w.heap.size + 1 + 1 + 1) 31 ((W4 v)) := hF 6 _ rfl rfl (by decide)
    have hl9 : Below w.heap.size w w3 := hl.trans (hT'.below_of hl.size (by intro c hc; omega))
    replace r0 := K6.Row.tr r0 hT' (by show ¬ (w.heap.size = w.heap.size + 1 + 1 + 1); omega)
    replace r1 := K6.Row.tr r1 hT' (by show ¬ (w.heap.size + 1 = w.heap.size + 1 + 1 + 1); omega)
    replace r2 := K6.Row.tr r2 hT' (by show ¬ (w.heap.size + 1 + 1 = w.heap.size + 1 + 1 + 1); omega)
    replace r4 := K6.Row.tr r4 hT' (by show ¬ (lo3_6 = w.heap.size + 1 + 1 + 1); omega)
    clear hT hT' hG hF hQ QQ L hl r3
    have hl := hl9; clear hl9
    have r3 := xr3; clear xr3
    go_wp2_with fail
    refine bodyPost_ret (results_ct rfl aggT31 rfl r3 rfl) rfl ?_
    exact ⟨rfl, hl⟩
  · rw [show wrN d f m = 0 from if_neg hg]
    replace hg : goodF d f m = false := by simpa using hg
    rw [hg]
    have k0 := Lib.hid (show ∀ wx, Calls Try.prog 151 #[.agg (W4 d), .agg (W4 f), .agg (W4 m)] wx (Ret wx (.bool false)) from fun wx => by have h := goodFU hd hf hm wx; rw [hg] at h; exact h)
    clear hg
    go_enter Try.func147, Try.ntmps147
    apply wp_seq_eq
    focus
      intro J hJ
      go_wp2_with fail
      exact hJ
    refine wp_abs (Mem w [(w.heap.size, 31, W4 d), (w.heap.size + 1, 31, W4 f), (w.heap.size + 1 + 1, 31, W4 m), (w.heap.size + 1 + 1 + 1, 31, arr .u64 (fun _ => 0) 4)]) ⟨by go_grown, ?_, ?_, ?_, ?_, trivial⟩ ?_
    · repeat (first | (refine Row.new_at ?_; simp; done) | refine Row.alloc ?_ _)
    · repeat (first | (refine Row.new_at ?_; simp; done) | refine Row.alloc ?_ _)
    · repeat (first | (refine Row.new_at ?_; simp; done) | refine Row.alloc ?_ _)
    · repeat (first | (refine Row.new_at ?_; simp; done) | refine Row.alloc ?_ _)
    intro w0 hM
    obtain ⟨hl, r0, r1, r2, r3, -⟩ := hM
    go_upto_region 1 with (fail)
    let L : List Sp := [sV 3 [] [] (fun u => u = .bool false)]
    refine wp_region_six0 (shs L) (look6 L) (None_) (by kernel_rfl) (by kernel_rfl) (mk_St L [] [] (by kernel_rfl) (by kernel_rfl) ⟨ok_V ⟨_, rfl⟩, trivial⟩ (by simp)) ?_
    intro QQ hQ
    -- 0: load<31> *t3
    refine stepK rfl (by kernel_rfl) (fun K hK => ?_); go_simp
    apply Exists.intro; apply And.intro; (focus exact kLoad rfl rfl aggT31 r0 rfl id); refine hK _ _ ?_; clear hK K
    -- 1: load<31> *t4
    refine stepK rfl (by kernel_rfl) (fun K hK => ?_); go_simp
    apply Exists.intro; apply And.intro; (focus exact kLoad rfl rfl aggT31 r1 rfl id); refine hK _ _ ?_; clear hK K
    -- 2: load<31> *t5
    refine stepK rfl (by kernel_rfl) (fun K hK => ?_); go_simp
    apply Exists.intro; apply And.intro; (focus exact kLoad rfl rfl aggT31 r2 rfl id); refine hK _ _ ?_; clear hK K
    -- 3: call F151(t10, t11, t12)
    refine stepS _ rfl (by kernel_rfl) (fun K hK => ?_); go_simp
    refine ⟨?_, ?_⟩
    · intro wk hk hg hu; go_simp; refine upon_enter ((k0.out _).mono ?_); rintro e w' ⟨rfl, hb⟩; exact ⟨_, rfl, left_V (p := fun u => u = .bool false) rfl (hb) rfl⟩
    rintro ⟨v3, lo3, hi3⟩ - - (rfl : v3 = _)
    refine hK _ _ ?_; clear hK K
    -- 4: not<4> t13
    refine stepK rfl (by kernel_rfl) (fun K hK => ?_); go_simp
    apply Exists.intro; apply And.intro; (focus (intro wk hk; go_simp; exact ⟨rfl, rfl⟩)); refine hK _ _ ?_; clear hK K
    refine stepN ?_
    refine hQ _ _ ?_
    intro w1 hT hG hF
    have hbw1 := hT.below
    replace r0 := r0.below hbw1 r0.lt
    replace r1 := r1.below hbw1 r1.lt
    replace r2 := r2.below hbw1 r2.lt
    replace r3 := r3.below hbw1 r3.lt
    replace hl := hl.trans (hbw1.mono hl.size)
    clear hT hG hF hbw1 hQ QQ L 
    go_upto_region 2 with (fail)
    let L : List Sp := [sO 1 (w.heap.size + 1 + 1 + 1) 31 [0] (fun g => aggOf g 0)]
    refine wp_region_six0 (shs L) (look6 L) (fun c => c = w.heap.size + 1 + 1 + 1) (by kernel_rfl) (by kernel_rfl) (mk_St L [1] [1] (by kernel_rfl) (by kernel_rfl) ⟨ok_O aggOf_congr r3.lt (rfl), trivial⟩ (by simp)) ?_
    intro QQ hQ
    -- 0: build<31> 
    refine stepK rfl (by kernel_rfl) (fun K hK => ?_); go_simp
    apply Exists.intro; apply And.intro; (focus (intro wk hk; go_simp; exact ⟨rfl, rfl⟩)); refine hK _ _ ?_; clear hK K
    -- 1: store<31> *t6 = t15
    refine stepS _ rfl (by kernel_rfl) (fun K hK => ?_); go_simp
    refine ⟨?_, ?_⟩
    · exact sStoreO rfl rfl rfl rfl rfl rfl r3 id (by kernel_rfl) rfl (by kernel_rfl) (by decide) aggOf_congr
    rintro ⟨v1, lo1, hi1⟩ - - (rfl : v1 = undef)
    refine hK _ _ ?_; clear hK K
    -- 2: assign false
    refine stepKz rfl (fun K hK => ?_); go_simp
    apply Exists.intro; apply And.intro; (focus (intro wk hk; go_simp; exact ⟨rfl, rfl⟩)); refine hK _ _ ?_; clear hK K
    refine stepN ?_
    refine hQ _ _ ?_
    intro w2 hT hG hF
    have hT' := hT
    have xr3 : Row w2 (w.heap.size + 1 + 1 + 1) 31 (W4 0) := Row.congr (show Row w2 (w.heap.size + 1 + 1 + 1) 31 _ from hF 1 _ rfl rfl (by decide)) W4_zero
    have hl9 : Below w.heap.size w w2 := hl.trans (hT'.below_of hl.size (by intro c hc; omega))
    replace r0 := K6.Row.tr r0 hT' (by show ¬ (w.heap.size = w.heap.size + 1 + 1 + 1); omega)
    replace r1 := K6.Row.tr r1 hT' (by show ¬ (w.heap.size + 1 = w.heap.size + 1 + 1 + 1); omega)
    replace r2 := K6.Row.tr r2 hT' (by show ¬ (w.heap.size + 1 + 1 = w.heap.size + 1 + 1 + 1); omega)
    clear hT hT' hG hF hQ QQ L hl r3
    have hl := hl9; clear hl9
    have r3 := xr3; clear xr3
    go_wp2_with fail
    refine bodyPost_ret (results_ct rfl aggT31 rfl r3 rfl) rfl ?_
    exact ⟨rfl, hl⟩
set_option maxRecDepth 100000 in
set_option maxHeartbeats 16000000 in
theorem closU {a b g : Nat} (ha : a < M) (hb : b < M) (hab : a * b < M) (w : World) (rg : Row w g 4 #[.bool true]) :
    Calls Try.prog 245 #[.agg (W4 a), .agg (W4 b), .pointer (some ⟨g, 0, none⟩)] w (Ret w (.agg (W4 (a * b)))) := by
  have k1 := Lib.hid (show ∀ wx, Calls Try.prog 47 #[.agg (W4 a), .agg (W4 b)] wx (Ret wx (.tuple #[.agg (W4 (a * b)), .bool true])) from fun wx => by
    have h := mulU ha hb wx; rw [show mulN a b = a * b from if_pos hab, show mulB a b = true from decide_eq_true hab] at h; exact h)
  obtain ⟨p, hp⟩ : ∃ p, a * b = p := ⟨_, rfl⟩
  rw [hp] at k1 hab ⊢
  clear hp
  go_enter Try.func245, Try.ntmps245
  apply wp_seq_eq
  focus
    intro J hJ
    go_wp2_with fail
    exact hJ
  refine wp_abs (Mem w [(w.heap.size, 31, W4 a), (w.heap.size + 1, 31, W4 b), (w.heap.size + 1 + 1, 31, arr .u64 (fun _ => 0) 4), (g, 4, #[.bool true])]) ⟨by go_grown, ?_, ?_, ?_, ((rg.alloc _).alloc _).alloc _, trivial⟩ ?_
  · repeat (first | (refine Row.new_at ?_; simp; done) | refine Row.alloc ?_ _)
  · repeat (first | (refine Row.new_at ?_; simp; done) | refine Row.alloc ?_ _)
  · repeat (first | (refine Row.new_at ?_; simp; done) | refine Row.alloc ?_ _)
  have hgw := rg.lt
  clear rg
  intro w0 hM
  obtain ⟨hl, ra, rb, rr, rg, -⟩ := hM
  go_upto_region 1 with (fail)
  let L : List Sp := [sV 2 [] [] (fun u => u = .tuple #[.agg (W4 p), .bool true]), sA 6 31 [7] #[.int .u64 0, .int .u64 0, .int .u64 0, .int .u64 0], sT 7 6 31 [4] (fun g => aggOf g 4)]
  refine wp_region_six0 (shs L) (look6 L) (None_) (by kernel_rfl) (by kernel_rfl) (mk_St L [] [] (by kernel_rfl) (by kernel_rfl) ⟨ok_V ⟨_, rfl⟩, ok_A, ok_T aggOf_congr, trivial⟩ (by simp)) ?_
  intro QQ hQ
  -- 0: load<31> *t3
  refine stepK rfl (by kernel_rfl) (fun K hK => ?_); go_simp
  apply Exists.intro; apply And.intro; (focus exact kLoad rfl rfl aggT31 ra rfl id); refine hK _ _ ?_; clear hK K
  -- 1: load<31> *t4
  refine stepK rfl (by kernel_rfl) (fun K hK => ?_); go_simp
  apply Exists.intro; apply And.intro; (focus exact kLoad rfl rfl aggT31 rb rfl id); refine hK _ _ ?_; clear hK K
  -- 2: call F47(t9, t10)
  refine stepS _ rfl (by kernel_rfl) (fun K hK => ?_); go_simp
  refine ⟨?_, ?_⟩
  · intro wk hk hg hu; go_simp; refine upon_enter ((k1.out _).mono ?_); rintro e w' ⟨rfl, hb⟩; exact ⟨_, rfl, left_V (p := fun u => u = .tuple #[.agg (W4 p), .bool true]) rfl (hb) rfl⟩
  rintro ⟨v2, lo2, hi2⟩ - - (rfl : v2 = _)
  refine hK _ _ ?_; clear hK K
  -- 3: t11
  refine stepK rfl (by kernel_rfl) (fun K hK => ?_); go_simp
  apply Exists.intro; apply And.intro; (focus (intro wk hk; go_simp; exact ⟨rfl, rfl⟩)); refine hK _ _ ?_; clear hK K
  -- 4: extract t8 #0
  refine stepK rfl (by kernel_rfl) (fun K hK => ?_); go_simp
  apply Exists.intro; apply And.intro; (focus (intro wk hk; go_simp; exact ⟨rfl, rfl⟩)); refine hK _ _ ?_; clear hK K
  -- 5: extract t8 #1
  refine stepK rfl (by kernel_rfl) (fun K hK => ?_); go_simp
  apply Exists.intro; apply And.intro; (focus (intro wk hk; go_simp; exact ⟨rfl, rfl⟩)); refine hK _ _ ?_; clear hK K
  -- 6: alloc<31>
  refine stepS _ rfl (by kernel_rfl) (fun K hK => ?_); go_simp
  refine ⟨?_, ?_⟩
  · intro wk hk hg hu; go_simp; exact left_A rfl rfl
  rintro ⟨v6, lo6, hi6⟩ hlo6 hhi6 ⟨e6, f6⟩
  replace e6 : v6 = .pointer (some ⟨lo6, 0, none⟩) := e6; replace f6 : hi6 = lo6 + 1 := f6; replace hlo6 : _ ≤ lo6 := hlo6; subst e6; subst f6
  refine hK _ _ ?_; clear hK K
  -- 7: store<31> *t6 = t12
  refine stepS _ rfl (by kernel_rfl) (fun K hK => ?_); go_simp
  refine ⟨?_, ?_⟩
  · exact sStoreT rfl rfl rfl rfl rfl rfl rfl (by kernel_rfl) rfl (by kernel_rfl) (by decide) aggOf_congr
  rintro ⟨v7, lo7, hi7⟩ - - (rfl : v7 = undef)
  refine hK _ _ ?_; clear hK K
  -- 8: assign t13
  refine stepK rfl (by kernel_rfl) (fun K hK => ?_); go_simp
  apply Exists.intro; apply And.intro; (focus (intro wk hk; go_simp; exact ⟨rfl, rfl⟩)); refine hK _ _ ?_; clear hK K
  refine stepN ?_
  refine hQ _ _ ?_
  intro w1 hT hG hF
  have hbw1 := hT.below
  have rx : Row w1 lo6 31 (W4 p) := (hF 7 _ rfl rfl (by decide)).2
  replace rr := rr.below hbw1 rr.lt
  replace rg := rg.below hbw1 rg.lt
  replace hl := hl.trans (hbw1.mono hl.size)
  clear hT hG hF hbw1 hQ QQ L hhi6 ra rb k1
  have cc : w1.cell? ⟨g, 0, none⟩ = some (.bool true) := rg.cell 0
  have ff := rg.frozen 0
  have hs := set_same (B := w1.heap.size) (i := 0) (v := .bool true) rg rfl
  go_upto_region 3 with (fail)
  refine wp_abs (Mem w [(w.heap.size + 1 + 1, 31, arr .u64 (fun _ => 0) 4), (lo6, 31, W4 p)]) ⟨hl.trans (hs.mono hl.size), rr.below hs rr.lt, rx.below hs rx.lt, trivial⟩ ?_
  clear hl rr rx rg cc ff hs
  intro w2 hM
  obtain ⟨hl, rr, rx, -⟩ := hM
  let L : List Sp := [sO 1 (w.heap.size + 1 + 1) 31 [0] (fun g => aggOf g 0)]
  refine wp_region_six0 (shs L) (look6 L) (fun c => c = w.heap.size + 1 + 1) (by kernel_rfl) (by kernel_rfl) (mk_St L [1] [1] (by kernel_rfl) (by kernel_rfl) ⟨ok_O aggOf_congr rr.lt (rfl), trivial⟩ (by simp)) ?_
  intro QQ hQ
  -- 0: load<31> *t6
  refine stepK rfl (by kernel_rfl) (fun K hK => ?_); go_simp
  apply Exists.intro; apply And.intro; (focus exact kLoad rfl rfl aggT31 rx rfl id); refine hK _ _ ?_; clear hK K
  -- 1: store<31> *t5 = t18
  refine stepS _ rfl (by kernel_rfl) (fun K hK => ?_); go_simp
  refine ⟨?_, ?_⟩
  · exact sStoreO rfl rfl rfl rfl rfl rfl rr id (by kernel_rfl) rfl (by kernel_rfl) (by decide) aggOf_congr
  rintro ⟨v1, lo1, hi1⟩ - - (rfl : v1 = undef)
  refine hK _ _ ?_; clear hK K
  refine stepN ?_
  refine hQ _ _ ?_
  intro w9 hT hG hF
  have hT' := hT
  have x2 : Row w9 (w.heap.size + 1 + 1) 31 (W4 p) := hF 1 _ rfl rfl (by decide)
  have hl9 : Below w.heap.size w w9 := hl.trans (hT'.below_of hl.size (by intro c hc; omega))
  clear hT hT' hG hF hQ QQ L
  go_wp2_with fail
  refine bodyPost_ret (results_c rfl aggT31 rfl x2 rfl) rfl ?_
  exact ⟨rfl, hl9⟩
set_option maxRecDepth 100000 in
set_option maxHeartbeats 16000000 in
theorem factorU {a d m : Nat} (ha : a < M) (hd : d < M) (hm : m < M) (hdm : d * m < M) (w : World) : Calls Try.prog 223 #[.agg (W4 a), .agg (W4 d), .agg (W4 m)] w (Ret w (.tuple #[.agg (W4 (fcN a (d * m))), .bool (fcB a (d * m))])) := by
  have kc0 : ∀ wx g, Row wx g 4 #[.bool true] → Calls Try.prog 245 #[.agg (W4 d), .agg (W4 m), .pointer (some ⟨g, 0, none⟩)] wx (Ret wx (.agg (W4 (d * m)))) := fun wx g rg => closU hd hm hdm wx rg
  obtain ⟨n, hn⟩ : ∃ n, d * m = n := ⟨_, rfl⟩
  rw [hn] at kc0 hdm ⊢
  clear hn
  have nl := hdm
  have kc := Lib.hid kc0
  clear kc0 hdm
  have hB : fcB a n = (quoB (a * E36) n && (decide (quoN (a * E36) n ≠ 0) && decide (quoN (a * E36) n ≤ E36))) := rfl
  have hN : fcN a n = if fcB a n = true then quoN (a * E36) n else 0 := rfl
  obtain ⟨q, hq⟩ : ∃ q, q = quoN (a * E36) n := ⟨_, rfl⟩
  have ql : q < M := hq ▸ quoN_lt _ _
  rw [← hq] at hB hN
  cases his : quoB (a * E36) n
  · rw [his, Bool.false_and] at hB
    rw [hN, hB]
    clear hN hB
    rw [if_neg (show ¬ ((false : Bool) = true) by decide)]
    have k0 := Lib.hid (show ∀ wx, Calls Try.prog 127 #[] wx (Ret wx (.agg (W4 E36))) from fun wx => by have h := sqU  wx; exact h)
    have k1 := Lib.hid (show ∀ wx, Calls Try.prog 85 #[.agg (W4 a), .agg (W4 E36), .agg (W4 n)] wx (Ret wx (.tuple #[.agg (W4 q), .bool false])) from fun wx => by have h := downU ha E36_lt nl wx; rw [← hq, his] at h; exact h)
    clear  hq his
    go_enter Try.func223, Try.ntmps223
    apply wp_seq_eq
    focus
      intro J hJ
      go_wp2_with fail
      exact hJ
    refine wp_abs (Mem w [(w.heap.size, 31, W4 a), (w.heap.size + 1, 31, W4 d), (w.heap.size + 1 + 1, 31, W4 m), (w.heap.size + 1 + 1 + 1, 31, arr .u64 (fun _ => 0) 4)]) ⟨by go_grown, ?_, ?_, ?_, ?_, trivial⟩ ?_
    · repeat (first | (refine Row.new_at ?_; simp; done) | refine Row.alloc ?_ _)
    · repeat (first | (refine Row.new_at ?_; simp; done) | refine Row.alloc ?_ _)
    · repeat (first | (refine Row.new_at ?_; simp; done) | refine Row.alloc ?_ _)
    · repeat (first | (refine Row.new_at ?_; simp; done) | refine Row.alloc ?_ _)
    intro w0 hM
    obtain ⟨hl, r0, r1, r2, r3, -⟩ := hM
    go_upto_region 3 with (fail)
    refine wp_abs (Mem w [(w.heap.size, 31, W4 a), (w.heap.size + 1, 31, W4 d), (w.heap.size + 1 + 1, 31, W4 m), (w.heap.size + 1 + 1 + 1, 31, arr .u64 (fun _ => 0) 4), (w0.heap.size, 4, #[.bool true])]) ?_ ?_
    · have hb9 : Below w0.heap.size w0 (w0.alloc (.cells #[.bool true] 4)) := by go_grown
      exact ⟨hl.trans (hb9.mono hl.size), r0.below hb9 r0.lt, r1.below hb9 r1.lt, r2.below hb9 r2.lt, r3.below hb9 r3.lt, Row.new_at rfl, trivial⟩
    have ng := r3.lt
    clear hl r0 r1 r2 r3
    obtain ⟨g, hg⟩ : ∃ g, w0.heap.size = g := ⟨_, rfl⟩
    rw [hg] at ng ⊢
    clear hg
    intro w8 hM
    obtain ⟨hl, r0, r1, r2, r3, rb, -⟩ := hM
    go_upto_region 3 with (fail)
    let L : List Sp := [sV 1 [] [] (fun u => u = .agg (W4 E36)), sV 5 [] [] (fun u => u = .agg (W4 n)), sV 6 [] [] (fun u => u = .tuple #[.agg (W4 q), .bool false]), sA 10 31 [11] #[.int .u64 0, .int .u64 0, .int .u64 0, .int .u64 0], sT 11 10 31 [8] (fun g => aggOf g 8)]
    refine wp_region_six (shs L) (look6 L) (None_) (by kernel_rfl) (by kernel_rfl) (mk_St L [] [] (by kernel_rfl) (by kernel_rfl) ⟨ok_V ⟨_, rfl⟩, ok_V ⟨_, rfl⟩, ok_V ⟨_, rfl⟩, ok_A, ok_T aggOf_congr, trivial⟩ (by simp)) ?_
    intro QQ hQ
    -- 0: load<31> *t3
    refine stepK rfl (by kernel_rfl) (fun K hK => ?_); go_simp
    apply Exists.intro; apply And.intro; (focus exact kLoad rfl rfl aggT31 r0 rfl id); refine hK _ _ ?_; clear hK K
    -- 1: call F127()
    refine stepS _ rfl (by kernel_rfl) (fun K hK => ?_); go_simp
    refine ⟨?_, ?_⟩
    · intro wk hk hg hu; go_simp; refine upon_enter ((k0.out _).mono ?_); rintro e w' ⟨rfl, hb⟩; exact ⟨_, rfl, left_V (p := fun u => u = .agg (W4 E36)) rfl (hb) rfl⟩
    rintro ⟨v1, lo1, hi1⟩ - - (rfl : v1 = _)
    refine hK _ _ ?_; clear hK K
    -- 2: t9
    refine stepK rfl (by kernel_rfl) (fun K hK => ?_); go_simp
    apply Exists.intro; apply And.intro; (focus (intro wk hk; go_simp; exact ⟨rfl, rfl⟩)); refine hK _ _ ?_; clear hK K
    -- 3: load<31> *t4
    refine stepK rfl (by kernel_rfl) (fun K hK => ?_); go_simp
    apply Exists.intro; apply And.intro; (focus exact kLoad rfl rfl aggT31 r1 rfl id); refine hK _ _ ?_; clear hK K
    -- 4: load<31> *t5
    refine stepK rfl (by kernel_rfl) (fun K hK => ?_); go_simp
    apply Exists.intro; apply And.intro; (focus exact kLoad rfl rfl aggT31 r2 rfl id); refine hK _ _ ?_; clear hK K
    -- 5: call t16(t17, t18)
    refine stepS _ rfl (by kernel_rfl) (fun K hK => ?_); go_simp
    refine ⟨?_, ?_⟩
    · intro wk hk hg hu; go_simp; refine upon_enter ((kc.out _ g (K6.Row.tr rb hk.undrew id)).mono ?_); rintro e w' ⟨rfl, hb⟩; exact ⟨_, rfl, left_V (p := fun u => u = .agg (W4 n)) rfl (hb) rfl⟩
    rintro ⟨v5, lo5, hi5⟩ - - (rfl : v5 = _)
    refine hK _ _ ?_; clear hK K
    -- 6: call F85(t14, t15, t19)
    refine stepS _ rfl (by kernel_rfl) (fun K hK => ?_); go_simp
    refine ⟨?_, ?_⟩
    · intro wk hk hg hu; go_simp; refine upon_enter ((k1.out _).mono ?_); rintro e w' ⟨rfl, hb⟩; exact ⟨_, rfl, left_V (p := fun u => u = .tuple #[.agg (W4 q), .bool false]) rfl (hb) rfl⟩
    rintro ⟨v6, lo6, hi6⟩ - - (rfl : v6 = _)
    refine hK _ _ ?_; clear hK K
    -- 7: t20
    refine stepK rfl (by kernel_rfl) (fun K hK => ?_); go_simp
    apply Exists.intro; apply And.intro; (focus (intro wk hk; go_simp; exact ⟨rfl, rfl⟩)); refine hK _ _ ?_; clear hK K
    -- 8: extract t13 #0
    refine stepK rfl (by kernel_rfl) (fun K hK => ?_); go_simp
    apply Exists.intro; apply And.intro; (focus (intro wk hk; go_simp; exact ⟨rfl, rfl⟩)); refine hK _ _ ?_; clear hK K
    -- 9: extract t13 #1
    refine stepK rfl (by kernel_rfl) (fun K hK => ?_); go_simp
    apply Exists.intro; apply And.intro; (focus (intro wk hk; go_simp; exact ⟨rfl, rfl⟩)); refine hK _ _ ?_; clear hK K
    -- 10: alloc<31>
    refine stepS _ rfl (by kernel_rfl) (fun K hK => ?_); go_simp
    refine ⟨?_, ?_⟩
    · intro wk hk hg hu; go_simp; exact left_A rfl rfl
    rintro ⟨v10, lo3_10, hi10⟩ hlo10 hhi10 ⟨e10, f10⟩
    replace e10 : v10 = .pointer (some ⟨lo3_10, 0, none⟩) := e10; replace f10 : hi10 = lo3_10 + 1 := f10; replace hlo10 : _ ≤ lo3_10 := hlo10; subst e10; subst f10
    refine hK _ _ ?_; clear hK K
    -- 11: store<31> *t10 = t21
    refine stepS _ rfl (by kernel_rfl) (fun K hK => ?_); go_simp
    refine ⟨?_, ?_⟩
    · exact sStoreT rfl rfl rfl rfl rfl rfl rfl (by kernel_rfl) rfl (by kernel_rfl) (by decide) aggOf_congr
    rintro ⟨v11, lo11, hi11⟩ - - (rfl : v11 = undef)
    refine hK _ _ ?_; clear hK K
    -- 12: assign t22
    refine stepK rfl (by kernel_rfl) (fun K hK => ?_); go_simp
    apply Exists.intro; apply And.intro; (focus (intro wk hk; go_simp; exact ⟨rfl, rfl⟩)); refine hK _ _ ?_; clear hK K
    refine stepN ?_
    refine hQ _ _ ?_
    intro w1 hT hG hF
    have nr5r0 : w.heap.size < lo3_10 := Nat.lt_of_lt_of_le r0.lt hlo10
    have nr5r1 : w.heap.size + 1 < lo3_10 := Nat.lt_of_lt_of_le r1.lt hlo10
    have nr5r2 : w.heap.size + 1 + 1 < lo3_10 := Nat.lt_of_lt_of_le r2.lt hlo10
    have nr5r3 : w.heap.size + 1 + 1 + 1 < lo3_10 := Nat.lt_of_lt_of_le r3.lt hlo10
    have nr5rb : g < lo3_10 := Nat.lt_of_lt_of_le rb.lt hlo10
    have hbw1 := hT.undrew.below
    have r5 : Row w1 lo3_10 31 ((W4 q)) := (hF 11 _ rfl rfl (by decide)).2
    replace r0 := r0.below hbw1 r0.lt
    replace r1 := r1.below hbw1 r1.lt
    replace r2 := r2.below hbw1 r2.lt
    replace r3 := r3.below hbw1 r3.lt
    replace rb := rb.below hbw1 rb.lt
    replace hl := hl.trans (hbw1.mono hl.size)
    clear hT hG hF hbw1 hQ QQ L hlo10 hhi10
    go_upto_region 4 with (fail)
    let L : List Sp := []
    refine wp_region_six (shs L) (look6 L) (None_) (by kernel_rfl) (by kernel_rfl) (mk_St L [] [] (by kernel_rfl) (by kernel_rfl) trivial (by simp)) ?_
    intro QQ hQ
    -- 0: load<4> *t8
    refine stepK rfl (by kernel_rfl) (fun K hK => ?_); go_simp
    apply Exists.intro; apply And.intro; (focus (intro wk hk; have cc := (K6.Row.tr rb hk.undrew id).cell 0; go_simp; exact ⟨rfl, rfl⟩)); refine hK _ _ ?_; clear hK K
    -- 1: not<4> t23
    refine stepK rfl (by kernel_rfl) (fun K hK => ?_); go_simp
    apply Exists.intro; apply And.intro; (focus (intro wk hk; go_simp; exact ⟨rfl, rfl⟩)); refine hK _ _ ?_; clear hK K
    -- 2: t24
    refine stepK rfl (by kernel_rfl) (fun K hK => ?_); go_simp
    apply Exists.intro; apply And.intro; (focus (intro wk hk; go_simp; exact ⟨rfl, rfl⟩)); refine hK _ _ ?_; clear hK K
    -- 3: t11
    refine stepK rfl (by kernel_rfl) (fun K hK => ?_); go_simp
    first | (refine hK _ _ ?_; clear hK K) | (apply Exists.intro; apply And.intro; (focus (intro wk hk; go_simp; exact ⟨rfl, rfl⟩)); refine hK _ _ ?_; clear hK K)
    -- 4: not<4> t26
    refine stepK rfl (by kernel_rfl) (fun K hK => ?_); go_simp
    first | (refine hK _ _ ?_; clear hK K) | (apply Exists.intro; apply And.intro; (focus (intro wk hk; go_simp; exact ⟨rfl, rfl⟩)); refine hK _ _ ?_; clear hK K)
    -- 5: pick t25 ? true : t27
    refine stepK rfl (by kernel_rfl) (fun K hK => ?_); go_simp
    apply Exists.intro; apply And.intro; (focus (intro wk hk; go_simp; exact ⟨rfl, rfl⟩)); refine hK _ _ ?_; clear hK K
    -- 6: t28
    refine stepK rfl (by kernel_rfl) (fun K hK => ?_); go_simp
    apply Exists.intro; apply And.intro; (focus (intro wk hk; go_simp; exact ⟨rfl, rfl⟩)); refine hK _ _ ?_; clear hK K
    -- 7: load<31> *t10
    refine stepK rfl (by kernel_rfl) (fun K hK => ?_); go_simp
    first | (refine hK _ _ ?_; clear hK K) | (apply Exists.intro; apply And.intro; (focus (intro wk hk; go_simp; exact ⟨rfl, rfl⟩)); refine hK _ _ ?_; clear hK K)
    -- 8: build<31> 
    refine stepK rfl (by kernel_rfl) (fun K hK => ?_); go_simp
    first | (refine hK _ _ ?_; clear hK K) | (apply Exists.intro; apply And.intro; (focus (intro wk hk; go_simp; exact ⟨rfl, rfl⟩)); refine hK _ _ ?_; clear hK K)
    -- 9: eql<31> t30, t31
    refine stepK rfl (by kernel_rfl) (fun K hK => ?_); go_simp
    first | (refine hK _ _ ?_; clear hK K) | (apply Exists.intro; apply And.intro; (focus (intro wk hk; go_simp; exact ⟨rfl, rfl⟩)); refine hK _ _ ?_; clear hK K)
    -- 10: pick t29 ? true : t32
    refine stepK rfl (by kernel_rfl) (fun K hK => ?_); go_simp
    apply Exists.intro; apply And.intro; (focus (intro wk hk; go_simp; exact ⟨rfl, rfl⟩)); refine hK _ _ ?_; clear hK K
    -- 11: t33
    refine stepK rfl (by kernel_rfl) (fun K hK => ?_); go_simp
    apply Exists.intro; apply And.intro; (focus (intro wk hk; go_simp; exact ⟨rfl, rfl⟩)); refine hK _ _ ?_; clear hK K
    -- 12: load<31> *t10
    refine stepK rfl (by kernel_rfl) (fun K hK => ?_); go_simp
    first | (refine hK _ _ ?_; clear hK K) | (apply Exists.intro; apply And.intro; (focus (intro wk hk; go_simp; exact ⟨rfl, rfl⟩)); refine hK _ _ ?_; clear hK K)
    -- 13: call F127()
    refine stepK rfl (by kernel_rfl) (fun K hK => ?_); go_simp
    first | (refine hK _ _ ?_; clear hK K) | (apply Exists.intro; apply And.intro; (focus (intro wk hk; go_simp; exact ⟨rfl, rfl⟩)); refine hK _ _ ?_; clear hK K)
    -- 14: call F48(t35, t36)
    refine stepK rfl (by kernel_rfl) (fun K hK => ?_); go_simp
    first | (refine hK _ _ ?_; clear hK K) | (apply Exists.intro; apply And.intro; (focus (intro wk hk; go_simp; exact ⟨rfl, rfl⟩)); refine hK _ _ ?_; clear hK K)
    -- 15: gtr<3> t37, 0
    refine stepK rfl (by kernel_rfl) (fun K hK => ?_); go_simp
    first | (refine hK _ _ ?_; clear hK K) | (apply Exists.intro; apply And.intro; (focus (intro wk hk; go_simp; exact ⟨rfl, rfl⟩)); refine hK _ _ ?_; clear hK K)
    -- 16: pick t34 ? true : t38
    refine stepK rfl (by kernel_rfl) (fun K hK => ?_); go_simp
    apply Exists.intro; apply And.intro; (focus (intro wk hk; go_simp; exact ⟨rfl, rfl⟩)); refine hK _ _ ?_; clear hK K
    refine stepN ?_
    refine hQ _ _ ?_
    intro w2 hT hG hF
    have hbw2 := hT.undrew.below
    replace r0 := r0.below hbw2 r0.lt
    replace r1 := r1.below hbw2 r1.lt
    replace r2 := r2.below hbw2 r2.lt
    replace r3 := r3.below hbw2 r3.lt
    replace rb := rb.below hbw2 rb.lt
    replace r5 := r5.below hbw2 r5.lt
    replace hl := hl.trans (hbw2.mono hl.size)
    clear hT hG hF hbw2 hQ QQ L 
    go_upto_region 5 with (fail)
    let L : List Sp := [sO 1 (w.heap.size + 1 + 1 + 1) 31 [0] (fun g => aggOf g 0)]
    refine wp_region_six0 (shs L) (look6 L) (fun c => c = w.heap.size + 1 + 1 + 1) (by kernel_rfl) (by kernel_rfl) (mk_St L [1] [1] (by kernel_rfl) (by kernel_rfl) ⟨ok_O aggOf_congr r3.lt (rfl), trivial⟩ (by simp)) ?_
    intro QQ hQ
    -- 0: build<31> 
    refine stepK rfl (by kernel_rfl) (fun K hK => ?_); go_simp
    apply Exists.intro; apply And.intro; (focus (intro wk hk; go_simp; exact ⟨rfl, rfl⟩)); refine hK _ _ ?_; clear hK K
    -- 1: store<31> *t6 = t40
    refine stepS _ rfl (by kernel_rfl) (fun K hK => ?_); go_simp
    refine ⟨?_, ?_⟩
    · exact sStoreO rfl rfl rfl rfl rfl rfl r3 id (by kernel_rfl) rfl (by kernel_rfl) (by decide) aggOf_congr
    rintro ⟨v1, lo1, hi1⟩ - - (rfl : v1 = undef)
    refine hK _ _ ?_; clear hK K
    -- 2: assign false
    refine stepKz rfl (fun K hK => ?_); go_simp
    apply Exists.intro; apply And.intro; (focus (intro wk hk; go_simp; exact ⟨rfl, rfl⟩)); refine hK _ _ ?_; clear hK K
    refine stepN ?_
    refine hQ _ _ ?_
    intro w3 hT hG hF
    have hT' := hT
    have xr3 : Row w3 (w.heap.size + 1 + 1 + 1) 31 (W4 0) := Row.congr (show Row w3 (w.heap.size + 1 + 1 + 1) 31 _ from hF 1 _ rfl rfl (by decide)) W4_zero
    have hl9 : Below w.heap.size w w3 := hl.trans (hT'.below_of hl.size (by intro c hc; omega))
    replace r0 := K6.Row.tr r0 hT' (by show ¬ (w.heap.size = w.heap.size + 1 + 1 + 1); omega)
    replace r1 := K6.Row.tr r1 hT' (by show ¬ (w.heap.size + 1 = w.heap.size + 1 + 1 + 1); omega)
    replace r2 := K6.Row.tr r2 hT' (by show ¬ (w.heap.size + 1 + 1 = w.heap.size + 1 + 1 + 1); omega)
    replace rb := K6.Row.tr rb hT' (by show ¬ (g = w.heap.size + 1 + 1 + 1); omega)
    replace r5 := K6.Row.tr r5 hT' (by show ¬ (lo3_10 = w.heap.size + 1 + 1 + 1); omega)
    clear hT hT' hG hF hQ QQ L hl r3
    have hl := hl9; clear hl9
    have r3 := xr3; clear xr3
    go_wp2_with fail
    refine bodyPost_ret (results_ct rfl aggT31 rfl r3 rfl) rfl ?_
    exact ⟨rfl, hl⟩
  · rw [his, Bool.true_and] at hB
    by_cases h0 : q = 0
    · rw [decide_eq_false (fun h => h h0), Bool.false_and] at hB
      rw [hN, hB]
      clear hN hB
      rw [if_neg (show ¬ ((false : Bool) = true) by decide)]
      have k0 := Lib.hid (show ∀ wx, Calls Try.prog 127 #[] wx (Ret wx (.agg (W4 E36))) from fun wx => by have h := sqU  wx; exact h)
      have k1 := Lib.hid (show ∀ wx, Calls Try.prog 85 #[.agg (W4 a), .agg (W4 E36), .agg (W4 n)] wx (Ret wx (.tuple #[.agg (W4 q), .bool true])) from fun wx => by have h := downU ha E36_lt nl wx; rw [← hq, his] at h; exact h)
      have q0 : ∀ wx, (Op.equalIn 10000 31 (.agg (W4 q)) (.agg #[.int .u64 0, .int .u64 0, .int .u64 0, .int .u64 0])).run Try.prog wx = .ok true wx := fun wx => by rw [eqU0 ql, decide_eq_true h0]
      clear h0 hq his
      go_enter Try.func223, Try.ntmps223
      apply wp_seq_eq
      focus
        intro J hJ
        go_wp2_with fail
        exact hJ
      refine wp_abs (Mem w [(w.heap.size, 31, W4 a), (w.heap.size + 1, 31, W4 d), (w.heap.size + 1 + 1, 31, W4 m), (w.heap.size + 1 + 1 + 1, 31, arr .u64 (fun _ => 0) 4)]) ⟨by go_grown, ?_, ?_, ?_, ?_, trivial⟩ ?_
      · repeat (first | (refine Row.new_at ?_; simp; done) | refine Row.alloc ?_ _)
      · repeat (first | (refine Row.new_at ?_; simp; done) | refine Row.alloc ?_ _)
      · repeat (first | (refine Row.new_at ?_; simp; done) | refine Row.alloc ?_ _)
      · repeat (first | (refine Row.new_at ?_; simp; done) | refine Row.alloc ?_ _)
      intro w0 hM
      obtain ⟨hl, r0, r1, r2, r3, -⟩ := hM
      go_upto_region 3 with (fail)
      refine wp_abs (Mem w [(w.heap.size, 31, W4 a), (w.heap.size + 1, 31, W4 d), (w.heap.size + 1 + 1, 31, W4 m), (w.heap.size + 1 + 1 + 1, 31, arr .u64 (fun _ => 0) 4), (w0.heap.size, 4, #[.bool true])]) ?_ ?_
      · have hb9 : Below w0.heap.size w0 (w0.alloc (.cells #[.bool true] 4)) := by go_grown
        exact ⟨hl.trans (hb9.mono hl.size), r0.below hb9 r0.lt, r1.below hb9 r1.lt, r2.below hb9 r2.lt, r3.below hb9 r3.lt, Row.new_at rfl, trivial⟩
      have ng := r3.lt
      clear hl r0 r1 r2 r3
      obtain ⟨g, hg⟩ : ∃ g, w0.heap.size = g := ⟨_, rfl⟩
      rw [hg] at ng ⊢
      clear hg
      intro w8 hM
      obtain ⟨hl, r0, r1, r2, r3, rb, -⟩ := hM
      go_upto_region 3 with (fail)
      let L : List Sp := [sV 1 [] [] (fun u => u = .agg (W4 E36)), sV 5 [] [] (fun u => u = .agg (W4 n)), sV 6 [] [] (fun u => u = .tuple #[.agg (W4 q), .bool true]), sA 10 31 [11] #[.int .u64 0, .int .u64 0, .int .u64 0, .int .u64 0], sT 11 10 31 [8] (fun g => aggOf g 8)]
      refine wp_region_six (shs L) (look6 L) (None_) (by kernel_rfl) (by kernel_rfl) (mk_St L [] [] (by kernel_rfl) (by kernel_rfl) ⟨ok_V ⟨_, rfl⟩, ok_V ⟨_, rfl⟩, ok_V ⟨_, rfl⟩, ok_A, ok_T aggOf_congr, trivial⟩ (by simp)) ?_
      intro QQ hQ
      -- 0: load<31> *t3
      refine stepK rfl (by kernel_rfl) (fun K hK => ?_); go_simp
      apply Exists.intro; apply And.intro; (focus exact kLoad rfl rfl aggT31 r0 rfl id); refine hK _ _ ?_; clear hK K
      -- 1: call F127()
      refine stepS _ rfl (by kernel_rfl) (fun K hK => ?_); go_simp
      refine ⟨?_, ?_⟩
      · intro wk hk hg hu; go_simp; refine upon_enter ((k0.out _).mono ?_); rintro e w' ⟨rfl, hb⟩; exact ⟨_, rfl, left_V (p := fun u => u = .agg (W4 E36)) rfl (hb) rfl⟩
      rintro ⟨v1, lo1, hi1⟩ - - (rfl : v1 = _)
      refine hK _ _ ?_; clear hK K
      -- 2: t9
      refine stepK rfl (by kernel_rfl) (fun K hK => ?_); go_simp
      apply Exists.intro; apply And.intro; (focus (intro wk hk; go_simp; exact ⟨rfl, rfl⟩)); refine hK _ _ ?_; clear hK K
      -- 3: load<31> *t4
      refine stepK rfl (by kernel_rfl) (fun K hK => ?_); go_simp
      apply Exists.intro; apply And.intro; (focus exact kLoad rfl rfl aggT31 r1 rfl id); refine hK _ _ ?_; clear hK K
      -- 4: load<31> *t5
      refine stepK rfl (by kernel_rfl) (fun K hK => ?_); go_simp
      apply Exists.intro; apply And.intro; (focus exact kLoad rfl rfl aggT31 r2 rfl id); refine hK _ _ ?_; clear hK K
      -- 5: call t16(t17, t18)
      refine stepS _ rfl (by kernel_rfl) (fun K hK => ?_); go_simp
      refine ⟨?_, ?_⟩
      · intro wk hk hg hu; go_simp; refine upon_enter ((kc.out _ g (K6.Row.tr rb hk.undrew id)).mono ?_); rintro e w' ⟨rfl, hb⟩; exact ⟨_, rfl, left_V (p := fun u => u = .agg (W4 n)) rfl (hb) rfl⟩
      rintro ⟨v5, lo5, hi5⟩ - - (rfl : v5 = _)
      refine hK _ _ ?_; clear hK K
      -- 6: call F85(t14, t15, t19)
      refine stepS _ rfl (by kernel_rfl) (fun K hK => ?_); go_simp
      refine ⟨?_, ?_⟩
      · intro wk hk hg hu; go_simp; refine upon_enter ((k1.out _).mono ?_); rintro e w' ⟨rfl, hb⟩; exact ⟨_, rfl, left_V (p := fun u => u = .tuple #[.agg (W4 q), .bool true]) rfl (hb) rfl⟩
      rintro ⟨v6, lo6, hi6⟩ - - (rfl : v6 = _)
      refine hK _ _ ?_; clear hK K
      -- 7: t20
      refine stepK rfl (by kernel_rfl) (fun K hK => ?_); go_simp
      apply Exists.intro; apply And.intro; (focus (intro wk hk; go_simp; exact ⟨rfl, rfl⟩)); refine hK _ _ ?_; clear hK K
      -- 8: extract t13 #0
      refine stepK rfl (by kernel_rfl) (fun K hK => ?_); go_simp
      apply Exists.intro; apply And.intro; (focus (intro wk hk; go_simp; exact ⟨rfl, rfl⟩)); refine hK _ _ ?_; clear hK K
      -- 9: extract t13 #1
      refine stepK rfl (by kernel_rfl) (fun K hK => ?_); go_simp
      apply Exists.intro; apply And.intro; (focus (intro wk hk; go_simp; exact ⟨rfl, rfl⟩)); refine hK _ _ ?_; clear hK K
      -- 10: alloc<31>
      refine stepS _ rfl (by kernel_rfl) (fun K hK => ?_); go_simp
      refine ⟨?_, ?_⟩
      · intro wk hk hg hu; go_simp; exact left_A rfl rfl
      rintro ⟨v10, lo3_10, hi10⟩ hlo10 hhi10 ⟨e10, f10⟩
      replace e10 : v10 = .pointer (some ⟨lo3_10, 0, none⟩) := e10; replace f10 : hi10 = lo3_10 + 1 := f10; replace hlo10 : _ ≤ lo3_10 := hlo10; subst e10; subst f10
      refine hK _ _ ?_; clear hK K
      -- 11: store<31> *t10 = t21
      refine stepS _ rfl (by kernel_rfl) (fun K hK => ?_); go_simp
      refine ⟨?_, ?_⟩
      · exact sStoreT rfl rfl rfl rfl rfl rfl rfl (by kernel_rfl) rfl (by kernel_rfl) (by decide) aggOf_congr
      rintro ⟨v11, lo11, hi11⟩ - - (rfl : v11 = undef)
      refine hK _ _ ?_; clear hK K
      -- 12: assign t22
      refine stepK rfl (by kernel_rfl) (fun K hK => ?_); go_simp
      apply Exists.intro; apply And.intro; (focus (intro wk hk; go_simp; exact ⟨rfl, rfl⟩)); refine hK _ _ ?_; clear hK K
      refine stepN ?_
      refine hQ _ _ ?_
      intro w1 hT hG hF
      have nr5r0 : w.heap.size < lo3_10 := Nat.lt_of_lt_of_le r0.lt hlo10
      have nr5r1 : w.heap.size + 1 < lo3_10 := Nat.lt_of_lt_of_le r1.lt hlo10
      have nr5r2 : w.heap.size + 1 + 1 < lo3_10 := Nat.lt_of_lt_of_le r2.lt hlo10
      have nr5r3 : w.heap.size + 1 + 1 + 1 < lo3_10 := Nat.lt_of_lt_of_le r3.lt hlo10
      have nr5rb : g < lo3_10 := Nat.lt_of_lt_of_le rb.lt hlo10
      have hbw1 := hT.undrew.below
      have r5 : Row w1 lo3_10 31 ((W4 q)) := (hF 11 _ rfl rfl (by decide)).2
      replace r0 := r0.below hbw1 r0.lt
      replace r1 := r1.below hbw1 r1.lt
      replace r2 := r2.below hbw1 r2.lt
      replace r3 := r3.below hbw1 r3.lt
      replace rb := rb.below hbw1 rb.lt
      replace hl := hl.trans (hbw1.mono hl.size)
      clear hT hG hF hbw1 hQ QQ L hlo10 hhi10
      go_upto_region 4 with (fail)
      let L : List Sp := []
      refine wp_region_six (shs L) (look6 L) (None_) (by kernel_rfl) (by kernel_rfl) (mk_St L [] [] (by kernel_rfl) (by kernel_rfl) trivial (by simp)) ?_
      intro QQ hQ
      -- 0: load<4> *t8
      refine stepK rfl (by kernel_rfl) (fun K hK => ?_); go_simp
      apply Exists.intro; apply And.intro; (focus (intro wk hk; have cc := (K6.Row.tr rb hk.undrew id).cell 0; go_simp; exact ⟨rfl, rfl⟩)); refine hK _ _ ?_; clear hK K
      -- 1: not<4> t23
      refine stepK rfl (by kernel_rfl) (fun K hK => ?_); go_simp
      apply Exists.intro; apply And.intro; (focus (intro wk hk; go_simp; exact ⟨rfl, rfl⟩)); refine hK _ _ ?_; clear hK K
      -- 2: t24
      refine stepK rfl (by kernel_rfl) (fun K hK => ?_); go_simp
      apply Exists.intro; apply And.intro; (focus (intro wk hk; go_simp; exact ⟨rfl, rfl⟩)); refine hK _ _ ?_; clear hK K
      -- 3: t11
      refine stepK rfl (by kernel_rfl) (fun K hK => ?_); go_simp
      first | (refine hK _ _ ?_; clear hK K) | (apply Exists.intro; apply And.intro; (focus (intro wk hk; go_simp; exact ⟨rfl, rfl⟩)); refine hK _ _ ?_; clear hK K)
      -- 4: not<4> t26
      refine stepK rfl (by kernel_rfl) (fun K hK => ?_); go_simp
      first | (refine hK _ _ ?_; clear hK K) | (apply Exists.intro; apply And.intro; (focus (intro wk hk; go_simp; exact ⟨rfl, rfl⟩)); refine hK _ _ ?_; clear hK K)
      -- 5: pick t25 ? true : t27
      refine stepK rfl (by kernel_rfl) (fun K hK => ?_); go_simp
      apply Exists.intro; apply And.intro; (focus (intro wk hk; go_simp; exact ⟨rfl, rfl⟩)); refine hK _ _ ?_; clear hK K
      -- 6: t28
      refine stepK rfl (by kernel_rfl) (fun K hK => ?_); go_simp
      apply Exists.intro; apply And.intro; (focus (intro wk hk; go_simp; exact ⟨rfl, rfl⟩)); refine hK _ _ ?_; clear hK K
      -- 7: load<31> *t10
      refine stepK rfl (by kernel_rfl) (fun K hK => ?_); go_simp
      first | (refine hK _ _ ?_; clear hK K) | (apply Exists.intro; apply And.intro; (focus exact kLoad rfl rfl aggT31 r5 rfl id); refine hK _ _ ?_; clear hK K)
      -- 8: build<31> 
      refine stepK rfl (by kernel_rfl) (fun K hK => ?_); go_simp
      first | (refine hK _ _ ?_; clear hK K) | (apply Exists.intro; apply And.intro; (focus (intro wk hk; go_simp; exact ⟨rfl, rfl⟩)); refine hK _ _ ?_; clear hK K)
      -- 9: eql<31> t30, t31
      refine stepK rfl (by kernel_rfl) (fun K hK => ?_); go_simp
      first | (refine hK _ _ ?_; clear hK K) | (apply Exists.intro; apply And.intro; (focus (intro wk hk; go_simp; exact ⟨rfl, rfl⟩)); refine hK _ _ ?_; clear hK K)
      -- 10: pick t29 ? true : t32
      refine stepK rfl (by kernel_rfl) (fun K hK => ?_); go_simp
      apply Exists.intro; apply And.intro; (focus (intro wk hk; go_simp; exact ⟨rfl, rfl⟩)); refine hK _ _ ?_; clear hK K
      -- 11: t33
      refine stepK rfl (by kernel_rfl) (fun K hK => ?_); go_simp
      apply Exists.intro; apply And.intro; (focus (intro wk hk; go_simp; exact ⟨rfl, rfl⟩)); refine hK _ _ ?_; clear hK K
      -- 12: load<31> *t10
      refine stepK rfl (by kernel_rfl) (fun K hK => ?_); go_simp
      first | (refine hK _ _ ?_; clear hK K) | (apply Exists.intro; apply And.intro; (focus (intro wk hk; go_simp; exact ⟨rfl, rfl⟩)); refine hK _ _ ?_; clear hK K)
      -- 13: call F127()
      refine stepK rfl (by kernel_rfl) (fun K hK => ?_); go_simp
      first | (refine hK _ _ ?_; clear hK K) | (apply Exists.intro; apply And.intro; (focus (intro wk hk; go_simp; exact ⟨rfl, rfl⟩)); refine hK _ _ ?_; clear hK K)
      -- 14: call F48(t35, t36)
      refine stepK rfl (by kernel_rfl) (fun K hK => ?_); go_simp
      first | (refine hK _ _ ?_; clear hK K) | (apply Exists.intro; apply And.intro; (focus (intro wk hk; go_simp; exact ⟨rfl, rfl⟩)); refine hK _ _ ?_; clear hK K)
      -- 15: gtr<3> t37, 0
      refine stepK rfl (by kernel_rfl) (fun K hK => ?_); go_simp
      first | (refine hK _ _ ?_; clear hK K) | (apply Exists.intro; apply And.intro; (focus (intro wk hk; go_simp; exact ⟨rfl, rfl⟩)); refine hK _ _ ?_; clear hK K)
      -- 16: pick t34 ? true : t38
      refine stepK rfl (by kernel_rfl) (fun K hK => ?_); go_simp
      apply Exists.intro; apply And.intro; (focus (intro wk hk; go_simp; exact ⟨rfl, rfl⟩)); refine hK _ _ ?_; clear hK K
      refine stepN ?_
      refine hQ _ _ ?_
      intro w2 hT hG hF
      have hbw2 := hT.undrew.below
      replace r0 := r0.below hbw2 r0.lt
      replace r1 := r1.below hbw2 r1.lt
      replace r2 := r2.below hbw2 r2.lt
      replace r3 := r3.below hbw2 r3.lt
      replace rb := rb.below hbw2 rb.lt
      replace r5 := r5.below hbw2 r5.lt
      replace hl := hl.trans (hbw2.mono hl.size)
      clear hT hG hF hbw2 hQ QQ L 
      go_upto_region 5 with (fail)
      let L : List Sp := [sO 1 (w.heap.size + 1 + 1 + 1) 31 [0] (fun g => aggOf g 0)]
      refine wp_region_six0 (shs L) (look6 L) (fun c => c = w.heap.size + 1 + 1 + 1) (by kernel_rfl) (by kernel_rfl) (mk_St L [1] [1] (by kernel_rfl) (by kernel_rfl) ⟨ok_O aggOf_congr r3.lt (rfl), trivial⟩ (by simp)) ?_
      intro QQ hQ
      -- 0: build<31> 
      refine stepK rfl (by kernel_rfl) (fun K hK => ?_); go_simp
      apply Exists.intro; apply And.intro; (focus (intro wk hk; go_simp; exact ⟨rfl, rfl⟩)); refine hK _ _ ?_; clear hK K
      -- 1: store<31> *t6 = t40
      refine stepS _ rfl (by kernel_rfl) (fun K hK => ?_); go_simp
      refine ⟨?_, ?_⟩
      · exact sStoreO rfl rfl rfl rfl rfl rfl r3 id (by kernel_rfl) rfl (by kernel_rfl) (by decide) aggOf_congr
      rintro ⟨v1, lo1, hi1⟩ - - (rfl : v1 = undef)
      refine hK _ _ ?_; clear hK K
      -- 2: assign false
      refine stepKz rfl (fun K hK => ?_); go_simp
      apply Exists.intro; apply And.intro; (focus (intro wk hk; go_simp; exact ⟨rfl, rfl⟩)); refine hK _ _ ?_; clear hK K
      refine stepN ?_
      refine hQ _ _ ?_
      intro w3 hT hG hF
      have hT' := hT
      have xr3 : Row w3 (w.heap.size + 1 + 1 + 1) 31 (W4 0) := Row.congr (show Row w3 (w.heap.size + 1 + 1 + 1) 31 _ from hF 1 _ rfl rfl (by decide)) W4_zero
      have hl9 : Below w.heap.size w w3 := hl.trans (hT'.below_of hl.size (by intro c hc; omega))
      replace r0 := K6.Row.tr r0 hT' (by show ¬ (w.heap.size = w.heap.size + 1 + 1 + 1); omega)
      replace r1 := K6.Row.tr r1 hT' (by show ¬ (w.heap.size + 1 = w.heap.size + 1 + 1 + 1); omega)
      replace r2 := K6.Row.tr r2 hT' (by show ¬ (w.heap.size + 1 + 1 = w.heap.size + 1 + 1 + 1); omega)
      replace rb := K6.Row.tr rb hT' (by show ¬ (g = w.heap.size + 1 + 1 + 1); omega)
      replace r5 := K6.Row.tr r5 hT' (by show ¬ (lo3_10 = w.heap.size + 1 + 1 + 1); omega)
      clear hT hT' hG hF hQ QQ L hl r3
      have hl := hl9; clear hl9
      have r3 := xr3; clear xr3
      go_wp2_with fail
      refine bodyPost_ret (results_ct rfl aggT31 rfl r3 rfl) rfl ?_
      exact ⟨rfl, hl⟩
    · rw [decide_eq_true h0, Bool.true_and] at hB
      obtain ⟨c, hc⟩ : ∃ c, c = cmpN q E36 := ⟨_, rfl⟩
      by_cases h1 : q ≤ E36
      · rw [decide_eq_true h1] at hB
        rw [hN, hB]
        clear hN hB
        rw [if_pos (show (true : Bool) = true from rfl)]
        have h2 : c ≤ 0 := hc ▸ cmpN_le h1
        clear h1
        have k0 := Lib.hid (show ∀ wx, Calls Try.prog 127 #[] wx (Ret wx (.agg (W4 E36))) from fun wx => by have h := sqU  wx; exact h)
        have k1 := Lib.hid (show ∀ wx, Calls Try.prog 85 #[.agg (W4 a), .agg (W4 E36), .agg (W4 n)] wx (Ret wx (.tuple #[.agg (W4 q), .bool true])) from fun wx => by have h := downU ha E36_lt nl wx; rw [← hq, his] at h; exact h)
        have k2 := Lib.hid (show ∀ wx, Calls Try.prog 48 #[.agg (W4 q), .agg (W4 E36)] wx (Ret wx (.int .i64 c)) from fun wx => by have h := cmpU ql E36_lt wx; rw [← hc] at h; exact h)
        have q0 : ∀ wx, (Op.equalIn 10000 31 (.agg (W4 q)) (.agg #[.int .u64 0, .int .u64 0, .int .u64 0, .int .u64 0])).run Try.prog wx = .ok false wx := fun wx => by rw [eqU0 ql, decide_eq_false h0]
        clear h0 hc hq his
        go_enter Try.func223, Try.ntmps223
        apply wp_seq_eq
        focus
          intro J hJ
          go_wp2_with fail
          exact hJ
        refine wp_abs (Mem w [(w.heap.size, 31, W4 a), (w.heap.size + 1, 31, W4 d), (w.heap.size + 1 + 1, 31, W4 m), (w.heap.size + 1 + 1 + 1, 31, arr .u64 (fun _ => 0) 4)]) ⟨by go_grown, ?_, ?_, ?_, ?_, trivial⟩ ?_
        · repeat (first | (refine Row.new_at ?_; simp; done) | refine Row.alloc ?_ _)
        · repeat (first | (refine Row.new_at ?_; simp; done) | refine Row.alloc ?_ _)
        · repeat (first | (refine Row.new_at ?_; simp; done) | refine Row.alloc ?_ _)
        · repeat (first | (refine Row.new_at ?_; simp; done) | refine Row.alloc ?_ _)
        intro w0 hM
        obtain ⟨hl, r0, r1, r2, r3, -⟩ := hM
        go_upto_region 3 with (fail)
        refine wp_abs (Mem w [(w.heap.size, 31, W4 a), (w.heap.size + 1, 31, W4 d), (w.heap.size + 1 + 1, 31, W4 m), (w.heap.size + 1 + 1 + 1, 31, arr .u64 (fun _ => 0) 4), (w0.heap.size, 4, #[.bool true])]) ?_ ?_
        · have hb9 : Below w0.heap.size w0 (w0.alloc (.cells #[.bool true] 4)) := by go_grown
          exact ⟨hl.trans (hb9.mono hl.size), r0.below hb9 r0.lt, r1.below hb9 r1.lt, r2.below hb9 r2.lt, r3.below hb9 r3.lt, Row.new_at rfl, trivial⟩
        have ng := r3.lt
        clear hl r0 r1 r2 r3
        obtain ⟨g, hg⟩ : ∃ g, w0.heap.size = g := ⟨_, rfl⟩
        rw [hg] at ng ⊢
        clear hg
        intro w8 hM
        obtain ⟨hl, r0, r1, r2, r3, rb, -⟩ := hM
        go_upto_region 3 with (fail)
        let L : List Sp := [sV 1 [] [] (fun u => u = .agg (W4 E36)), sV 5 [] [] (fun u => u = .agg (W4 n)), sV 6 [] [] (fun u => u = .tuple #[.agg (W4 q), .bool true]), sA 10 31 [11] #[.int .u64 0, .int .u64 0, .int .u64 0, .int .u64 0], sT 11 10 31 [8] (fun g => aggOf g 8)]
        refine wp_region_six (shs L) (look6 L) (None_) (by kernel_rfl) (by kernel_rfl) (mk_St L [] [] (by kernel_rfl) (by kernel_rfl) ⟨ok_V ⟨_, rfl⟩, ok_V ⟨_, rfl⟩, ok_V ⟨_, rfl⟩, ok_A, ok_T aggOf_congr, trivial⟩ (by simp)) ?_
        intro QQ hQ
        -- 0: load<31> *t3
        refine stepK rfl (by kernel_rfl) (fun K hK => ?_); go_simp
        apply Exists.intro; apply And.intro; (focus exact kLoad rfl rfl aggT31 r0 rfl id); refine hK _ _ ?_; clear hK K
        -- 1: call F127()
        refine stepS _ rfl (by kernel_rfl) (fun K hK => ?_); go_simp
        refine ⟨?_, ?_⟩
        · intro wk hk hg hu; go_simp; refine upon_enter ((k0.out _).mono ?_); rintro e w' ⟨rfl, hb⟩; exact ⟨_, rfl, left_V (p := fun u => u = .agg (W4 E36)) rfl (hb) rfl⟩
        rintro ⟨v1, lo1, hi1⟩ - - (rfl : v1 = _)
        refine hK _ _ ?_; clear hK K
        -- 2: t9
        refine stepK rfl (by kernel_rfl) (fun K hK => ?_); go_simp
        apply Exists.intro; apply And.intro; (focus (intro wk hk; go_simp; exact ⟨rfl, rfl⟩)); refine hK _ _ ?_; clear hK K
        -- 3: load<31> *t4
        refine stepK rfl (by kernel_rfl) (fun K hK => ?_); go_simp
        apply Exists.intro; apply And.intro; (focus exact kLoad rfl rfl aggT31 r1 rfl id); refine hK _ _ ?_; clear hK K
        -- 4: load<31> *t5
        refine stepK rfl (by kernel_rfl) (fun K hK => ?_); go_simp
        apply Exists.intro; apply And.intro; (focus exact kLoad rfl rfl aggT31 r2 rfl id); refine hK _ _ ?_; clear hK K
        -- 5: call t16(t17, t18)
        refine stepS _ rfl (by kernel_rfl) (fun K hK => ?_); go_simp
        refine ⟨?_, ?_⟩
        · intro wk hk hg hu; go_simp; refine upon_enter ((kc.out _ g (K6.Row.tr rb hk.undrew id)).mono ?_); rintro e w' ⟨rfl, hb⟩; exact ⟨_, rfl, left_V (p := fun u => u = .agg (W4 n)) rfl (hb) rfl⟩
        rintro ⟨v5, lo5, hi5⟩ - - (rfl : v5 = _)
        refine hK _ _ ?_; clear hK K
        -- 6: call F85(t14, t15, t19)
        refine stepS _ rfl (by kernel_rfl) (fun K hK => ?_); go_simp
        refine ⟨?_, ?_⟩
        · intro wk hk hg hu; go_simp; refine upon_enter ((k1.out _).mono ?_); rintro e w' ⟨rfl, hb⟩; exact ⟨_, rfl, left_V (p := fun u => u = .tuple #[.agg (W4 q), .bool true]) rfl (hb) rfl⟩
        rintro ⟨v6, lo6, hi6⟩ - - (rfl : v6 = _)
        refine hK _ _ ?_; clear hK K
        -- 7: t20
        refine stepK rfl (by kernel_rfl) (fun K hK => ?_); go_simp
        apply Exists.intro; apply And.intro; (focus (intro wk hk; go_simp; exact ⟨rfl, rfl⟩)); refine hK _ _ ?_; clear hK K
        -- 8: extract t13 #0
        refine stepK rfl (by kernel_rfl) (fun K hK => ?_); go_simp
        apply Exists.intro; apply And.intro; (focus (intro wk hk; go_simp; exact ⟨rfl, rfl⟩)); refine hK _ _ ?_; clear hK K
        -- 9: extract t13 #1
        refine stepK rfl (by kernel_rfl) (fun K hK => ?_); go_simp
        apply Exists.intro; apply And.intro; (focus (intro wk hk; go_simp; exact ⟨rfl, rfl⟩)); refine hK _ _ ?_; clear hK K
        -- 10: alloc<31>
        refine stepS _ rfl (by kernel_rfl) (fun K hK => ?_); go_simp
        refine ⟨?_, ?_⟩
        · intro wk hk hg hu; go_simp; exact left_A rfl rfl
        rintro ⟨v10, lo3_10, hi10⟩ hlo10 hhi10 ⟨e10, f10⟩
        replace e10 : v10 = .pointer (some ⟨lo3_10, 0, none⟩) := e10; replace f10 : hi10 = lo3_10 + 1 := f10; replace hlo10 : _ ≤ lo3_10 := hlo10; subst e10; subst f10
        refine hK _ _ ?_; clear hK K
        -- 11: store<31> *t10 = t21
        refine stepS _ rfl (by kernel_rfl) (fun K hK => ?_); go_simp
        refine ⟨?_, ?_⟩
        · exact sStoreT rfl rfl rfl rfl rfl rfl rfl (by kernel_rfl) rfl (by kernel_rfl) (by decide) aggOf_congr
        rintro ⟨v11, lo11, hi11⟩ - - (rfl : v11 = undef)
        refine hK _ _ ?_; clear hK K
        -- 12: assign t22
        refine stepK rfl (by kernel_rfl) (fun K hK => ?_); go_simp
        apply Exists.intro; apply And.intro; (focus (intro wk hk; go_simp; exact ⟨rfl, rfl⟩)); refine hK _ _ ?_; clear hK K
        refine stepN ?_
        refine hQ _ _ ?_
        intro w1 hT hG hF
        have nr5r0 : w.heap.size < lo3_10 := Nat.lt_of_lt_of_le r0.lt hlo10
        have nr5r1 : w.heap.size + 1 < lo3_10 := Nat.lt_of_lt_of_le r1.lt hlo10
        have nr5r2 : w.heap.size + 1 + 1 < lo3_10 := Nat.lt_of_lt_of_le r2.lt hlo10
        have nr5r3 : w.heap.size + 1 + 1 + 1 < lo3_10 := Nat.lt_of_lt_of_le r3.lt hlo10
        have nr5rb : g < lo3_10 := Nat.lt_of_lt_of_le rb.lt hlo10
        have hbw1 := hT.undrew.below
        have r5 : Row w1 lo3_10 31 ((W4 q)) := (hF 11 _ rfl rfl (by decide)).2
        replace r0 := r0.below hbw1 r0.lt
        replace r1 := r1.below hbw1 r1.lt
        replace r2 := r2.below hbw1 r2.lt
        replace r3 := r3.below hbw1 r3.lt
        replace rb := rb.below hbw1 rb.lt
        replace hl := hl.trans (hbw1.mono hl.size)
        clear hT hG hF hbw1 hQ QQ L hlo10 hhi10
        go_upto_region 4 with (fail)
        let L : List Sp := [sV 13 [] [] (fun u => u = .agg (W4 E36)), sV 14 [] [] (fun u => u = .int .i64 c)]
        refine wp_region_six (shs L) (look6 L) (None_) (by kernel_rfl) (by kernel_rfl) (mk_St L [] [] (by kernel_rfl) (by kernel_rfl) ⟨ok_V ⟨_, rfl⟩, ok_V ⟨_, rfl⟩, trivial⟩ (by simp)) ?_
        intro QQ hQ
        -- 0: load<4> *t8
        refine stepK rfl (by kernel_rfl) (fun K hK => ?_); go_simp
        apply Exists.intro; apply And.intro; (focus (intro wk hk; have cc := (K6.Row.tr rb hk.undrew id).cell 0; go_simp; exact ⟨rfl, rfl⟩)); refine hK _ _ ?_; clear hK K
        -- 1: not<4> t23
        refine stepK rfl (by kernel_rfl) (fun K hK => ?_); go_simp
        apply Exists.intro; apply And.intro; (focus (intro wk hk; go_simp; exact ⟨rfl, rfl⟩)); refine hK _ _ ?_; clear hK K
        -- 2: t24
        refine stepK rfl (by kernel_rfl) (fun K hK => ?_); go_simp
        apply Exists.intro; apply And.intro; (focus (intro wk hk; go_simp; exact ⟨rfl, rfl⟩)); refine hK _ _ ?_; clear hK K
        -- 3: t11
        refine stepK rfl (by kernel_rfl) (fun K hK => ?_); go_simp
        first | (refine hK _ _ ?_; clear hK K) | (apply Exists.intro; apply And.intro; (focus (intro wk hk; go_simp; exact ⟨rfl, rfl⟩)); refine hK _ _ ?_; clear hK K)
        -- 4: not<4> t26
        refine stepK rfl (by kernel_rfl) (fun K hK => ?_); go_simp
        first | (refine hK _ _ ?_; clear hK K) | (apply Exists.intro; apply And.intro; (focus (intro wk hk; go_simp; exact ⟨rfl, rfl⟩)); refine hK _ _ ?_; clear hK K)
        -- 5: pick t25 ? true : t27
        refine stepK rfl (by kernel_rfl) (fun K hK => ?_); go_simp
        apply Exists.intro; apply And.intro; (focus (intro wk hk; go_simp; exact ⟨rfl, rfl⟩)); refine hK _ _ ?_; clear hK K
        -- 6: t28
        refine stepK rfl (by kernel_rfl) (fun K hK => ?_); go_simp
        apply Exists.intro; apply And.intro; (focus (intro wk hk; go_simp; exact ⟨rfl, rfl⟩)); refine hK _ _ ?_; clear hK K
        -- 7: load<31> *t10
        refine stepK rfl (by kernel_rfl) (fun K hK => ?_); go_simp
        first | (refine hK _ _ ?_; clear hK K) | (apply Exists.intro; apply And.intro; (focus exact kLoad rfl rfl aggT31 r5 rfl id); refine hK _ _ ?_; clear hK K)
        -- 8: build<31> 
        refine stepK rfl (by kernel_rfl) (fun K hK => ?_); go_simp
        first | (refine hK _ _ ?_; clear hK K) | (apply Exists.intro; apply And.intro; (focus (intro wk hk; go_simp; exact ⟨rfl, rfl⟩)); refine hK _ _ ?_; clear hK K)
        -- 9: eql<31> t30, t31
        refine stepK rfl (by kernel_rfl) (fun K hK => ?_); go_simp
        first | (refine hK _ _ ?_; clear hK K) | (apply Exists.intro; apply And.intro; (focus (intro wk hk; go_simp; exact ⟨rfl, rfl⟩)); refine hK _ _ ?_; clear hK K)
        -- 10: pick t29 ? true : t32
        refine stepK rfl (by kernel_rfl) (fun K hK => ?_); go_simp
        apply Exists.intro; apply And.intro; (focus (intro wk hk; go_simp; exact ⟨rfl, rfl⟩)); refine hK _ _ ?_; clear hK K
        -- 11: t33
        refine stepK rfl (by kernel_rfl) (fun K hK => ?_); go_simp
        apply Exists.intro; apply And.intro; (focus (intro wk hk; go_simp; exact ⟨rfl, rfl⟩)); refine hK _ _ ?_; clear hK K
        -- 12: load<31> *t10
        refine stepK rfl (by kernel_rfl) (fun K hK => ?_); go_simp
        first | (refine hK _ _ ?_; clear hK K) | (apply Exists.intro; apply And.intro; (focus exact kLoad rfl rfl aggT31 r5 rfl id); refine hK _ _ ?_; clear hK K)
        -- 13: call F127()
        refine stepS _ rfl (by kernel_rfl) (fun K hK => ?_); go_simp
        refine ⟨?_, ?_⟩
        · intro wk hk hg hu; go_simp; refine upon_enter ((k0.out _).mono ?_); rintro e w' ⟨rfl, hb⟩; exact ⟨_, rfl, left_V (p := fun u => u = .agg (W4 E36)) rfl (hb) rfl⟩
        rintro ⟨v13, lo13, hi13⟩ - - (rfl : v13 = _)
        refine hK _ _ ?_; clear hK K
        -- 14: call F48(t35, t36)
        refine stepS _ rfl (by kernel_rfl) (fun K hK => ?_); go_simp
        refine ⟨?_, ?_⟩
        · intro wk hk hg hu; go_simp; refine upon_enter ((k2.out _).mono ?_); rintro e w' ⟨rfl, hb⟩; exact ⟨_, rfl, left_V (p := fun u => u = .int .i64 c) rfl (hb) rfl⟩
        rintro ⟨v14, lo14, hi14⟩ - - (rfl : v14 = _)
        refine hK _ _ ?_; clear hK K
        -- 15: gtr<3> t37, 0
        refine stepK rfl (by kernel_rfl) (fun K hK => ?_); go_simp
        first | (refine hK _ _ ?_; clear hK K) | (apply Exists.intro; apply And.intro; (focus (intro wk hk; go_simp; exact ⟨rfl, rfl⟩)); refine hK _ _ ?_; clear hK K)
        -- 16: pick t34 ? true : t38
        refine stepK rfl (by kernel_rfl) (fun K hK => ?_); go_simp
        apply Exists.intro; apply And.intro; (focus (intro wk hk; go_simp; exact ⟨rfl, rfl⟩)); refine hK _ _ ?_; clear hK K
        refine stepN ?_
        refine hQ _ _ ?_
        intro w2 hT hG hF
        have hbw2 := hT.undrew.below
        replace r0 := r0.below hbw2 r0.lt
        replace r1 := r1.below hbw2 r1.lt
        replace r2 := r2.below hbw2 r2.lt
        replace r3 := r3.below hbw2 r3.lt
        replace rb := rb.below hbw2 rb.lt
        replace r5 := r5.below hbw2 r5.lt
        replace hl := hl.trans (hbw2.mono hl.size)
        clear hT hG hF hbw2 hQ QQ L 
        go_upto_region 6 with (fail)
        let L : List Sp := [sO 1 (w.heap.size + 1 + 1 + 1) 31 [0] (fun g => aggOf g 0)]
        refine wp_region_six0 (shs L) (look6 L) (fun c => c = w.heap.size + 1 + 1 + 1) (by kernel_rfl) (by kernel_rfl) (mk_St L [1] [1] (by kernel_rfl) (by kernel_rfl) ⟨ok_O aggOf_congr r3.lt (rfl), trivial⟩ (by simp)) ?_
        intro QQ hQ
        -- 0: load<31> *t10
        refine stepK rfl (by kernel_rfl) (fun K hK => ?_); go_simp
        apply Exists.intro; apply And.intro; (focus exact kLoad rfl rfl aggT31 r5 rfl (by first | exact id | (intro hx; have hx' : _ = _ ∨ _ = _ := hx; omega) | (intro hx; have hx' : _ = _ := hx; omega) | omega)); refine hK _ _ ?_; clear hK K
        -- 1: store<31> *t6 = t41
        refine stepS _ rfl (by kernel_rfl) (fun K hK => ?_); go_simp
        refine ⟨?_, ?_⟩
        · exact sStoreO rfl rfl rfl rfl rfl rfl r3 id (by kernel_rfl) rfl (by kernel_rfl) (by decide) aggOf_congr
        rintro ⟨v1, lo1, hi1⟩ - - (rfl : v1 = undef)
        refine hK _ _ ?_; clear hK K
        -- 2: assign true
        refine stepKz rfl (fun K hK => ?_); go_simp
        apply Exists.intro; apply And.intro; (focus (intro wk hk; go_simp; exact ⟨rfl, rfl⟩)); refine hK _ _ ?_; clear hK K
        refine stepN ?_
        refine hQ _ _ ?_
        intro w3 hT hG hF
        have hT' := hT
        have xr3 : Row w3 (w.heap.size + 1 + 1 + 1) 31 ((W4 q)) := hF 1 _ rfl rfl (by decide)
        have hl9 : Below w.heap.size w w3 := hl.trans (hT'.below_of hl.size (by intro c hc; omega))
        replace r0 := K6.Row.tr r0 hT' (by show ¬ (w.heap.size = w.heap.size + 1 + 1 + 1); omega)
        replace r1 := K6.Row.tr r1 hT' (by show ¬ (w.heap.size + 1 = w.heap.size + 1 + 1 + 1); omega)
        replace r2 := K6.Row.tr r2 hT' (by show ¬ (w.heap.size + 1 + 1 = w.heap.size + 1 + 1 + 1); omega)
        replace rb := K6.Row.tr rb hT' (by show ¬ (g = w.heap.size + 1 + 1 + 1); omega)
        replace r5 := K6.Row.tr r5 hT' (by show ¬ (lo3_10 = w.heap.size + 1 + 1 + 1); omega)
        clear hT hT' hG hF hQ QQ L hl r3
        have hl := hl9; clear hl9
        have r3 := xr3; clear xr3
        go_wp2_with fail
        refine bodyPost_ret (results_ct rfl aggT31 rfl r3 rfl) rfl ?_
        exact ⟨rfl, hl⟩
      · rw [decide_eq_false h1] at hB
        rw [hN, hB]
        clear hN hB
        rw [if_neg (show ¬ ((false : Bool) = true) by decide)]
        have h2 : 0 < c := hc ▸ cmpN_gt (by omega)
        clear h1
        have k0 := Lib.hid (show ∀ wx, Calls Try.prog 127 #[] wx (Ret wx (.agg (W4 E36))) from fun wx => by have h := sqU  wx; exact h)
        have k1 := Lib.hid (show ∀ wx, Calls Try.prog 85 #[.agg (W4 a), .agg (W4 E36), .agg (W4 n)] wx (Ret wx (.tuple #[.agg (W4 q), .bool true])) from fun wx => by have h := downU ha E36_lt nl wx; rw [← hq, his] at h; exact h)
        have k2 := Lib.hid (show ∀ wx, Calls Try.prog 48 #[.agg (W4 q), .agg (W4 E36)] wx (Ret wx (.int .i64 c)) from fun wx => by have h := cmpU ql E36_lt wx; rw [← hc] at h; exact h)
        have q0 : ∀ wx, (Op.equalIn 10000 31 (.agg (W4 q)) (.agg #[.int .u64 0, .int .u64 0, .int .u64 0, .int .u64 0])).run Try.prog wx = .ok false wx := fun wx => by rw [eqU0 ql, decide_eq_false h0]
        clear h0 hc hq his
        go_enter Try.func223, Try.ntmps223
        apply wp_seq_eq
        focus
          intro J hJ
          go_wp2_with fail
          exact hJ
        refine wp_abs (Mem w [(w.heap.size, 31, W4 a), (w.heap.size + 1, 31, W4 d), (w.heap.size + 1 + 1, 31, W4 m), (w.heap.size + 1 + 1 + 1, 31, arr .u64 (fun _ => 0) 4)]) ⟨by go_grown, ?_, ?_, ?_, ?_, trivial⟩ ?_
        · repeat (first | (refine Row.new_at ?_; simp; done) | refine Row.alloc ?_ _)
        · repeat (first | (refine Row.new_at ?_; simp; done) | refine Row.alloc ?_ _)
        · repeat (first | (refine Row.new_at ?_; simp; done) | refine Row.alloc ?_ _)
        · repeat (first | (refine Row.new_at ?_; simp; done) | refine Row.alloc ?_ _)
        intro w0 hM
        obtain ⟨hl, r0, r1, r2, r3, -⟩ := hM
        go_upto_region 3 with (fail)
        refine wp_abs (Mem w [(w.heap.size, 31, W4 a), (w.heap.size + 1, 31, W4 d), (w.heap.size + 1 + 1, 31, W4 m), (w.heap.size + 1 + 1 + 1, 31, arr .u64 (fun _ => 0) 4), (w0.heap.size, 4, #[.bool true])]) ?_ ?_
        · have hb9 : Below w0.heap.size w0 (w0.alloc (.cells #[.bool true] 4)) := by go_grown
          exact ⟨hl.trans (hb9.mono hl.size), r0.below hb9 r0.lt, r1.below hb9 r1.lt, r2.below hb9 r2.lt, r3.below hb9 r3.lt, Row.new_at rfl, trivial⟩
        have ng := r3.lt
        clear hl r0 r1 r2 r3
        obtain ⟨g, hg⟩ : ∃ g, w0.heap.size = g := ⟨_, rfl⟩
        rw [hg] at ng ⊢
        clear hg
        intro w8 hM
        obtain ⟨hl, r0, r1, r2, r3, rb, -⟩ := hM
        go_upto_region 3 with (fail)
        let L : List Sp := [sV 1 [] [] (fun u => u = .agg (W4 E36)), sV 5 [] [] (fun u => u = .agg (W4 n)), sV 6 [] [] (fun u => u = .tuple #[.agg (W4 q), .bool true]), sA 10 31 [11] #[.int .u64 0, .int .u64 0, .int .u64 0, .int .u64 0], sT 11 10 31 [8] (fun g => aggOf g 8)]
        refine wp_region_six (shs L) (look6 L) (None_) (by kernel_rfl) (by kernel_rfl) (mk_St L [] [] (by kernel_rfl) (by kernel_rfl) ⟨ok_V ⟨_, rfl⟩, ok_V ⟨_, rfl⟩, ok_V ⟨_, rfl⟩, ok_A, ok_T aggOf_congr, trivial⟩ (by simp)) ?_
        intro QQ hQ
        -- 0: load<31> *t3
        refine stepK rfl (by kernel_rfl) (fun K hK => ?_); go_simp
        apply Exists.intro; apply And.intro; (focus exact kLoad rfl rfl aggT31 r0 rfl id); refine hK _ _ ?_; clear hK K
        -- 1: call F127()
        refine stepS _ rfl (by kernel_rfl) (fun K hK => ?_); go_simp
        refine ⟨?_, ?_⟩
        · intro wk hk hg hu; go_simp; refine upon_enter ((k0.out _).mono ?_); rintro e w' ⟨rfl, hb⟩; exact ⟨_, rfl, left_V (p := fun u => u = .agg (W4 E36)) rfl (hb) rfl⟩
        rintro ⟨v1, lo1, hi1⟩ - - (rfl : v1 = _)
        refine hK _ _ ?_; clear hK K
        -- 2: t9
        refine stepK rfl (by kernel_rfl) (fun K hK => ?_); go_simp
        apply Exists.intro; apply And.intro; (focus (intro wk hk; go_simp; exact ⟨rfl, rfl⟩)); refine hK _ _ ?_; clear hK K
        -- 3: load<31> *t4
        refine stepK rfl (by kernel_rfl) (fun K hK => ?_); go_simp
        apply Exists.intro; apply And.intro; (focus exact kLoad rfl rfl aggT31 r1 rfl id); refine hK _ _ ?_; clear hK K
        -- 4: load<31> *t5
        refine stepK rfl (by kernel_rfl) (fun K hK => ?_); go_simp
        apply Exists.intro; apply And.intro; (focus exact kLoad rfl rfl aggT31 r2 rfl id); refine hK _ _ ?_; clear hK K
        -- 5: call t16(t17, t18)
        refine stepS _ rfl (by kernel_rfl) (fun K hK => ?_); go_simp
        refine ⟨?_, ?_⟩
        · intro wk hk hg hu; go_simp; refine upon_enter ((kc.out _ g (K6.Row.tr rb hk.undrew id)).mono ?_); rintro e w' ⟨rfl, hb⟩; exact ⟨_, rfl, left_V (p := fun u => u = .agg (W4 n)) rfl (hb) rfl⟩
        rintro ⟨v5, lo5, hi5⟩ - - (rfl : v5 = _)
        refine hK _ _ ?_; clear hK K
        -- 6: call F85(t14, t15, t19)
        refine stepS _ rfl (by kernel_rfl) (fun K hK => ?_); go_simp
        refine ⟨?_, ?_⟩
        · intro wk hk hg hu; go_simp; refine upon_enter ((k1.out _).mono ?_); rintro e w' ⟨rfl, hb⟩; exact ⟨_, rfl, left_V (p := fun u => u = .tuple #[.agg (W4 q), .bool true]) rfl (hb) rfl⟩
        rintro ⟨v6, lo6, hi6⟩ - - (rfl : v6 = _)
        refine hK _ _ ?_; clear hK K
        -- 7: t20
        refine stepK rfl (by kernel_rfl) (fun K hK => ?_); go_simp
        apply Exists.intro; apply And.intro; (focus (intro wk hk; go_simp; exact ⟨rfl, rfl⟩)); refine hK _ _ ?_; clear hK K
        -- 8: extract t13 #0
        refine stepK rfl (by kernel_rfl) (fun K hK => ?_); go_simp
        apply Exists.intro; apply And.intro; (focus (intro wk hk; go_simp; exact ⟨rfl, rfl⟩)); refine hK _ _ ?_; clear hK K
        -- 9: extract t13 #1
        refine stepK rfl (by kernel_rfl) (fun K hK => ?_); go_simp
        apply Exists.intro; apply And.intro; (focus (intro wk hk; go_simp; exact ⟨rfl, rfl⟩)); refine hK _ _ ?_; clear hK K
        -- 10: alloc<31>
        refine stepS _ rfl (by kernel_rfl) (fun K hK => ?_); go_simp
        refine ⟨?_, ?_⟩
        · intro wk hk hg hu; go_simp; exact left_A rfl rfl
        rintro ⟨v10, lo3_10, hi10⟩ hlo10 hhi10 ⟨e10, f10⟩
        replace e10 : v10 = .pointer (some ⟨lo3_10, 0, none⟩) := e10; replace f10 : hi10 = lo3_10 + 1 := f10; replace hlo10 : _ ≤ lo3_10 := hlo10; subst e10; subst f10
        refine hK _ _ ?_; clear hK K
        -- 11: store<31> *t10 = t21
        refine stepS _ rfl (by kernel_rfl) (fun K hK => ?_); go_simp
        refine ⟨?_, ?_⟩
        · exact sStoreT rfl rfl rfl rfl rfl rfl rfl (by kernel_rfl) rfl (by kernel_rfl) (by decide) aggOf_congr
        rintro ⟨v11, lo11, hi11⟩ - - (rfl : v11 = undef)
        refine hK _ _ ?_; clear hK K
        -- 12: assign t22
        refine stepK rfl (by kernel_rfl) (fun K hK => ?_); go_simp
        apply Exists.intro; apply And.intro; (focus (intro wk hk; go_simp; exact ⟨rfl, rfl⟩)); refine hK _ _ ?_; clear hK K
        refine stepN ?_
        refine hQ _ _ ?_
        intro w1 hT hG hF
        have nr5r0 : w.heap.size < lo3_10 := Nat.lt_of_lt_of_le r0.lt hlo10
        have nr5r1 : w.heap.size + 1 < lo3_10 := Nat.lt_of_lt_of_le r1.lt hlo10
        have nr5r2 : w.heap.size + 1 + 1 < lo3_10 := Nat.lt_of_lt_of_le r2.lt hlo10
        have nr5r3 : w.heap.size + 1 + 1 + 1 < lo3_10 := Nat.lt_of_lt_of_le r3.lt hlo10
        have nr5rb : g < lo3_10 := Nat.lt_of_lt_of_le rb.lt hlo10
        have hbw1 := hT.undrew.below
        have r5 : Row w1 lo3_10 31 ((W4 q)) := (hF 11 _ rfl rfl (by decide)).2
        replace r0 := r0.below hbw1 r0.lt
        replace r1 := r1.below hbw1 r1.lt
        replace r2 := r2.below hbw1 r2.lt
        replace r3 := r3.below hbw1 r3.lt
        replace rb := rb.below hbw1 rb.lt
        replace hl := hl.trans (hbw1.mono hl.size)
        clear hT hG hF hbw1 hQ QQ L hlo10 hhi10
        go_upto_region 4 with (fail)
        let L : List Sp := [sV 13 [] [] (fun u => u = .agg (W4 E36)), sV 14 [] [] (fun u => u = .int .i64 c)]
        refine wp_region_six (shs L) (look6 L) (None_) (by kernel_rfl) (by kernel_rfl) (mk_St L [] [] (by kernel_rfl) (by kernel_rfl) ⟨ok_V ⟨_, rfl⟩, ok_V ⟨_, rfl⟩, trivial⟩ (by simp)) ?_
        intro QQ hQ
        -- 0: load<4> *t8
        refine stepK rfl (by kernel_rfl) (fun K hK => ?_); go_simp
        apply Exists.intro; apply And.intro; (focus (intro wk hk; have cc := (K6.Row.tr rb hk.undrew id).cell 0; go_simp; exact ⟨rfl, rfl⟩)); refine hK _ _ ?_; clear hK K
        -- 1: not<4> t23
        refine stepK rfl (by kernel_rfl) (fun K hK => ?_); go_simp
        apply Exists.intro; apply And.intro; (focus (intro wk hk; go_simp; exact ⟨rfl, rfl⟩)); refine hK _ _ ?_; clear hK K
        -- 2: t24
        refine stepK rfl (by kernel_rfl) (fun K hK => ?_); go_simp
        apply Exists.intro; apply And.intro; (focus (intro wk hk; go_simp; exact ⟨rfl, rfl⟩)); refine hK _ _ ?_; clear hK K
        -- 3: t11
        refine stepK rfl (by kernel_rfl) (fun K hK => ?_); go_simp
        first | (refine hK _ _ ?_; clear hK K) | (apply Exists.intro; apply And.intro; (focus (intro wk hk; go_simp; exact ⟨rfl, rfl⟩)); refine hK _ _ ?_; clear hK K)
        -- 4: not<4> t26
        refine stepK rfl (by kernel_rfl) (fun K hK => ?_); go_simp
        first | (refine hK _ _ ?_; clear hK K) | (apply Exists.intro; apply And.intro; (focus (intro wk hk; go_simp; exact ⟨rfl, rfl⟩)); refine hK _ _ ?_; clear hK K)
        -- 5: pick t25 ? true : t27
        refine stepK rfl (by kernel_rfl) (fun K hK => ?_); go_simp
        apply Exists.intro; apply And.intro; (focus (intro wk hk; go_simp; exact ⟨rfl, rfl⟩)); refine hK _ _ ?_; clear hK K
        -- 6: t28
        refine stepK rfl (by kernel_rfl) (fun K hK => ?_); go_simp
        apply Exists.intro; apply And.intro; (focus (intro wk hk; go_simp; exact ⟨rfl, rfl⟩)); refine hK _ _ ?_; clear hK K
        -- 7: load<31> *t10
        refine stepK rfl (by kernel_rfl) (fun K hK => ?_); go_simp
        first | (refine hK _ _ ?_; clear hK K) | (apply Exists.intro; apply And.intro; (focus exact kLoad rfl rfl aggT31 r5 rfl id); refine hK _ _ ?_; clear hK K)
        -- 8: build<31> 
        refine stepK rfl (by kernel_rfl) (fun K hK => ?_); go_simp
        first | (refine hK _ _ ?_; clear hK K) | (apply Exists.intro; apply And.intro; (focus (intro wk hk; go_simp; exact ⟨rfl, rfl⟩)); refine hK _ _ ?_; clear hK K)
        -- 9: eql<31> t30, t31
        refine stepK rfl (by kernel_rfl) (fun K hK => ?_); go_simp
        first | (refine hK _ _ ?_; clear hK K) | (apply Exists.intro; apply And.intro; (focus (intro wk hk; go_simp; exact ⟨rfl, rfl⟩)); refine hK _ _ ?_; clear hK K)
        -- 10: pick t29 ? true : t32
        refine stepK rfl (by kernel_rfl) (fun K hK => ?_); go_simp
        apply Exists.intro; apply And.intro; (focus (intro wk hk; go_simp; exact ⟨rfl, rfl⟩)); refine hK _ _ ?_; clear hK K
        -- 11: t33
        refine stepK rfl (by kernel_rfl) (fun K hK => ?_); go_simp
        apply Exists.intro; apply And.intro; (focus (intro wk hk; go_simp; exact ⟨rfl, rfl⟩)); refine hK _ _ ?_; clear hK K
        -- 12: load<31> *t10
        refine stepK rfl (by kernel_rfl) (fun K hK => ?_); go_simp
        first | (refine hK _ _ ?_; clear hK K) | (apply Exists.intro; apply And.intro; (focus exact kLoad rfl rfl aggT31 r5 rfl id); refine hK _ _ ?_; clear hK K)
        -- 13: call F127()
        refine stepS _ rfl (by kernel_rfl) (fun K hK => ?_); go_simp
        refine ⟨?_, ?_⟩
        · intro wk hk hg hu; go_simp; refine upon_enter ((k0.out _).mono ?_); rintro e w' ⟨rfl, hb⟩; exact ⟨_, rfl, left_V (p := fun u => u = .agg (W4 E36)) rfl (hb) rfl⟩
        rintro ⟨v13, lo13, hi13⟩ - - (rfl : v13 = _)
        refine hK _ _ ?_; clear hK K
        -- 14: call F48(t35, t36)
        refine stepS _ rfl (by kernel_rfl) (fun K hK => ?_); go_simp
        refine ⟨?_, ?_⟩
        · intro wk hk hg hu; go_simp; refine upon_enter ((k2.out _).mono ?_); rintro e w' ⟨rfl, hb⟩; exact ⟨_, rfl, left_V (p := fun u => u = .int .i64 c) rfl (hb) rfl⟩
        rintro ⟨v14, lo14, hi14⟩ - - (rfl : v14 = _)
        refine hK _ _ ?_; clear hK K
        -- 15: gtr<3> t37, 0
        refine stepK rfl (by kernel_rfl) (fun K hK => ?_); go_simp
        first | (refine hK _ _ ?_; clear hK K) | (apply Exists.intro; apply And.intro; (focus (intro wk hk; go_simp; exact ⟨rfl, rfl⟩)); refine hK _ _ ?_; clear hK K)
        -- 16: pick t34 ? true : t38
        refine stepK rfl (by kernel_rfl) (fun K hK => ?_); go_simp
        apply Exists.intro; apply And.intro; (focus (intro wk hk; go_simp; exact ⟨rfl, rfl⟩)); refine hK _ _ ?_; clear hK K
        refine stepN ?_
        refine hQ _ _ ?_
        intro w2 hT hG hF
        have hbw2 := hT.undrew.below
        replace r0 := r0.below hbw2 r0.lt
        replace r1 := r1.below hbw2 r1.lt
        replace r2 := r2.below hbw2 r2.lt
        replace r3 := r3.below hbw2 r3.lt
        replace rb := rb.below hbw2 rb.lt
        replace r5 := r5.below hbw2 r5.lt
        replace hl := hl.trans (hbw2.mono hl.size)
        clear hT hG hF hbw2 hQ QQ L 
        go_upto_region 5 with (fail)
        let L : List Sp := [sO 1 (w.heap.size + 1 + 1 + 1) 31 [0] (fun g => aggOf g 0)]
        refine wp_region_six0 (shs L) (look6 L) (fun c => c = w.heap.size + 1 + 1 + 1) (by kernel_rfl) (by kernel_rfl) (mk_St L [1] [1] (by kernel_rfl) (by kernel_rfl) ⟨ok_O aggOf_congr r3.lt (rfl), trivial⟩ (by simp)) ?_
        intro QQ hQ
        -- 0: build<31> 
        refine stepK rfl (by kernel_rfl) (fun K hK => ?_); go_simp
        apply Exists.intro; apply And.intro; (focus (intro wk hk; go_simp; exact ⟨rfl, rfl⟩)); refine hK _ _ ?_; clear hK K
        -- 1: store<31> *t6 = t40
        refine stepS _ rfl (by kernel_rfl) (fun K hK => ?_); go_simp
        refine ⟨?_, ?_⟩
        · exact sStoreO rfl rfl rfl rfl rfl rfl r3 id (by kernel_rfl) rfl (by kernel_rfl) (by decide) aggOf_congr
        rintro ⟨v1, lo1, hi1⟩ - - (rfl : v1 = undef)
        refine hK _ _ ?_; clear hK K
        -- 2: assign false
        refine stepKz rfl (fun K hK => ?_); go_simp
        apply Exists.intro; apply And.intro; (focus (intro wk hk; go_simp; exact ⟨rfl, rfl⟩)); refine hK _ _ ?_; clear hK K
        refine stepN ?_
        refine hQ _ _ ?_
        intro w3 hT hG hF
        have hT' := hT
        have xr3 : Row w3 (w.heap.size + 1 + 1 + 1) 31 (W4 0) := Row.congr (show Row w3 (w.heap.size + 1 + 1 + 1) 31 _ from hF 1 _ rfl rfl (by decide)) W4_zero
        have hl9 : Below w.heap.size w w3 := hl.trans (hT'.below_of hl.size (by intro c hc; omega))
        replace r0 := K6.Row.tr r0 hT' (by show ¬ (w.heap.size = w.heap.size + 1 + 1 + 1); omega)
        replace r1 := K6.Row.tr r1 hT' (by show ¬ (w.heap.size + 1 = w.heap.size + 1 + 1 + 1); omega)
        replace r2 := K6.Row.tr r2 hT' (by show ¬ (w.heap.size + 1 + 1 = w.heap.size + 1 + 1 + 1); omega)
        replace rb := K6.Row.tr rb hT' (by show ¬ (g = w.heap.size + 1 + 1 + 1); omega)
        replace r5 := K6.Row.tr r5 hT' (by show ¬ (lo3_10 = w.heap.size + 1 + 1 + 1); omega)
        clear hT hT' hG hF hQ QQ L hl r3
        have hl := hl9; clear hl9
        have r3 := xr3; clear xr3
        go_wp2_with fail
        refine bodyPost_ret (results_ct rfl aggT31 rfl r3 rfl) rfl ?_
        exact ⟨rfl, hl⟩
end Go.Proofs.Ytpdenhmkpiafiaa
