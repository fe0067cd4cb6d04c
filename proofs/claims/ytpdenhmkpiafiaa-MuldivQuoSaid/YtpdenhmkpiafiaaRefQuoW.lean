/-
  tallageref02.Quo (93): a number of 512 bits divided.
-/
import Derived.Test.YtpdenhmkpiafiaaRefMulDiv
import Derived.Test.YtpdenhmkpiafiaaRefOwn
import Derived.Test.YtpdenhmkpiafiaaMDown
namespace Go.Proofs.Ytpdenhmkpiafiaa
open Go Go.RowKit K6 Ref

set_option maxRecDepth 100000 in
set_option maxHeartbeats 4000000 in
theorem of_own (a : Nat) (ha : a < M) (w : World) :
    Calls Try.prog 164 #[.agg (W4 a)] w fun e w' => ∃ v b, e = .returned v ∧ v.ownBlock = some b ∧ w.heap.size ≤ b ∧ Sl w' v (digs a) ∧ Below w.heap.size w w' := by
  go_enter Try.func164, Try.ntmps164
  go_wp2_with fail
  go_loopg [3, 4] 4 (fun gg s3 s4 wr => ∃ i, i + gg = 4 ∧ s4 = .int .i64 ((i : Nat) : Int) ∧ Below w.heap.size w wr ∧ Row wr w.heap.size 31 (W4 a) ∧ wr.ownsRow (w.heap.size + 1) 181 1 s3 (2 * i) (ofV a i))
  case atStart => exact ⟨0, rfl, rfl, by go_grown, Row.new_at rfl, by simp [ofV, World.ownsRow]⟩
  case round =>
    obtain ⟨i, hi, rfl, hl, r0, ho⟩ := hrel
    by_cases hlt : i < 4
    · have H := Lib.hid (show _ ∧ _ ∧ _ from ⟨hl, r0, ho⟩)
      clear hl r0 ho
      have hd : decide ((i : Int) < 4) = true := by simp; omega
      go_upto_region 5 with (fail)
      obtain ⟨hl, r0, ho⟩ := H.out
      refine wp_abs (fun w5 => Below w.heap.size w w5 ∧ Row w5 w.heap.size 31 (W4 a) ∧ w5.ownsRow (w.heap.size + 1) 181 1 u3 (2 * i) (ofV a i)) ⟨hl, r0, ho⟩ ?_
      clear hl r0 ho H
      rintro w5 ⟨hl, r0, ho⟩
      obtain ⟨x0, hx0⟩ : ∃ x, IntKind.u32.wrap (wordsOf a i) = x := ⟨_, rfl⟩
      obtain ⟨x1, hx1⟩ : ∃ x, IntKind.u32.wrap (wordsOf a i / 4294967296) = x := ⟨_, rfl⟩
      have hI : (i : Int) < 4 := by omega
      have hown : ∀ b, u3.ownBlock = some b → u3.ownBlock = some b ∧ b < w5.heap.size := fun b hb => ⟨hb, (ho.lt b hb).2⟩
      let L : List Sp := [sL 10 181 [] 2 #[.int .u32 (x0), .int .u32 (x1)], sP 11 [10] [10] (w.heap.size + 1) 181 u3 (2 * i + 2) (ofV a (i + 1))]
      refine wp_region_six (shs L) (look6 L) (fun b => u3.ownBlock = some b) (by kernel_rfl) (by kernel_rfl) (mk_St L [11] [11] (by kernel_rfl) (by kernel_rfl) ⟨ok_L, ok_P hown, trivial⟩ (by simp)) ?_
      intro QQ hQ
      -- 0: t3
      refine stepK rfl (by kernel_rfl) (fun K hK => ?_); go_simp
      apply Exists.intro; apply And.intro; (focus (intro wk hk; go_simp; exact ⟨rfl, rfl⟩)); refine hK _ _ ?_; clear hK K
      -- 1: t4
      refine stepK rfl (by kernel_rfl) (fun K hK => ?_); go_simp
      apply Exists.intro; apply And.intro; (focus (intro wk hk; go_simp; exact ⟨rfl, rfl⟩)); refine hK _ _ ?_; clear hK K
      -- 2: indexAddr<31> t1[t10]
      refine stepK rfl (by kernel_rfl) (fun K hK => ?_); go_simp
      apply Exists.intro; apply And.intro; (focus (intro wk hk; go_simp; exact ⟨rfl, rfl⟩)); refine hK _ _ ?_; clear hK K
      -- 3: load<29> *t11
      refine stepK rfl (by kernel_rfl) (fun K hK => ?_); go_simp
      apply Exists.intro; apply And.intro; (focus (intro wk hk; have cc := (K6.Row.tr r0 hk.undrew id).at_ i (by omega); go_simp; exact ⟨rfl, rfl⟩)); refine hK _ _ ?_; clear hK K
      -- 4: convert<29->181> t12
      refine stepK rfl (by kernel_rfl) (fun K hK => ?_); go_simp
      apply Exists.intro; apply And.intro; (focus (intro wk hk; go_simp; exact ⟨rfl, rfl⟩)); refine hK _ _ ?_; clear hK K
      -- 5: t4
      refine stepK rfl (by kernel_rfl) (fun K hK => ?_); go_simp
      apply Exists.intro; apply And.intro; (focus (intro wk hk; go_simp; exact ⟨rfl, rfl⟩)); refine hK _ _ ?_; clear hK K
      -- 6: indexAddr<31> t1[t14]
      refine stepK rfl (by kernel_rfl) (fun K hK => ?_); go_simp
      apply Exists.intro; apply And.intro; (focus (intro wk hk; go_simp; exact ⟨rfl, rfl⟩)); refine hK _ _ ?_; clear hK K
      -- 7: load<29> *t15
      refine stepK rfl (by kernel_rfl) (fun K hK => ?_); go_simp
      apply Exists.intro; apply And.intro; (focus (intro wk hk; have cc := (K6.Row.tr r0 hk.undrew id).at_ i (by omega); go_simp; exact ⟨rfl, rfl⟩)); refine hK _ _ ?_; clear hK K
      -- 8: shr<29> t16, 32u <136>
      refine stepK rfl (by kernel_rfl) (fun K hK => ?_); go_simp
      apply Exists.intro; apply And.intro; (focus (intro wk hk; go_simp; exact ⟨rfl, rfl⟩)); refine hK _ _ ?_; clear hK K
      -- 9: convert<29->181> t17
      refine stepK rfl (by kernel_rfl) (fun K hK => ?_); go_simp
      apply Exists.intro; apply And.intro; (focus (intro wk hk; go_simp; exact ⟨rfl, rfl⟩)); refine hK _ _ ?_; clear hK K
      -- 10: buildSlice<153> len 2 0:t13, 1:t18
      refine stepS _ rfl (by kernel_rfl) (fun K hK => ?_); go_simp
      refine ⟨?_, ?_⟩
      · intro wk hk hg hu; go_simp; exact left_L rfl rfl
      rintro ⟨v10, lo10, hi10⟩ hlo10 hhi10 ⟨e10, f10⟩
      replace e10 : v10 = .slice (some ⟨lo10, 0, none⟩) 2 2 := e10; replace f10 : hi10 = lo10 + 1 := f10; replace hlo10 : _ ≤ lo10 := hlo10; subst e10; subst f10
      refine hK _ _ ?_; clear hK K
      -- 11: call builtin append<153,153>(t9, t19)
      refine stepS _ rfl (by kernel_rfl) (fun K hK => ?_); go_simp
      refine ⟨?_, ?_⟩
      · intro wk hk hg hu; have u10 := hu 10 (show 10 ∈ [10] by decide); have r10 : Row wk lo10 181 #[.int .u32 x0, .int .u32 x1] := u10.2; have how := own_tr ho hk.undrew (fun _ _ => id); obtain ⟨v2, w2, hrun, ho2, hgb, -, hw2⟩ := run_append_own_at (P := Try.prog) wk (w.heap.size + 1) 153 153 181 _ _ 1 4 rfl rfl rfl rfl rfl rfl (by decide) u3 (2 * i) (ofV a i) how ⟨lo10, 0, none⟩ 2 2 [.int .u32 x0, .int .u32 x1] rfl (by intro j u hj; match j, hj with | 0, hj => (cases hj; exact r10.cell 0) | 1, hj => (cases hj; exact r10.cell 1)) (by simp [Value.oneCell']) (by simp only [maxLen]; omega) (by omega) (by have h1 := r0.lt; have h2 := hk.undrew.size; omega); rw [run_append_op rfl rfl rfl hrun]; exact left_P rfl rfl hgb (by rw [ofV_succ, ← lo32, ← hi32, hx0, hx1]; exact ho2) hw2
      rintro ⟨v11, lo11, hi11⟩ - - hG11
      refine hK _ _ ?_; clear hK K
      -- 12: assign t20
      refine stepKz rfl (fun K hK => ?_); go_simp
      apply Exists.intro; apply And.intro; (focus (intro wk hk; go_simp; exact ⟨rfl, rfl⟩)); refine hK _ _ ?_; clear hK K
      refine stepN ?_
      refine hQ _ _ ?_
      intro w6 hT hG hF
      have hO : w6.ownsRow (w.heap.size + 1) 181 1 v11 (2 * i + 2) (ofV a (i + 1)) := (hF 11 _ rfl rfl (by decide)).2
      have hT2 := hT.undrew
      have hl6 : Below w.heap.size w w6 := hl.trans (hT2.below_of hl.size (by intro c hc; have := (ho.lt c hc).1; omega))
      have r6 : Row w6 w.heap.size 31 (W4 a) := K6.Row.tr r0 hT2 (fun hc => by have := (ho.lt _ hc).1; omega)
      have H := Lib.hid (show _ ∧ _ ∧ _ from ⟨hl6, r6, hO⟩)
      clear hT hT2 hG hF hQ QQ L hO hl6 r6 hl r0 ho hown hG11
      go_wp2_with fail
      go_roundg (gk - 1)
      case measure => omega
      case rel => exact ⟨i + 1, by omega, by go_num, H.out.1, H.out.2.1, H.out.2.2⟩
    · obtain rfl : i = 4 := by omega
      have hS : Sl wr u3 ((List.range 8).map (d32 a)) := Sl_own (base := w.heap.size + 1) (n := 2 * 4) (by rw [← ofV_map a 4]; exact ho) (by simp)
      obtain ⟨bo, hbo, hbl⟩ : ∃ b, u3.ownBlock = some b ∧ w.heap.size ≤ b := by
        rcases ho.2 with ⟨rfl, h0⟩ | ⟨g, cap, cur, rfl, hb, hg, h1, h2, h3, h4⟩
        · exact absurd h0 (by decide)
        · exact ⟨g, rfl, by omega⟩
      have hT := trim_own u3 _ wr (dig_d32 a 8) hS (by simp)
      rw [val_d32, Nat.mod_eq_of_lt (show a < 2 ^ (32 * 8) from ha)] at hT
      have HT := Lib.hid hT
      clear hS hT r0 ho
      go_wp2_with fail
      refine HT.out.mono ?_
      rintro e w' ⟨rfl, u, rfl, hu, hu2⟩
      go_wp2_with fail
      go_ret
      exact ⟨_, bo, rfl, hu2.trans hbo, hbl, hu, hl⟩

theorem quo_cap2 {n d : Nat} (hd : d ≠ 0) : quoN n d = capN (n / d) ∧ quoB n d = decide (n / d < M) := by
  unfold quoN quoB capN
  by_cases h : n / d < M
  · rw [if_pos ⟨hd, h⟩, if_pos h, decide_eq_true (show d ≠ 0 ∧ n / d < M from ⟨hd, h⟩), decide_eq_true h]; exact ⟨rfl, rfl⟩
  · rw [if_neg (fun x => h x.2), if_neg h, decide_eq_false (show ¬ (d ≠ 0 ∧ n / d < M) from fun x => h x.2), decide_eq_false h]; exact ⟨rfl, rfl⟩
/-- Of, opened -/
theorem of_open {a : Nat} (ha : a < M) (w : World) : Calls Try.prog 164 #[.agg (W4 a)] w fun e w' => ∃ g o c, e = .returned (.slice (some ⟨g, o, none⟩) (digs a).length c) ∧ w.heap.size ≤ g ∧ Sl w' (.slice (some ⟨g, o, none⟩) (digs a).length c) (digs a) ∧ Below w.heap.size w w' := by
  refine (of_own a ha w).mono ?_
  rintro e w' ⟨v, b, rfl, hb, hw, hs, hl⟩
  obtain ⟨r, c, rfl, h1, h2, h3⟩ := id hs
  cases r with
  | none => cases hb
  | some p =>
    obtain ⟨g, o, rfl, -⟩ := h3 p rfl
    cases hb
    exact ⟨g, o, c, rfl, hw, hs, hl⟩
theorem low_step (b i : Nat) : b % B ^ (i + 1) + B ^ i * d32 (b % B ^ i) i = b % B ^ i + B ^ i * d32 b i := by
  rw [d32_out (Nat.mod_lt b (B_pos i)) (Nat.le_refl i), Nat.mul_zero, Nat.add_zero, d32_B, Nat.mod_pow_succ]
/-- a row of eight digits, and a number's digits behind it -/
def wideL (b a : Nat) : List Nat := (List.range 8).map (d32 b) ++ digs a
theorem wide_val {a b : Nat} (hb : b < M) : val (wideL b a) = a * M + b := by
  unfold wideL
  rw [val_append, val_d32, List.length_map, List.length_range, val_digs, Nat.mod_eq_of_lt (show b < 2 ^ (32 * 8) from hb), ← M_B, Nat.add_comm, Nat.mul_comm]
theorem wide_dig (a b : Nat) : Dig (wideL b a) := by
  intro x hx
  rcases List.mem_append.1 hx with h | h
  · exact dig_d32 b 8 x h
  · exact dig_digs a x h
theorem wide_len {a b : Nat} (ha : a < M) : (wideL b a).length < 10000000 := by
  unfold wideL
  rw [List.length_append, List.length_map, List.length_range]
  have := digs_len (k := 8) (Nat.lt_of_lt_of_eq ha M_B)
  omega
theorem wideV (a b : Nat) : (arr .u32 (dgf b) 8).toList ++ (digs a).map (fun x => Value.int .u32 ((x : Nat) : Int)) = (wideL b a).map fun x => .int .u32 ((x : Nat) : Int) := by
  unfold wideL
  rw [List.map_append]
  congr 1
theorem own_row {w : World} {b n : Nat} {f : Nat → Int} (h : Row w b 181 (arr .u32 f n)) (hn : n ≤ maxLen) : w.ownsRow b 181 1 (.slice (some ⟨b, 0, none⟩) n n) n (arr .u32 f n).toList := by
  have hs : (arr .u32 f n).toList.length = n := by simp [arr]
  exact ⟨by rw [hs, Nat.mul_one], .inr ⟨b, n, _, rfl, Nat.le_refl _, h, Nat.le_refl _, hn, by simp [arr], by rw [Nat.mul_one]; exact List.take_of_length_le (Nat.le_of_eq hs)⟩⟩
/-- the cells of a slice's digits -/
theorem sl_news {w : World} {g o n c : Nat} {xs : List Nat} (h : Sl w (.slice (some ⟨g, o, none⟩) n c) xs) : ∀ j u, (xs.map fun x => Value.int .u32 ((x : Nat) : Int))[j]? = some u → w.cell? ((⟨g, o, none⟩ : Addr).add j) = some u := by
  intro j u hj
  rw [List.getElem?_map] at hj
  rcases Nat.lt_or_ge j xs.length with h1 | h1
  · rw [dg_some h1] at hj
    cases hj
    have hadd : (⟨g, o, none⟩ : Addr).add j = ⟨g, o + j, none⟩ := by unfold Addr.add; split <;> simp_all
    rw [hadd]
    exact (h.cell h1).2
  · rw [List.getElem?_eq_none h1] at hj
    cases hj
def SlV (k : Nat) (x : GV) : Prop := ∃ g o c, x.v = .slice (some ⟨g, o, none⟩) k c
def SlAt (k : Nat) (xs : List Nat) (x : GV) (w : World) : Prop := ∃ g o c, x.v = .slice (some ⟨g, o, none⟩) k c ∧ x.lo ≤ g ∧ Sl w x.v xs
theorem slice_some {w : World} (k : Nat) : ∃ x : GV, w.heap.size ≤ x.lo ∧ x.lo ≤ x.hi ∧ SlV k x := ⟨⟨.slice (some ⟨0, 0, none⟩) k k, w.heap.size, w.heap.size⟩, Nat.le_refl _, Nat.le_refl _, 0, 0, k, rfl⟩
theorem SlAt.keep {k : Nat} {xs : List Nat} {x : GV} {w w' : World} (h : SlAt k xs x w) (hb : Below w.heap.size w w') : SlAt k xs x w' := let ⟨g, o, c, e, l, s⟩ := h; ⟨g, o, c, e, l, Sl.below s hb⟩
theorem SlAt.get {k g o c lo hi : Nat} {xs : List Nat} {w : World} (h : SlAt k xs ⟨.slice (some ⟨g, o, none⟩) k c, lo, hi⟩ w) : lo ≤ g ∧ Sl w (.slice (some ⟨g, o, none⟩) k c) xs := by
  obtain ⟨g', o', c', e, l, s⟩ := h
  cases e
  exact ⟨l, s⟩
set_option maxRecDepth 100000 in
set_option maxHeartbeats 32000000 in
theorem refquoU {a b d : Nat} (ha : a < M) (hb : b < M) (hd : d < M) (w : World) : Calls Try.prog 93 #[.agg (W4 a), .agg (W4 b), .agg (W4 d)] w (Ret w (.tuple #[.agg (W4 (quoN (a * M + b) d)), .agg (W4 (remN (a * M + b) d)), .bool (quoB (a * M + b) d)])) := by
  by_cases h0 : d = 0
  · have q0 : ∀ wx, (Op.equalIn 10000 31 (.agg (W4 d)) (.agg #[.int .u64 0, .int .u64 0, .int .u64 0, .int .u64 0])).run Try.prog wx = .ok true wx := fun wx => by rw [eqU0 hd, decide_eq_true h0]
    rw [show quoN (a * M + b) d = 0 from if_neg fun h => h.1 h0, show remN (a * M + b) d = 0 from if_neg fun h => h.1 h0, show quoB (a * M + b) d = false from decide_eq_false fun h => h.1 h0]
    clear h0
    go_enter Try.func93, Try.ntmps93
    apply wp_seq_eq
    focus
      intro J hJ
      go_wp2_with fail
      exact hJ
    refine wp_abs (Mem w [(w.heap.size, 31, W4 a), (w.heap.size + 1, 31, W4 b), (w.heap.size + 1 + 1, 31, W4 d), (w.heap.size + 1 + 1 + 1, 31, arr .u64 (fun _ => 0) 4), (w.heap.size + 1 + 1 + 1 + 1, 31, arr .u64 (fun _ => 0) 4)]) ⟨by go_grown, ?_, ?_, ?_, ?_, ?_, trivial⟩ ?_
    · repeat (first | (refine Row.new_at ?_; simp; done) | refine Row.alloc ?_ _)
    · repeat (first | (refine Row.new_at ?_; simp; done) | refine Row.alloc ?_ _)
    · repeat (first | (refine Row.new_at ?_; simp; done) | refine Row.alloc ?_ _)
    · repeat (first | (refine Row.new_at ?_; simp; done) | refine Row.alloc ?_ _)
    · repeat (first | (refine Row.new_at ?_; simp; done) | refine Row.alloc ?_ _)
    intro w0 hM
    obtain ⟨hl, ra, rb, rd, rr0, rr1, -⟩ := hM
    go_upto_region 1 with (fail)
    let L : List Sp := []
    refine wp_region_six0 (shs L) (look6 L) (None_) (by kernel_rfl) (by kernel_rfl) (mk_St L [] [] (by kernel_rfl) (by kernel_rfl) trivial (by simp)) ?_
    intro QQ hQ
    -- 0: load<31> *t5
    refine stepK rfl (by kernel_rfl) (fun K hK => ?_); go_simp
    apply Exists.intro; apply And.intro; (focus exact kLoad rfl rfl aggT31 rd rfl id); refine hK _ _ ?_; clear hK K
    -- 1: build<31> 
    refine stepK rfl (by kernel_rfl) (fun K hK => ?_); go_simp
    apply Exists.intro; apply And.intro; (focus (intro wk hk; go_simp; exact ⟨rfl, rfl⟩)); refine hK _ _ ?_; clear hK K
    -- 2: eql<31> t18, t19
    refine stepK rfl (by kernel_rfl) (fun K hK => ?_); go_simp
    apply Exists.intro; apply And.intro; (focus (intro wk hk; go_simp; exact ⟨rfl, rfl⟩)); refine hK _ _ ?_; clear hK K
    refine stepN ?_
    refine hQ _ _ ?_
    intro w1 hT hG hF
    have hbw1 := hT.below
    replace rr0 := rr0.below hbw1 rr0.lt
    replace rr1 := rr1.below hbw1 rr1.lt
    replace hl := hl.trans (hbw1.mono hl.size)
    clear hT hG hF hbw1 hQ QQ L 
    go_upto_region 2 with (fail)
    let L : List Sp := [sO 2 (w.heap.size + 1 + 1 + 1) 31 [0] (fun g => aggOf g 0), sO 3 (w.heap.size + 1 + 1 + 1 + 1) 31 [1] (fun g => aggOf g 1)]
    refine wp_region_six0 (shs L) (look6 L) (fun c => c = w.heap.size + 1 + 1 + 1 ∨ c = w.heap.size + 1 + 1 + 1 + 1) (by kernel_rfl) (by kernel_rfl) (mk_St L [2, 3] [2, 3] (by kernel_rfl) (by kernel_rfl) ⟨ok_O aggOf_congr rr0.lt (Or.inl rfl), ok_O aggOf_congr rr1.lt (Or.inr rfl), trivial⟩ (by intro i hi j hj hij b hb hb'; simp only [List.mem_cons, List.not_mem_nil, or_false] at hi hj; rcases hi with rfl | rfl <;> rcases hj with rfl | rfl <;> first | exact absurd rfl hij | (have h1 : b = _ := hb; have h2 : b = _ := hb'; omega))) ?_
    intro QQ hQ
    -- 0: build<31> 
    refine stepK rfl (by kernel_rfl) (fun K hK => ?_); go_simp
    apply Exists.intro; apply And.intro; (focus (intro wk hk; go_simp; exact ⟨rfl, rfl⟩)); refine hK _ _ ?_; clear hK K
    -- 1: build<31> 
    refine stepKz rfl (fun K hK => ?_); go_simp
    apply Exists.intro; apply And.intro; (focus (intro wk hk; go_simp; exact ⟨rfl, rfl⟩)); refine hK _ _ ?_; clear hK K
    -- 2: store<31> *t6 = t21
    refine stepS _ rfl (by kernel_rfl) (fun K hK => ?_); go_simp
    refine ⟨?_, ?_⟩
    · exact sStoreO rfl rfl rfl rfl rfl rfl rr0 id (by kernel_rfl) rfl (by kernel_rfl) (by decide) aggOf_congr
    rintro ⟨v2, lo2, hi2⟩ - - (rfl : v2 = undef)
    refine hK _ _ ?_; clear hK K
    -- 3: store<31> *t7 = t22
    refine stepSx _ [2] (fun c => c = w.heap.size + 1 + 1 + 1) rfl (by kernel_rfl) (by intro i hi b hb; simp only [List.mem_cons, List.not_mem_nil, or_false] at hi; subst hi; exact hb) (fun K hK => ?_); go_simp
    refine ⟨?_, ?_⟩
    · exact sStoreO rfl rfl rfl rfl rfl rfl rr1 (by omega) (by kernel_rfl) rfl (by kernel_rfl) (by decide) aggOf_congr
    rintro ⟨v3, lo3, hi3⟩ - - (rfl : v3 = undef)
    refine hK _ _ ?_; clear hK K
    -- 4: assign false
    refine stepKz rfl (fun K hK => ?_); go_simp
    apply Exists.intro; apply And.intro; (focus (intro wk hk; go_simp; exact ⟨rfl, rfl⟩)); refine hK _ _ ?_; clear hK K
    refine stepN ?_
    refine hQ _ _ ?_
    intro w9 hT hG hF
    have hT' := hT
    have x2 : Row w9 (w.heap.size + 1 + 1 + 1) 31 (W4 0) := Row.congr (show Row w9 (w.heap.size + 1 + 1 + 1) 31 _ from hF 2 _ rfl rfl (by decide)) W4_zero
    have x3 : Row w9 (w.heap.size + 1 + 1 + 1 + 1) 31 (W4 0) := Row.congr (show Row w9 (w.heap.size + 1 + 1 + 1 + 1) 31 _ from hF 3 _ rfl rfl (by decide)) W4_zero
    have hl9 : Below w.heap.size w w9 := hl.trans (hT'.below_of hl.size (by intro c hc; omega))
    clear hT hT' hG hF hQ QQ L
    go_wp2_with fail
    refine bodyPost_ret (results_cct rfl aggT31 aggT31 rfl rfl x2 x3 rfl rfl) rfl ?_
    exact ⟨rfl, hl9⟩
  · have q0 : ∀ wx, (Op.equalIn 10000 31 (.agg (W4 d)) (.agg #[.int .u64 0, .int .u64 0, .int .u64 0, .int .u64 0])).run Try.prog wx = .ok false wx := fun wx => by rw [eqU0 hd, decide_eq_false h0]
    have oa := Lib.hid fun wx => of_open ha wx
    have ob := Lib.hid fun wx => of_open hb wx
    have od := Lib.hid fun wx => of164 d hd wx
    have hnM : a * M + b < M * M := by have := Nat.mul_le_mul_right M (show a + 1 ≤ M from ha); rw [Nat.add_mul] at this; omega
    have hqr : ∀ wx v u, Sl wx v (wideL b a) → Sl wx u (digs d) → Calls Try.prog 171 #[v, u] wx fun e w' => ∃ q r, e = .returned (.tuple #[q, r]) ∧ Sl w' q (digs ((a * M + b) / d)) ∧ Sl w' r (digs ((a * M + b) % d)) ∧ Below wx.heap.size wx w' := fun wx v u s1 s2 => by
      have := quorem_any v u _ _ wx (wide_dig a b) (dig_digs d) s1 s2 (wide_len ha) (len7 (M_MM hd)) (by rw [val_digs]; exact h0)
      rw [wide_val hb, val_digs] at this
      exact this
    replace hqr := Lib.hid hqr
    have tq := Lib.hid (tou2 (Nat.lt_of_le_of_lt (Nat.div_le_self (a * M + b) d) hnM))
    have hrd : (a * M + b) % d < M := Nat.lt_trans (Nat.mod_lt _ (Nat.pos_of_ne_zero h0)) hd
    have tr := Lib.hid (tou3 hrd)
    have hR : remN (a * M + b) d = if (a * M + b) / d < M then (a * M + b) % d else 0 := by
      unfold remN
      by_cases h : (a * M + b) / d < M
      · rw [if_pos ⟨h0, h⟩, if_pos h]
      · rw [if_neg (fun x => h x.2), if_neg h]
    have HA := show _ ∧ _ ∧ _ from ⟨(quo_cap2 (n := a * M + b) h0).1, (quo_cap2 (n := a * M + b) h0).2, hR⟩
    clear h0 hR hnM hrd
    obtain ⟨q, hq⟩ : ∃ q, (a * M + b) / d = q := ⟨_, rfl⟩
    obtain ⟨r, hr⟩ : ∃ r, (a * M + b) % d = r := ⟨_, rfl⟩
    rw [hq] at hqr tq
    rw [hr] at hqr tr
    rw [hq, hr] at HA
    rw [HA.1, HA.2.1, HA.2.2]
    clear hq hr HA
    obtain ⟨m, hm⟩ : ∃ m, capN q = m := ⟨_, rfl⟩
    obtain ⟨p, hp⟩ : ∃ p, (if q < M then r else 0) = p := ⟨_, rfl⟩
    obtain ⟨ok, hok⟩ : ∃ ok, decide (q < M) = ok := ⟨_, rfl⟩
    have HP : (ok = true → p = r) ∧ (ok = false → m = 0 ∧ p = 0) := ⟨fun h => by rw [← hp]; exact if_pos (of_decide_eq_true (hok.trans h)), fun h => ⟨by rw [← hm]; exact if_neg (of_decide_eq_false (hok.trans h)), by rw [← hp]; exact if_neg (of_decide_eq_false (hok.trans h))⟩⟩
    rw [hm, hok] at tq
    rw [hm, hp, hok]
    clear hm hp hok
    replace HP := Lib.hid HP
    have mk8 : ∀ w, (Instr.makeSlice 153 (.int .i64 8) (.int .i64 8)).run Try.prog w = .ok (.slice (some ⟨w.heap.size, 0, none⟩) 8 8) (w.alloc (.cells (arr .u32 (dgf 0) 8) 181)) := fun w => make32 8 (by omega) w
    obtain ⟨k, hk⟩ : ∃ k, (digs b).length = k := ⟨_, rfl⟩
    have hk8 : k ≤ 8 := hk ▸ digs_len (k := 8) (Nat.lt_of_lt_of_eq hb M_B)
    have hbk : b < B ^ k := by
      have := val_lt (dig_digs b)
      rwa [val_digs, hk] at this
    rw [hk] at ob
    obtain ⟨l, hla⟩ : ∃ l, (digs a).length = l := ⟨_, rfl⟩
    have hl8 : l ≤ 8 := hla ▸ digs_len (k := 8) (Nat.lt_of_lt_of_eq ha M_B)
    rw [hla] at oa
    go_enter Try.func93, Try.ntmps93
    apply wp_seq_eq
    focus
      intro J hJ
      go_wp2_with fail
      exact hJ
    refine wp_abs (Mem w [(w.heap.size, 31, W4 a), (w.heap.size + 1, 31, W4 b), (w.heap.size + 1 + 1, 31, W4 d), (w.heap.size + 1 + 1 + 1, 31, arr .u64 (fun _ => 0) 4), (w.heap.size + 1 + 1 + 1 + 1, 31, arr .u64 (fun _ => 0) 4)]) ⟨by go_grown, ?_, ?_, ?_, ?_, ?_, trivial⟩ ?_
    · repeat (first | (refine Row.new_at ?_; simp; done) | refine Row.alloc ?_ _)
    · repeat (first | (refine Row.new_at ?_; simp; done) | refine Row.alloc ?_ _)
    · repeat (first | (refine Row.new_at ?_; simp; done) | refine Row.alloc ?_ _)
    · repeat (first | (refine Row.new_at ?_; simp; done) | refine Row.alloc ?_ _)
    · repeat (first | (refine Row.new_at ?_; simp; done) | refine Row.alloc ?_ _)
    intro w0 hM
    obtain ⟨hl, ra, rb, rd, rr0, rr1, -⟩ := hM
    go_upto_region 1 with (fail)
    let L : List Sp := []
    refine wp_region_six0 (shs L) (look6 L) (None_) (by kernel_rfl) (by kernel_rfl) (mk_St L [] [] (by kernel_rfl) (by kernel_rfl) trivial (by simp)) ?_
    intro QQ hQ
    -- 0: load<31> *t5
    refine stepK rfl (by kernel_rfl) (fun K hK => ?_); go_simp
    apply Exists.intro; apply And.intro; (focus exact kLoad rfl rfl aggT31 rd rfl id); refine hK _ _ ?_; clear hK K
    -- 1: build<31> 
    refine stepK rfl (by kernel_rfl) (fun K hK => ?_); go_simp
    apply Exists.intro; apply And.intro; (focus (intro wk hk; go_simp; exact ⟨rfl, rfl⟩)); refine hK _ _ ?_; clear hK K
    -- 2: eql<31> t18, t19
    refine stepK rfl (by kernel_rfl) (fun K hK => ?_); go_simp
    apply Exists.intro; apply And.intro; (focus (intro wk hk; go_simp; exact ⟨rfl, rfl⟩)); refine hK _ _ ?_; clear hK K
    refine stepN ?_
    refine hQ _ _ ?_
    intro w1 hT hG hF
    have hbw1 := hT.below
    replace ra := ra.below hbw1 ra.lt
    replace rb := rb.below hbw1 rb.lt
    replace rd := rd.below hbw1 rd.lt
    replace rr0 := rr0.below hbw1 rr0.lt
    replace rr1 := rr1.below hbw1 rr1.lt
    replace hl := hl.trans (hbw1.mono hl.size)
    clear hT hG hF hbw1 hQ QQ L q0
    go_upto_region 4 with (fail)
    have hN : w.heap.size + 1 + 1 + 1 + 1 < w1.heap.size := rr1.lt
    refine wp_abs (Mem w [(w.heap.size, 31, W4 a), (w.heap.size + 1, 31, W4 b), (w.heap.size + 1 + 1, 31, W4 d), (w.heap.size + 1 + 1 + 1, 31, arr .u64 (fun _ => 0) 4), (w.heap.size + 1 + 1 + 1 + 1, 31, arr .u64 (fun _ => 0) 4), (w1.heap.size, 181, arr .u32 (dgf 0) 8)]) ⟨by go_grown, ra.alloc _, rb.alloc _, rd.alloc _, rr0.alloc _, rr1.alloc _, Row.new_at rfl, trivial⟩ ?_
    clear hl ra rb rd rr0 rr1 mk8
    obtain ⟨N, hN'⟩ : ∃ N, w1.heap.size = N := ⟨_, rfl⟩
    rw [hN'] at hN ⊢
    clear hN'
    intro w2 hM
    obtain ⟨hl, ra, rb, rd, rr0, rr1, ro, -⟩ := hM
    let L : List Sp := [sF 1 [] [] [] (fun x => SlV k x) (fun x w => SlAt k (digs b) x w)]
    refine wp_region_six0 (shs L) (look6 L) (None_) (by kernel_rfl) (by kernel_rfl) (mk_St L [] [] (by kernel_rfl) (by kernel_rfl) ⟨ok_F (slice_some k) (fun _ _ _ h hb => SlAt.keep h hb), trivial⟩ (by simp)) ?_
    intro QQ hQ
    -- 0: load<31> *t4
    refine stepK rfl (by kernel_rfl) (fun K hK => ?_); go_simp
    apply Exists.intro; apply And.intro; (focus exact kLoad rfl rfl aggT31 rb rfl id); refine hK _ _ ?_; clear hK K
    -- 1: call F164(t24)
    refine stepS _ rfl (by kernel_rfl) (fun K hK => ?_); go_simp
    refine ⟨?_, ?_⟩
    · intro wk hk hg hu; go_simp; refine upon_enter ((ob.out _).mono ?_); rintro e w' ⟨g, o, c, rfl, hg0, hv, hb⟩; exact ⟨_, rfl, left_F rfl rfl hb ⟨_, _, _, rfl⟩ ⟨_, _, _, rfl, hg0, hv⟩⟩
    rintro ⟨v1, lo1, hi1⟩ hlo1 hhi1 ⟨g1, o1, c1, (rfl : v1 = _)⟩
    refine hK _ _ ?_; clear hK K
    -- 2: call builtin len<153>(t25)
    refine stepK rfl (by kernel_rfl) (fun K hK => ?_); go_simp
    apply Exists.intro; apply And.intro; (focus (intro wk hk; go_simp; exact ⟨rfl, rfl⟩)); refine hK _ _ ?_; clear hK K
    -- 3: 0
    refine stepK rfl (by kernel_rfl) (fun K hK => ?_); go_simp
    apply Exists.intro; apply And.intro; (focus (intro wk hk; go_simp; exact ⟨rfl, rfl⟩)); refine hK _ _ ?_; clear hK K
    refine stepN ?_
    refine hQ _ _ ?_
    intro w4 hT hG hF
    have hb4 := hT.below
    obtain ⟨hg1, sy⟩ := SlAt.get (show SlAt k (digs b) ⟨.slice (some ⟨g1, o1, none⟩) k c1, lo1, hi1⟩ w4 from hF 1 _ rfl rfl (by decide))
    have hgN : g1 ≠ N := by have h1 := ro.lt; have h2 : w2.heap.size ≤ lo1 := hlo1; omega
    replace ra := ra.below hb4 ra.lt
    replace rd := rd.below hb4 rd.lt
    replace rr0 := rr0.below hb4 rr0.lt
    replace rr1 := rr1.below hb4 rr1.lt
    replace ro := ro.below hb4 ro.lt
    replace hl := hl.trans (hb4.mono hl.size)
    clear hT hG hF hb4 hQ QQ L rb ob hg1 hlo1 hhi1
    have S0 := Lib.hid (show _ ∧ _ ∧ _ ∧ _ ∧ _ ∧ _ from ⟨hl, ra, rd, rr0, rr1, sy⟩)
    clear hl ra rd rr0 rr1 sy
    go_wp2_with fail
    go_loopg [27] k (fun gg s27 wr => ∃ (i : Nat), i + gg = k ∧ s27 = .int .i64 ((i : Nat) : Int) ∧ Tr (fun c => c = N) w4 wr ∧ Row wr N 181 (arr .u32 (dgf (b % B ^ i)) 8))
    case atStart => exact ⟨0, by omega, rfl, Tr.refl _ _, ro.congr (by simp [Nat.mod_one])⟩
    case round =>
      clear ro
      obtain ⟨i, hi, rfl, hT5, ro⟩ := hrel
      obtain ⟨g0, rfl⟩ : ∃ g0 : Nat, g0 = gk := ⟨_, rfl⟩
      obtain ⟨wo, rfl⟩ : ∃ wo : World, wo = wr := ⟨_, rfl⟩
      by_cases hlt : i < k
      · have hix : (i : Int) < (k : Int) := by omega
        have s5 := S0.out.2.2.2.2.2.tr hT5 (fun x hx hn => by cases hx; exact hgN hn)
        have cx := (s5.cell (i := i) (by omega)).2
        rw [dg_val (dig_digs b), val_digs] at cx
        have hdl := d32_lt b i
        have hP := upd_dgf hdl (low_step b i)
        obtain ⟨z, hz⟩ : ∃ z, d32 b i = z := ⟨_, rfl⟩
        rw [hz] at cx hP
        have fo := ro.frozen i
        have co := ro.at_ i (by omega)
        obtain ⟨y0, hy0⟩ : ∃ y0, dgf (b % B ^ i) i = y0 := ⟨_, rfl⟩
        rw [hy0] at co
        have H := Lib.hid (show _ ∧ _ ∧ _ from ⟨hP, ro, hT5⟩)
        clear hP ro hT5 hz s5 hdl hy0
        go_wp2_with fail
        go_roundg (g0 - 1)
        case measure => omega
        case rel =>
          refine ⟨i + 1, by omega, by go_num, H.out.2.2.trans (tr_set rfl), ?_⟩
          refine (H.out.2.1.put i (by omega) _).congr ?_
          rw [H.out.1]
      · obtain rfl : i = k := by omega
        have hix : ¬ (i : Int) < (i : Int) := by omega
        rw [Nat.mod_eq_of_lt hbk] at ro
        obtain ⟨hl, ra, rd, rr0, rr1, -⟩ := S0.out
        have hl5 : Below w.heap.size w wo := hl.trans (hT5.below_of hl.size (by intro c hc; omega))
        replace ra := K6.Row.tr ra hT5 (by show ¬ (_ = N); omega)
        replace rd := K6.Row.tr rd hT5 (by show ¬ (_ = N); omega)
        replace rr0 := K6.Row.tr rr0 hT5 (by show ¬ (_ = N); omega)
        replace rr1 := K6.Row.tr rr1 hT5 (by show ¬ (_ = N); omega)
        clear hl hT5 S0 hbk hgN hlt hi
        go_upto_region 9 with (fail)
        refine wp_abs (Mem w [(w.heap.size, 31, W4 a), (w.heap.size + 1 + 1, 31, W4 d), (w.heap.size + 1 + 1 + 1, 31, arr .u64 (fun _ => 0) 4), (w.heap.size + 1 + 1 + 1 + 1, 31, arr .u64 (fun _ => 0) 4), (N, 181, arr .u32 (dgf b) 8)]) ⟨hl5, ra, rd, rr0, rr1, ro, trivial⟩ ?_
        clear hl5 ra rd rr0 rr1 ro
        intro w6 hM
        obtain ⟨hl, ra, rd, rr0, rr1, ro, -⟩ := hM
        have how := own_row ro (by simp only [maxLen]; omega)
        have hown : ∀ x, (Value.slice (some ⟨N, 0, none⟩) 8 8).ownBlock = some x → (Value.slice (some ⟨N, 0, none⟩) 8 8).ownBlock = some x ∧ x < w6.heap.size := fun x hx => ⟨hx, by cases hx; exact ro.lt⟩
        let L : List Sp := [sF 2 [] [] [3] (fun x => SlV l x) (fun x w => SlAt l (digs a) x w), sP 3 [2] [2] N 181 (.slice (some ⟨N, 0, none⟩) 8 8) (8 + l) ((wideL b a).map fun x => Value.int .u32 ((x : Nat) : Int))]
        refine wp_region_six0 (shs L) (look6 L) (fun x => (Value.slice (some ⟨N, 0, none⟩) 8 8).ownBlock = some x) (by kernel_rfl) (by kernel_rfl) (mk_St L [3] [3] (by kernel_rfl) (by kernel_rfl) ⟨ok_F (slice_some l) (fun _ _ _ h hb => SlAt.keep h hb), ok_P hown, trivial⟩ (by simp)) ?_
        intro QQ hQ
        -- 0: t9
        refine stepK rfl (by kernel_rfl) (fun K hK => ?_); go_simp
        apply Exists.intro; apply And.intro; (focus (intro wk hk; go_simp; exact ⟨rfl, rfl⟩)); refine hK _ _ ?_; clear hK K
        -- 1: load<31> *t3
        refine stepK rfl (by kernel_rfl) (fun K hK => ?_); go_simp
        apply Exists.intro; apply And.intro; (focus exact kLoad rfl rfl aggT31 ra rfl id); refine hK _ _ ?_; clear hK K
        -- 2: call F164(t38)
        refine stepS _ rfl (by kernel_rfl) (fun K hK => ?_); go_simp
        refine ⟨?_, ?_⟩
        · intro wk hk hg hu; go_simp; refine upon_enter ((oa.out _).mono ?_); rintro e w' ⟨g, o, c, rfl, hg0, hv, hb⟩; exact ⟨_, rfl, left_F rfl rfl hb ⟨_, _, _, rfl⟩ ⟨_, _, _, rfl, hg0, hv⟩⟩
        rintro ⟨v2, lo2, hi2⟩ hlo2 hhi2 ⟨g2, o2, c2, (rfl : v2 = _)⟩
        refine hK _ _ ?_; clear hK K
        -- 3: call builtin append<153,153>(t37, t39)
        refine stepS _ rfl (by kernel_rfl) (fun K hK => ?_); go_simp
        refine ⟨?_, ?_⟩
        · intro wk hk hg hu; have u2 := hu 2 (show 2 ∈ [2] by decide); have how9 := own_tr how hk (fun _ _ => id); have s9 := (SlAt.get (show SlAt l (digs a) ⟨.slice (some ⟨g2, o2, none⟩) l c2, lo2, hi2⟩ wk from u2)).2; obtain ⟨v2, w2, hrun, ho2, hgb, -, hw2⟩ := run_append_own_at (P := Try.prog) wk N 153 153 181 _ _ 1 4 rfl rfl rfl rfl rfl rfl (by decide) (.slice (some ⟨N, 0, none⟩) 8 8) 8 (arr .u32 (dgf b) 8).toList how9 ⟨g2, o2, none⟩ l c2 ((digs a).map fun x => .int .u32 ((x : Nat) : Int)) (by rw [List.length_map, hla, Nat.mul_one]) (sl_news s9) (by intro u hu; obtain ⟨x, _, rfl⟩ := List.mem_map.1 hu; rfl) (by simp only [maxLen]; omega) (by omega) (by have h1 := ro.lt; have h2 := hk.size; omega); rw [run_append_op rfl rfl rfl hrun]; exact left_P rfl rfl hgb (by rw [← wideV]; exact ho2) hw2
        rintro ⟨v3, lo3, hi3⟩ - - hG3
        refine hK _ _ ?_; clear hK K
        -- 4: assign t40
        refine stepKz rfl (fun K hK => ?_); go_simp
        apply Exists.intro; apply And.intro; (focus (intro wk hk; go_simp; exact ⟨rfl, rfl⟩)); refine hK _ _ ?_; clear hK K
        refine stepN ?_
        refine hQ _ _ ?_
        intro w7 hT hG hF
        have hO : w7.ownsRow N 181 1 v3 (8 + l) ((wideL b a).map fun x => Value.int .u32 ((x : Nat) : Int)) := (hF 3 _ rfl rfl (by decide)).2
        have sw : Sl w7 v3 (wideL b a) := Sl_own hO (by unfold wideL; rw [List.length_append, List.length_map, List.length_range, hla])
        have hT' := hT
        have hl7 : Below w.heap.size w w7 := hl.trans (hT'.below_of hl.size (by intro c hc; have hc' : N = c := Option.some.inj hc; omega))
        replace rd := K6.Row.tr rd hT' (by intro hx; have hx' : N = _ := Option.some.inj hx; omega)
        replace rr0 := K6.Row.tr rr0 hT' (by intro hx; have hx' : N = _ := Option.some.inj hx; omega)
        replace rr1 := K6.Row.tr rr1 hT' (by intro hx; have hx' : N = _ := Option.some.inj hx; omega)
        clear hT hT' hG hF hQ QQ L hO hl ra ro how hown hG3 oa
        go_upto_region 10 with (fail)
        refine wp_abs (fun wx => Below w.heap.size w wx ∧ Row wx (w.heap.size + 1 + 1) 31 (W4 d) ∧ Row wx (w.heap.size + 1 + 1 + 1) 31 (arr .u64 (fun _ => 0) 4) ∧ Row wx (w.heap.size + 1 + 1 + 1 + 1) 31 (arr .u64 (fun _ => 0) 4) ∧ Sl wx v3 (wideL b a)) ⟨hl7, rd, rr0, rr1, sw⟩ ?_
        clear hl7 rd rr0 rr1 sw
        rintro w8 ⟨hl, rd, rr0, rr1, sw⟩
        let L : List Sp := [sF 2 [] [] [] (fun _ => True) (fun x w => Sl w x.v (digs (d))), sF 3 [2] [2] [] (fun x => ∃ y z, x.v = .tuple #[y, z]) (fun x w => ∃ y z, x.v = .tuple #[y, z] ∧ Sl w y (digs q) ∧ Sl w z (digs r))]
        refine wp_region_six0 (shs L) (look6 L) (None_) (by kernel_rfl) (by kernel_rfl) (mk_St L [] [] (by kernel_rfl) (by kernel_rfl) ⟨ok_F (any_some _) (fun _ _ _ h hb => Sl.below h hb), ok_F qr_some (fun _ _ _ h hb => let ⟨y, z, e, s, t⟩ := h; ⟨y, z, e, Sl.below s hb, Sl.below t hb⟩), trivial⟩ (by simp)) ?_
        intro QQ hQ
        -- 0: t9
        refine stepK rfl (by kernel_rfl) (fun K hK => ?_); go_simp
        apply Exists.intro; apply And.intro; (focus (intro wk hk; go_simp; exact ⟨rfl, rfl⟩)); refine hK _ _ ?_; clear hK K
        -- 1: load<31> *t5
        refine stepK rfl (by kernel_rfl) (fun K hK => ?_); go_simp
        apply Exists.intro; apply And.intro; (focus exact kLoad rfl rfl aggT31 rd rfl id); refine hK _ _ ?_; clear hK K
        -- 2: call F164(t43)
        refine stepS _ rfl (by kernel_rfl) (fun K hK => ?_); go_simp
        refine ⟨?_, ?_⟩
        · intro wk hk hg hu; go_simp; refine upon_enter ((od.out _).mono ?_); rintro e w' ⟨v, rfl, hv, hb⟩; exact ⟨_, rfl, left_F rfl rfl hb trivial hv⟩
        rintro ⟨v2, lo2, hi2⟩ - - -
        refine hK _ _ ?_; clear hK K
        -- 3: call F171(t42, t44)
        refine stepS _ rfl (by kernel_rfl) (fun K hK => ?_); go_simp
        refine ⟨?_, ?_⟩
        · intro wk hk hg hu; have u2 := hu 2 (show 2 ∈ [2] by decide); have s2 : Sl wk v2 (digs d) := u2; go_simp; refine upon_enter ((hqr.out _ v3 v2 (sw.below hk.below) s2).mono ?_); rintro e w' ⟨y, z, rfl, hy, hz, hb⟩; exact ⟨_, rfl, left_F rfl rfl hb ⟨_, _, rfl⟩ ⟨_, _, rfl, hy, hz⟩⟩
        rintro ⟨v99, lo3, hi3⟩ - - ⟨y3, z3, (rfl : v99 = _)⟩
        refine hK _ _ ?_; clear hK K
        -- 4: t45
        refine stepK rfl (by kernel_rfl) (fun K hK => ?_); go_simp
        apply Exists.intro; apply And.intro; (focus (intro wk hk; go_simp; exact ⟨rfl, rfl⟩)); refine hK _ _ ?_; clear hK K
        -- 5: extract t41 #0
        refine stepK rfl (by kernel_rfl) (fun K hK => ?_); go_simp
        apply Exists.intro; apply And.intro; (focus (intro wk hk; go_simp; exact ⟨rfl, rfl⟩)); refine hK _ _ ?_; clear hK K
        -- 6: extract t41 #1
        refine stepK rfl (by kernel_rfl) (fun K hK => ?_); go_simp
        apply Exists.intro; apply And.intro; (focus (intro wk hk; go_simp; exact ⟨rfl, rfl⟩)); refine hK _ _ ?_; clear hK K
        -- 7: assign t46
        refine stepK rfl (by kernel_rfl) (fun K hK => ?_); go_simp
        apply Exists.intro; apply And.intro; (focus (intro wk hk; go_simp; exact ⟨rfl, rfl⟩)); refine hK _ _ ?_; clear hK K
        -- 8: assign t47
        refine stepK rfl (by kernel_rfl) (fun K hK => ?_); go_simp
        apply Exists.intro; apply And.intro; (focus (intro wk hk; go_simp; exact ⟨rfl, rfl⟩)); refine hK _ _ ?_; clear hK K
        refine stepN ?_
        refine hQ _ _ ?_
        intro w9 hT hG hF
        have hb9 := hT.below
        obtain ⟨y, z, ey, sy, sz⟩ : ∃ u t, (Value.tuple #[y3, z3]) = .tuple #[u, t] ∧ Sl w9 u (digs q) ∧ Sl w9 t (digs r) := hF 3 _ rfl rfl (by decide)
        cases ey
        replace rr0 := rr0.below hb9 rr0.lt
        replace rr1 := rr1.below hb9 rr1.lt
        replace hl := hl.trans (hb9.mono hl.size)
        clear hT hG hF hb9 hQ QQ L rd od hqr sw
        go_upto_region 11 with (fail)
        refine wp_abs (fun wx => Below w.heap.size w wx ∧ Row wx (w.heap.size + 1 + 1 + 1) 31 (arr .u64 (fun _ => 0) 4) ∧ Row wx (w.heap.size + 1 + 1 + 1 + 1) 31 (arr .u64 (fun _ => 0) 4) ∧ Sl wx y3 (digs q) ∧ Sl wx z3 (digs r)) ⟨hl, rr0, rr1, sy, sz⟩ ?_
        clear hl rr0 rr1 sy sz
        rintro w10 ⟨hl, rr0, rr1, sy, sz⟩
        let L : List Sp := [sV 1 [] [] (fun u => u = .tuple #[.agg (W4 m), .bool ok]), sA 5 31 [6] #[.int .u64 0, .int .u64 0, .int .u64 0, .int .u64 0], sT 6 5 31 [3] (fun g => aggOf g 3)]
        refine wp_region_six0 (shs L) (look6 L) (None_) (by kernel_rfl) (by kernel_rfl) (mk_St L [] [] (by kernel_rfl) (by kernel_rfl) ⟨ok_V ⟨_, rfl⟩, ok_A, ok_T aggOf_congr, trivial⟩ (by simp)) ?_
        intro QQ hQ
        -- 0: t12
        refine stepK rfl (by kernel_rfl) (fun K hK => ?_); go_simp
        apply Exists.intro; apply And.intro; (focus (intro wk hk; go_simp; exact ⟨rfl, rfl⟩)); refine hK _ _ ?_; clear hK K
        -- 1: call F172(t49)
        refine stepS _ rfl (by kernel_rfl) (fun K hK => ?_); go_simp
        refine ⟨?_, ?_⟩
        · intro wk hk hg hu; go_simp; refine upon_enter ((tq.out _ _ (sy.below hk.below)).mono ?_); rintro e w' ⟨rfl, hb⟩; exact ⟨_, rfl, left_V (p := fun u => u = .tuple #[.agg (W4 m), .bool ok]) rfl (hb) rfl⟩
        rintro ⟨v1, lo1, hi1⟩ - - (rfl : v1 = _)
        refine hK _ _ ?_; clear hK K
        -- 2: t50
        refine stepK rfl (by kernel_rfl) (fun K hK => ?_); go_simp
        apply Exists.intro; apply And.intro; (focus (intro wk hk; go_simp; exact ⟨rfl, rfl⟩)); refine hK _ _ ?_; clear hK K
        -- 3: extract t48 #0
        refine stepK rfl (by kernel_rfl) (fun K hK => ?_); go_simp
        apply Exists.intro; apply And.intro; (focus (intro wk hk; go_simp; exact ⟨rfl, rfl⟩)); refine hK _ _ ?_; clear hK K
        -- 4: extract t48 #1
        refine stepK rfl (by kernel_rfl) (fun K hK => ?_); go_simp
        apply Exists.intro; apply And.intro; (focus (intro wk hk; go_simp; exact ⟨rfl, rfl⟩)); refine hK _ _ ?_; clear hK K
        -- 5: alloc<31>
        refine stepS _ rfl (by kernel_rfl) (fun K hK => ?_); go_simp
        refine ⟨?_, ?_⟩
        · intro wk hk hg hu; go_simp; exact left_A rfl rfl
        rintro ⟨v5, lo5, hi5⟩ hlo5 hhi5 ⟨e5, f5⟩
        replace e5 : v5 = .pointer (some ⟨lo5, 0, none⟩) := e5; replace f5 : hi5 = lo5 + 1 := f5; replace hlo5 : _ ≤ lo5 := hlo5; subst e5; subst f5
        refine hK _ _ ?_; clear hK K
        -- 6: store<31> *t14 = t51
        refine stepS _ rfl (by kernel_rfl) (fun K hK => ?_); go_simp
        refine ⟨?_, ?_⟩
        · exact sStoreT rfl rfl rfl rfl rfl rfl rfl (by kernel_rfl) rfl (by kernel_rfl) (by decide) aggOf_congr
        rintro ⟨v6, lo6, hi6⟩ - - (rfl : v6 = undef)
        refine hK _ _ ?_; clear hK K
        -- 7: assign t52
        refine stepK rfl (by kernel_rfl) (fun K hK => ?_); go_simp
        apply Exists.intro; apply And.intro; (focus (intro wk hk; go_simp; exact ⟨rfl, rfl⟩)); refine hK _ _ ?_; clear hK K
        refine stepN ?_
        refine hQ _ _ ?_
        intro w11 hT hG hF
        have hb11 := hT.below
        have n5 : w.heap.size + 1 + 1 + 1 + 1 < lo5 := Nat.lt_of_lt_of_le rr1.lt hlo5
        have r5 : Row w11 lo5 31 (W4 m) := (hF 6 _ rfl rfl (by decide)).2
        replace rr0 := rr0.below hb11 rr0.lt
        replace rr1 := rr1.below hb11 rr1.lt
        replace sz := sz.below hb11
        replace hl := hl.trans (hb11.mono hl.size)
        clear hT hG hF hb11 hQ QQ L sy hlo5 hhi5 tq
        cases ok with
        | false =>
          have hh := Lib.hid (HP.out.2 rfl)
          clear HP tr sz r5
          go_upto_region 13 with (fail)
          let L : List Sp := [sO 2 (w.heap.size + 1 + 1 + 1) 31 [0] (fun g => aggOf g 0), sO 3 (w.heap.size + 1 + 1 + 1 + 1) 31 [1] (fun g => aggOf g 1)]
          refine wp_region_six0 (shs L) (look6 L) (fun c => c = w.heap.size + 1 + 1 + 1 ∨ c = w.heap.size + 1 + 1 + 1 + 1) (by kernel_rfl) (by kernel_rfl) (mk_St L [2, 3] [2, 3] (by kernel_rfl) (by kernel_rfl) ⟨ok_O aggOf_congr rr0.lt (Or.inl rfl), ok_O aggOf_congr rr1.lt (Or.inr rfl), trivial⟩ (by intro i hi j hj hij b hb hb'; simp only [List.mem_cons, List.not_mem_nil, or_false] at hi hj; rcases hi with rfl | rfl <;> rcases hj with rfl | rfl <;> first | exact absurd rfl hij | (have h1 : b = _ := hb; have h2 : b = _ := hb'; omega))) ?_
          intro QQ hQ
          -- 0: build<31> 
          refine stepK rfl (by kernel_rfl) (fun K hK => ?_); go_simp
          apply Exists.intro; apply And.intro; (focus (intro wk hk; go_simp; exact ⟨rfl, rfl⟩)); refine hK _ _ ?_; clear hK K
          -- 1: build<31> 
          refine stepKz rfl (fun K hK => ?_); go_simp
          apply Exists.intro; apply And.intro; (focus (intro wk hk; go_simp; exact ⟨rfl, rfl⟩)); refine hK _ _ ?_; clear hK K
          -- 2: store<31> *t6 = t55
          refine stepS _ rfl (by kernel_rfl) (fun K hK => ?_); go_simp
          refine ⟨?_, ?_⟩
          · exact sStoreO rfl rfl rfl rfl rfl rfl rr0 id (by kernel_rfl) rfl (by kernel_rfl) (by decide) aggOf_congr
          rintro ⟨v2, lo2, hi2⟩ - - (rfl : v2 = undef)
          refine hK _ _ ?_; clear hK K
          -- 3: store<31> *t7 = t56
          refine stepSx _ [2] (fun c => c = w.heap.size + 1 + 1 + 1) rfl (by kernel_rfl) (by intro i hi b hb; simp only [List.mem_cons, List.not_mem_nil, or_false] at hi; subst hi; exact hb) (fun K hK => ?_); go_simp
          refine ⟨?_, ?_⟩
          · exact sStoreO rfl rfl rfl rfl rfl rfl rr1 (by omega) (by kernel_rfl) rfl (by kernel_rfl) (by decide) aggOf_congr
          rintro ⟨v3, lo3, hi3⟩ - - (rfl : v3 = undef)
          refine hK _ _ ?_; clear hK K
          -- 4: assign false
          refine stepKz rfl (fun K hK => ?_); go_simp
          apply Exists.intro; apply And.intro; (focus (intro wk hk; go_simp; exact ⟨rfl, rfl⟩)); refine hK _ _ ?_; clear hK K
          refine stepN ?_
          refine hQ _ _ ?_
          intro w9 hT hG hF
          have hT' := hT
          have x2 : Row w9 (w.heap.size + 1 + 1 + 1) 31 (W4 0) := Row.congr (show Row w9 (w.heap.size + 1 + 1 + 1) 31 _ from hF 2 _ rfl rfl (by decide)) W4_zero
          have x3 : Row w9 (w.heap.size + 1 + 1 + 1 + 1) 31 (W4 0) := Row.congr (show Row w9 (w.heap.size + 1 + 1 + 1 + 1) 31 _ from hF 3 _ rfl rfl (by decide)) W4_zero
          have hl9 : Below w.heap.size w w9 := hl.trans (hT'.below_of hl.size (by intro c hc; omega))
          clear hT hT' hG hF hQ QQ L
          go_wp2_with fail
          refine bodyPost_ret (results_cct rfl aggT31 aggT31 rfl rfl x2 x3 rfl rfl) rfl ?_
          exact ⟨by rw [hh.out.1, hh.out.2]; rfl, hl9⟩
        | true =>
          have hh := Lib.hid (HP.out.1 rfl)
          clear HP
          go_upto_region 14 with (fail)
          refine wp_abs (fun wx => Below w.heap.size w wx ∧ Row wx (w.heap.size + 1 + 1 + 1) 31 (arr .u64 (fun _ => 0) 4) ∧ Row wx (w.heap.size + 1 + 1 + 1 + 1) 31 (arr .u64 (fun _ => 0) 4) ∧ Row wx lo5 31 (W4 m) ∧ Sl wx z3 (digs r)) ⟨hl, rr0, rr1, r5, sz⟩ ?_
          clear hl rr0 rr1 r5 sz
          rintro w12 ⟨hl, rr0, rr1, r5, sz⟩
          let L : List Sp := [sV 1 [] [] (fun u => u = .tuple #[.agg (W4 r), .bool true]), sA 5 31 [6] #[.int .u64 0, .int .u64 0, .int .u64 0, .int .u64 0], sT 6 5 31 [3] (fun g => aggOf g 3)]
          refine wp_region_six0 (shs L) (look6 L) (None_) (by kernel_rfl) (by kernel_rfl) (mk_St L [] [] (by kernel_rfl) (by kernel_rfl) ⟨ok_V ⟨_, rfl⟩, ok_A, ok_T aggOf_congr, trivial⟩ (by simp)) ?_
          intro QQ hQ
          -- 0: t13
          refine stepK rfl (by kernel_rfl) (fun K hK => ?_); go_simp
          apply Exists.intro; apply And.intro; (focus (intro wk hk; go_simp; exact ⟨rfl, rfl⟩)); refine hK _ _ ?_; clear hK K
          -- 1: call F172(t58)
          refine stepS _ rfl (by kernel_rfl) (fun K hK => ?_); go_simp
          refine ⟨?_, ?_⟩
          · intro wk hk hg hu; go_simp; refine upon_enter ((tr.out _ _ (sz.below hk.below)).mono ?_); rintro e w' ⟨rfl, hb⟩; exact ⟨_, rfl, left_V (p := fun u => u = .tuple #[.agg (W4 r), .bool true]) rfl (hb) rfl⟩
          rintro ⟨v1, lo1, hi1⟩ - - (rfl : v1 = _)
          refine hK _ _ ?_; clear hK K
          -- 2: t59
          refine stepK rfl (by kernel_rfl) (fun K hK => ?_); go_simp
          apply Exists.intro; apply And.intro; (focus (intro wk hk; go_simp; exact ⟨rfl, rfl⟩)); refine hK _ _ ?_; clear hK K
          -- 3: extract t57 #0
          refine stepK rfl (by kernel_rfl) (fun K hK => ?_); go_simp
          apply Exists.intro; apply And.intro; (focus (intro wk hk; go_simp; exact ⟨rfl, rfl⟩)); refine hK _ _ ?_; clear hK K
          -- 4: extract t57 #1
          refine stepK rfl (by kernel_rfl) (fun K hK => ?_); go_simp
          apply Exists.intro; apply And.intro; (focus (intro wk hk; go_simp; exact ⟨rfl, rfl⟩)); refine hK _ _ ?_; clear hK K
          -- 5: alloc<31>
          refine stepS _ rfl (by kernel_rfl) (fun K hK => ?_); go_simp
          refine ⟨?_, ?_⟩
          · intro wk hk hg hu; go_simp; exact left_A rfl rfl
          rintro ⟨v5, lo7, hi7⟩ hlo7 hhi7 ⟨e5, f5⟩
          replace e5 : v5 = .pointer (some ⟨lo7, 0, none⟩) := e5; replace f5 : hi7 = lo7 + 1 := f5; replace hlo7 : _ ≤ lo7 := hlo7; subst e5; subst f5
          refine hK _ _ ?_; clear hK K
          -- 6: store<31> *t16 = t60
          refine stepS _ rfl (by kernel_rfl) (fun K hK => ?_); go_simp
          refine ⟨?_, ?_⟩
          · exact sStoreT rfl rfl rfl rfl rfl rfl rfl (by kernel_rfl) rfl (by kernel_rfl) (by decide) aggOf_congr
          rintro ⟨v6, lo6, hi6⟩ - - (rfl : v6 = undef)
          refine hK _ _ ?_; clear hK K
          -- 7: assign t61
          refine stepK rfl (by kernel_rfl) (fun K hK => ?_); go_simp
          apply Exists.intro; apply And.intro; (focus (intro wk hk; go_simp; exact ⟨rfl, rfl⟩)); refine hK _ _ ?_; clear hK K
          refine stepN ?_
          refine hQ _ _ ?_
          intro w13 hT hG hF
          have hb13 := hT.below
          have n7 : w.heap.size + 1 + 1 + 1 + 1 < lo7 := Nat.lt_of_lt_of_le rr1.lt hlo7
          have r7 : Row w13 lo7 31 (W4 r) := (hF 6 _ rfl rfl (by decide)).2
          replace r5 := r5.below hb13 r5.lt
          replace rr0 := rr0.below hb13 rr0.lt
          replace rr1 := rr1.below hb13 rr1.lt
          replace hl := hl.trans (hb13.mono hl.size)
          clear hT hG hF hb13 hQ QQ L sz hlo7 hhi7 tr
          go_upto_region 15 with (fail)
          let L : List Sp := [sO 2 (w.heap.size + 1 + 1 + 1) 31 [0] (fun g => aggOf g 0), sO 3 (w.heap.size + 1 + 1 + 1 + 1) 31 [1] (fun g => aggOf g 1)]
          refine wp_region_six (shs L) (look6 L) (fun c => c = w.heap.size + 1 + 1 + 1 ∨ c = w.heap.size + 1 + 1 + 1 + 1) (by kernel_rfl) (by kernel_rfl) (mk_St L [2, 3] [2, 3] (by kernel_rfl) (by kernel_rfl) ⟨ok_O aggOf_congr rr0.lt (Or.inl rfl), ok_O aggOf_congr rr1.lt (Or.inr rfl), trivial⟩ (by intro i hi j hj hij b hb hb'; simp only [List.mem_cons, List.not_mem_nil, or_false] at hi hj; rcases hi with rfl | rfl <;> rcases hj with rfl | rfl <;> first | exact absurd rfl hij | (have h1 : b = _ := hb; have h2 : b = _ := hb'; omega))) ?_
          intro QQ hQ
          -- 0: load<31> *t14
          refine stepK rfl (by kernel_rfl) (fun K hK => ?_); go_simp
          apply Exists.intro; apply And.intro; (focus exact kLoad rfl rfl aggT31 r5 rfl (by first | exact id | (intro hx; have hx' : _ = _ ∨ _ = _ := hx; omega) | (intro hx; have hx' : _ = _ := hx; omega) | omega)); refine hK _ _ ?_; clear hK K
          -- 1: load<31> *t16
          refine stepKz rfl (fun K hK => ?_); go_simp
          apply Exists.intro; apply And.intro; (focus exact kLoad rfl rfl aggT31 r7 rfl (by first | exact id | (intro hx; have hx' : _ = _ ∨ _ = _ := hx; omega) | (intro hx; have hx' : _ = _ := hx; omega) | omega)); refine hK _ _ ?_; clear hK K
          -- 2: store<31> *t6 = t62
          refine stepS _ rfl (by kernel_rfl) (fun K hK => ?_); go_simp
          refine ⟨?_, ?_⟩
          · exact sStoreO rfl rfl rfl rfl rfl rfl rr0 id (by kernel_rfl) rfl (by kernel_rfl) (by decide) aggOf_congr
          rintro ⟨v2, lo2, hi2⟩ - - (rfl : v2 = undef)
          refine hK _ _ ?_; clear hK K
          -- 3: store<31> *t7 = t63
          refine stepSx _ [2] (fun c => c = w.heap.size + 1 + 1 + 1) rfl (by kernel_rfl) (by intro i hi b hb; simp only [List.mem_cons, List.not_mem_nil, or_false] at hi; subst hi; exact hb) (fun K hK => ?_); go_simp
          refine ⟨?_, ?_⟩
          · exact sStoreO rfl rfl rfl rfl rfl rfl rr1 (by omega) (by kernel_rfl) rfl (by kernel_rfl) (by decide) aggOf_congr
          rintro ⟨v3, lo3, hi3⟩ - - (rfl : v3 = undef)
          refine hK _ _ ?_; clear hK K
          -- 4: assign true
          refine stepKz rfl (fun K hK => ?_); go_simp
          apply Exists.intro; apply And.intro; (focus (intro wk hk; go_simp; exact ⟨rfl, rfl⟩)); refine hK _ _ ?_; clear hK K
          refine stepN ?_
          refine hQ _ _ ?_
          intro w9 hT hG hF
          have hT' := hT.undrew
          have x2 : Row w9 (w.heap.size + 1 + 1 + 1) 31 (W4 m) := hF 2 _ rfl rfl (by decide)
          have x3 : Row w9 (w.heap.size + 1 + 1 + 1 + 1) 31 (W4 r) := hF 3 _ rfl rfl (by decide)
          have hl9 : Below w.heap.size w w9 := hl.trans (hT'.below_of hl.size (by intro c hc; omega))
          clear hT hT' hG hF hQ QQ L
          go_wp2_with fail
          refine bodyPost_ret (results_cct rfl aggT31 aggT31 rfl rfl x2 x3 rfl rfl) rfl ?_
          exact ⟨by rw [hh.out]; rfl, hl9⟩
end Go.Proofs.Ytpdenhmkpiafiaa
