/-
  muldiv: Mul, bits, bit, and the plain law of take.
-/
import Derived.Test.YtpdenhmkpiafiaaGE
import Derived.Deep.DeepCutAuto
import Derived.Laws.StructEq

/-! MMul: muldiv.Mul: the product of two numbers of four words, in two halves. -/
namespace Go.Proofs.Ytpdenhmkpiafiaa
open Go Go.RowKit K6

/-- the words of two halves, the high one first -/
def W8 (h l : Nat) : Array Value := W4 h ++ W4 l
theorem W8_eq {h0 h1 h2 h3 l0 l1 l2 l3 : Int} {h l : Nat} (hh : IsW h0 h1 h2 h3 h) (hl : IsW l0 l1 l2 l3 l) : #[Value.int .u64 h0, .int .u64 h1, .int .u64 h2, .int .u64 h3, .int .u64 l0, .int .u64 l1, .int .u64 l2, .int .u64 l3] = W8 h l := by
  unfold W8
  rw [← W4_eq hh, ← W4_eq hl]
  rfl
theorem aggT92 : AggT Try.prog 92 8 := ⟨⟨_, Try.underlying92, rfl⟩, by kernel_rfl⟩
theorem M_eq : M = 2 ^ 256 := by unfold M; decide
theorem W4_M : W ^ 4 = ((M : Nat) : Int) := by rw [M_W]
theorem halves {f : Nat → Int} (hf : Wordy f) {n : Nat} (hn : psum f 8 = (n : Int)) : IsW (f 0) (f 1) (f 2) (f 3) (n % M) ∧ IsW (f 4) (f 5) (f 6) (f 7) (n / M) := by
  have h8 := psum8 f
  have hlo := psum_bd hf 4
  let g : Nat → Int := fun i => f (i + 4)
  have hg : Wordy g := fun i => hf (i + 4)
  have hgs : psum g 4 = f 4 + f 5 * W + f 6 * W ^ 2 + f 7 * W ^ 3 := by simp [psum, g, Int.pow_succ]
  have hhi := psum_bd hg 4
  rw [← hgs, hn, W4_M] at h8
  rw [W4_M] at hlo hhi
  have e1 : ((n % M : Nat) : Int) = psum f 4 := by
    rw [Int.natCast_emod, h8, Int.add_mul_emod_self_left, Int.emod_eq_of_lt hlo.1 hlo.2]
  have e2 : ((n / M : Nat) : Int) = psum g 4 := by
    rw [Int.natCast_ediv, h8, Int.add_mul_ediv_left _ _ (by unfold M; decide), Int.ediv_eq_zero_of_lt hlo.1 hlo.2, Int.zero_add]
  exact ⟨IsW.of hf e1, IsW.of hg e2⟩
theorem psum_all {a0 a1 a2 a3 : Int} {a : Nat} (h : IsW a0 a1 a2 a3 a) : psum (sel4 a0 a1 a2 a3) 4 = a := h.val.symm
theorem row8 {w : World} {g t : Nat} {f : Nat → Int} (h : Row w g t (arr .u64 f 8)) : w.cell? ⟨g, 0, none⟩ = some (.int .u64 (f 0)) ∧ w.cell? ⟨g, 1, none⟩ = some (.int .u64 (f 1)) ∧ w.cell? ⟨g, 2, none⟩ = some (.int .u64 (f 2)) ∧ w.cell? ⟨g, 3, none⟩ = some (.int .u64 (f 3)) ∧
    w.cell? ⟨g, 4, none⟩ = some (.int .u64 (f 4)) ∧ w.cell? ⟨g, 5, none⟩ = some (.int .u64 (f 5)) ∧ w.cell? ⟨g, 6, none⟩ = some (.int .u64 (f 6)) ∧ w.cell? ⟨g, 7, none⟩ = some (.int .u64 (f 7)) :=
  ⟨h.at_ 0 (by omega), h.at_ 1 (by omega), h.at_ 2 (by omega), h.at_ 3 (by omega), h.at_ 4 (by omega), h.at_ 5 (by omega), h.at_ 6 (by omega), h.at_ 7 (by omega)⟩
/-- a word of a value of four -/
theorem run_index4 (x0 x1 x2 x3 : Int) : ∀ (i : Nat) (_ : i < 4) (w : World), (Instr.index 31 (.agg #[.int .u64 x0, .int .u64 x1, .int .u64 x2, .int .u64 x3]) (.int .i64 (i : Int))).run Try.prog w = .ok (.int .u64 (sel4 x0 x1 x2 x3 i)) w
  | 0, _, w => by kernel_rfl
  | 1, _, w => by kernel_rfl
  | 2, _, w => by kernel_rfl
  | 3, _, w => by kernel_rfl
  | i + 4, h, _ => absurd h (by omega)

set_option maxRecDepth 100000 in
set_option maxHeartbeats 4000000 in
theorem mmul_any (a0 a1 a2 a3 b0 b1 b2 b3 : Int) (a b : Nat) (ha : IsW a0 a1 a2 a3 a) (hb : IsW b0 b1 b2 b3 b) (w : World) :
    Calls Try.prog 89 #[.agg #[.int .u64 a0, .int .u64 a1, .int .u64 a2, .int .u64 a3], .agg #[.int .u64 b0, .int .u64 b1, .int .u64 b2, .int .u64 b3]] w (Ret w (.agg (W8 (a * b / M) (a * b % M)))) := by
  have at31 := fun p c wx => run_arrayAt (t := 31) Try.underlying31 p c wx
  go_enter Try.func89, Try.ntmps89
  go_wp2_with fail
  go_loopg [15] 4 (fun g c wr => ∃ (i : Nat) (f : Nat → Int), i + g = 4 ∧ c = .int .i64 (i : Int) ∧ w.heap.size + 1 + 1 + 1 < wr.heap.size ∧ Below w.heap.size w wr ∧ Row wr (w.heap.size + 1) 31 (arr .u64 (sel4 b0 b1 b2 b3) 4) ∧ Row wr (w.heap.size + 1 + 1) 92 (arr .u64 (fun _ => 0) 8) ∧ Row wr (w.heap.size + 1 + 1 + 1) 182 (arr .u64 f 8) ∧ MulInv f (sel4 a0 a1 a2 a3) (sel4 b0 b1 b2 b3) i)
  case atStart =>
    refine ⟨0, _, by omega, rfl, by simp, by go_grown, ?_, ?_, ?_, MulInv.zero _ _⟩ <;> repeat (first | (refine Row.new_at ?_; simp; done) | refine Row.alloc ?_ _)
  case round =>
    obtain ⟨i, f, hi, rfl, hz, hl2, rb2, rr2, ro2, inv⟩ := hrel
    obtain ⟨wo, rfl⟩ : ∃ wo : World, wo = wr := ⟨_, rfl⟩
    obtain ⟨g1, rfl⟩ : ∃ g1 : Nat, g1 = gk := ⟨_, rfl⟩
    by_cases hlt : i < 4
    · have hdi : decide ((i : Int) < 4) = true := decide_eq_true (by omega)
      have ia := fun wx => run_index4 a0 a1 a2 a3 i hlt wx
      obtain ⟨⟨c0, c1, c2, c3⟩, _⟩ := rb2.four4
      have H2 := Lib.hid (show _ ∧ _ ∧ _ ∧ _ from ⟨rb2, rr2, ro2, inv⟩)
      clear rb2 rr2 ro2 inv
      go_wp2_with fail
      go_loopg [8, 20] 4 (fun g c jv wi => ∃ (j : Nat) (f : Nat → Int) (C : Int), j + g = 4 ∧ jv = .int .i64 (j : Int) ∧ c = .int .u64 C ∧ w.heap.size + 1 + 1 + 1 < wi.heap.size ∧ Below w.heap.size w wi ∧ Row wi (w.heap.size + 1) 31 (arr .u64 (sel4 b0 b1 b2 b3) 4) ∧ Row wi (w.heap.size + 1 + 1) 92 (arr .u64 (fun _ => 0) 8) ∧ Row wi (w.heap.size + 1 + 1 + 1) 182 (arr .u64 f 8) ∧ MulMid f C (sel4 a0 a1 a2 a3) (sel4 b0 b1 b2 b3) i j)
      case atStart =>
        obtain ⟨rb2, rr2, ro2, inv⟩ := H2.out
        exact ⟨0, f, 0, by omega, rfl, rfl, hz, hl2, rb2, rr2, ro2, inv.mid⟩
      case round =>
        obtain ⟨j, f', C, hj, rfl, rfl, hz3, hl3, rb3, rr3, ro3, mid⟩ := hrel
        by_cases hlj : j < 4
        · have ib := fun wx => run_index4 b0 b1 b2 b3 j hlj wx
          have co := ro3.at_ (i + j) (by omega)
          have fo := ro3.frozen (i + j)
          have wa := ha.wordy i
          have wb := hb.wordy j
          have wf := mid.1 (i + j)
          have hC0 := mid.2.2.1
          have hC1 := mid.2.2.2.1
          have st := Lib.hid (mul_step _ _ _ _ wa wb wf ⟨hC0, hC1⟩)
          have H3 := Lib.hid (show _ ∧ _ ∧ _ ∧ _ from ⟨rb3, rr3, ro3, mid⟩)
          clear rb3 rr3 ro3 mid
          go_wp2_with fail
          refine (product_any _ _ _ wa wb).mono ?_
          rintro e w' ⟨rfl, rfl⟩
          go_wp2_with fail
          refine (carry_any _ _ _ _ (pL_bd _ _) wf (by omega)).mono ?_
          rintro e w' ⟨rfl, rfl⟩
          go_wp2_with fail
          refine (carry_any _ _ _ _ (cS_bd _ _ _) ⟨hC0, hC1⟩ (by omega)).mono ?_
          rintro e w' ⟨rfl, rfl⟩
          go_wp2_with fail
          go_roundg (gk - 1)
          case measure => omega
          case rel =>
            obtain ⟨rb3, rr3, ro3, mid⟩ := H3.out
            have hs := st.out
            rw [hs.1, hs.2.1]
            refine ⟨j + 1, _, _, by omega, by go_num, rfl, by simp; omega, hl3.setCell (by dsimp only; omega) _, rb3.far (by dsimp only; omega) _, rr3.far (by dsimp only; omega) _, ro3.put (i + j) (by omega) _, mid.step ha.wordy hb.wordy hlj⟩
        · obtain rfl : j = 4 := by omega
          have ci := ro3.at_ (i + 4) (by omega)
          have fi := ro3.frozen (i + 4)
          have H3 := Lib.hid (show _ ∧ _ ∧ _ ∧ _ from ⟨rb3, rr3, ro3, mid⟩)
          clear rb3 rr3 ro3 mid hlj
          go_wp2_with fail
          go_roundg (g1 - 1)
          case measure => omega
          case rel =>
            obtain ⟨rb3, rr3, ro3, mid⟩ := H3.out
            exact ⟨i + 1, _, by omega, by go_num, by simp; omega, hl3.setCell (by dsimp only; omega) _, rb3.far (by dsimp only; omega) _, rr3.far (by dsimp only; omega) _, ro3.put (i + 4) (by omega) _, mid.done⟩
    · obtain rfl : i = 4 := by omega
      have hfin : psum f 8 = ((a * b : Nat) : Int) := by
        have h := inv.2.2
        rw [psum_all ha, psum_all hb] at h
        rw [h]; simp
      obtain ⟨hlo, hhi⟩ := halves inv.1 hfin
      have o0 := ro2.at_ 0 (by omega)
      have o1 := ro2.at_ 1 (by omega)
      have o2 := ro2.at_ 2 (by omega)
      have o3 := ro2.at_ 3 (by omega)
      have o4 := ro2.at_ 4 (by omega)
      have o5 := ro2.at_ 5 (by omega)
      have o6 := ro2.at_ 6 (by omega)
      have o7 := ro2.at_ 7 (by omega)
      clear hfin inv
      go_wp2_with fail
      refine wp_abs (Mem w [(w.heap.size + 1 + 1, 92, arr .u64 (fun _ => 0) 8), (w.heap.size + 1 + 1 + 1, 182, arr .u64 f 8)]) ⟨hl2, rr2, ro2, trivial⟩ ?_
      intro W0 hM
      obtain ⟨hl, rr, ro, -⟩ := hM
      clear o0 o1 o2 o3 o4 o5 o6 o7 rr2 ro2 rb2
      have rrlt := rr.lt
      let L : List Sp := [sO 7 (w.heap.size + 1 + 1) 92 [6] (fun g => aggOf g 6)]
      refine wp_region_six (shs L) (look6 L) (fun c => c = w.heap.size + 1 + 1) (by kernel_rfl) (by kernel_rfl) (mk_St L [7] [7] (by kernel_rfl) (by kernel_rfl) ⟨ok_O aggOf_congr rrlt (rfl), trivial⟩ (by simp)) ?_
      intro QQ hQ
      -- 0: slice<182> t5[4::]
      refine stepK rfl (by kernel_rfl) (fun K hK => ?_); go_simp
      apply Exists.intro; apply And.intro; (focus (intro wk hk; obtain ⟨o0, o1, o2, o3, o4, o5, o6, o7⟩ := row8 (K6.Row.tr (w := W0) ro hk.undrew id); go_simp; exact ⟨rfl, rfl⟩)); refine hK _ _ ?_; clear hK K
      -- 1: s2ap<31> t62
      refine stepK rfl (by kernel_rfl) (fun K hK => ?_); go_simp
      apply Exists.intro; apply And.intro; (focus (intro wk hk; obtain ⟨o0, o1, o2, o3, o4, o5, o6, o7⟩ := row8 (K6.Row.tr (w := W0) ro hk.undrew id); go_simp; exact ⟨rfl, rfl⟩)); refine hK _ _ ?_; clear hK K
      -- 2: load<31> *t63
      refine stepK rfl (by kernel_rfl) (fun K hK => ?_); go_simp
      apply Exists.intro; apply And.intro; (focus (intro wk hk; obtain ⟨o0, o1, o2, o3, o4, o5, o6, o7⟩ := row8 (K6.Row.tr (w := W0) ro hk.undrew id); go_simp; exact ⟨rfl, rfl⟩)); refine hK _ _ ?_; clear hK K
      -- 3: slice<182> t5[:4:]
      refine stepK rfl (by kernel_rfl) (fun K hK => ?_); go_simp
      apply Exists.intro; apply And.intro; (focus (intro wk hk; obtain ⟨o0, o1, o2, o3, o4, o5, o6, o7⟩ := row8 (K6.Row.tr (w := W0) ro hk.undrew id); go_simp; exact ⟨rfl, rfl⟩)); refine hK _ _ ?_; clear hK K
      -- 4: s2ap<31> t65
      refine stepK rfl (by kernel_rfl) (fun K hK => ?_); go_simp
      apply Exists.intro; apply And.intro; (focus (intro wk hk; obtain ⟨o0, o1, o2, o3, o4, o5, o6, o7⟩ := row8 (K6.Row.tr (w := W0) ro hk.undrew id); go_simp; exact ⟨rfl, rfl⟩)); refine hK _ _ ?_; clear hK K
      -- 5: load<31> *t66
      refine stepK rfl (by kernel_rfl) (fun K hK => ?_); go_simp
      apply Exists.intro; apply And.intro; (focus (intro wk hk; obtain ⟨o0, o1, o2, o3, o4, o5, o6, o7⟩ := row8 (K6.Row.tr (w := W0) ro hk.undrew id); go_simp; exact ⟨rfl, rfl⟩)); refine hK _ _ ?_; clear hK K
      -- 6: build<92> 0:t64, 1:t67
      refine stepK rfl (by kernel_rfl) (fun K hK => ?_); go_simp
      apply Exists.intro; apply And.intro; (focus (intro wk hk; go_simp; exact ⟨rfl, rfl⟩)); refine hK _ _ ?_; clear hK K
      -- 7: store<92> *t4 = t68
      refine stepS _ rfl (by kernel_rfl) (fun K hK => ?_); go_simp
      refine ⟨?_, ?_⟩
      · exact sStoreO rfl rfl rfl rfl rfl rfl rr id (by kernel_rfl) rfl (by kernel_rfl) (by decide) aggOf_congr
      rintro ⟨v7, lo7, hi7⟩ - - (rfl : v7 = undef)
      refine hK _ _ ?_; clear hK K
      refine stepN ?_
      refine hQ _ _ ?_
      intro w9 hT hG hF
      have hT' := hT.undrew
      have z5 := hl.size
      have rw9 : Row w9 (w.heap.size + 1 + 1) 92 (W8 (a * b / M) (a * b % M)) := (show Row w9 (w.heap.size + 1 + 1) 92 _ from hF 7 _ rfl rfl (by decide)).congr (W8_eq hhi hlo)
      have hl9 : Below w.heap.size w w9 := hl.trans (hT'.below_of z5 (by intro c hc; omega))
      clear hT hT' hG hF hl rr ro hQ QQ L
      go_wp2_with fail
      exact bodyPost_ret (results_c rfl aggT92 rfl rw9 rfl) rfl ⟨rfl, hl9⟩
theorem mmulU {a b : Nat} (ha : a < M) (hb : b < M) (w : World) : Calls Try.prog 89 #[.agg (W4 a), .agg (W4 b)] w (Ret w (.agg (W8 (a * b / M) (a * b % M)))) :=
  mmul_any _ _ _ _ _ _ _ _ a b (wordsOf_isW a ha) (wordsOf_isW b hb) w
end Go.Proofs.Ytpdenhmkpiafiaa

/-! MBit: muldiv.Wide: how many bits a product has, and each of them; whether two products are the same. -/
namespace Go.Proofs.Ytpdenhmkpiafiaa
open Go Go.RowKit K6

theorem fields92 : (Try.prog.fieldsOf 92).toList = [⟨ "High", 31, 0, false, "", "", 0⟩, ⟨ "Low", 31, 4, false, "", "", 32⟩] := by kernel_rfl
theorem W8_inj {h l h' l' : Nat} (a : h < M) (b : l < M) (a' : h' < M) (b' : l' < M) (e : W8 h l = W8 h' l') : h = h' ∧ l = l' := by
  unfold W8 at e
  have e1 := Array.append_inj e rfl
  exact ⟨W4_inj a a' e1.1, W4_inj b b' e1.2⟩
theorem eqU9999 {a b : Nat} (ha : a < M) (hb : b < M) (w : World) : (Op.equalIn 9999 31 (.agg (W4 a)) (.agg (W4 b))).run Try.prog w = .ok (decide (a = b)) w := by
  obtain ⟨i, hi⟩ := Option.isSome_iff_exists.1 some29
  have h := run_eq4 9997 Try.underlying31 Try.underlying29 hi cells29 (wordsOf a 0) (wordsOf a 1) (wordsOf a 2) (wordsOf a 3) (wordsOf b 0) (wordsOf b 1) (wordsOf b 2) (wordsOf b 3) w
  have h2 := eqU ha hb w
  unfold W4 at h2 ⊢
  rw [eq31] at h2
  rw [h]
  exact h2
theorem part92 (h l : Nat) (w : World) : (part 31 (W8 h l) 0).run Try.prog w = .ok (.agg (W4 h)) w ∧ (part 31 (W8 h l) 4).run Try.prog w = .ok (.agg (W4 l)) w := by
  constructor <;> kernel_rfl
theorem eq92 {h l h' l' : Nat} (a : h < M) (b : l < M) (a' : h' < M) (b' : l' < M) (w : World) : (Op.equalIn 10000 92 (.agg (W8 h l)) (.agg (W8 h' l'))).run Try.prog w = .ok (decide (h = h') && decide (l = l')) w := by
  rw [run_equalIn_struct w 9999 92 _ _ (by kernel_rfl) (by kernel_rfl), fields92]
  simp [Op.eqFields, (part92 h l w).1, (part92 h l w).2, (part92 h' l' w).1, (part92 h' l' w).2, eqU9999 a a', eqU9999 b b']
  by_cases e : h = h' <;> by_cases e' : l = l' <;> simp [e, e']
end Go.Proofs.Ytpdenhmkpiafiaa

/-! MBits: muldiv.Wide.bits: how many bits a product has. -/
namespace Go.Proofs.Ytpdenhmkpiafiaa
open Go Go.RowKit K6

theorem W8_hi (h l : Nat) : ∀ (j : Nat) (v : Value), (W4 h)[j]? = some v → (W8 h l)[0 + j]? = some v := fun j v hv => by
  have hj : j < (W4 h).size := (Array.getElem?_eq_some_iff.1 hv).1
  unfold W8
  rw [Nat.zero_add, Array.getElem?_append_left hj]; exact hv
theorem W8_lo (h l : Nat) : ∀ (j : Nat) (v : Value), (W4 l)[j]? = some v → (W8 h l)[4 + j]? = some v := fun j v hv => by
  unfold W8
  rw [Array.getElem?_append_right (by rw [W4_size]; omega), W4_size, Nat.add_sub_cancel_left]; exact hv
theorem ret_i {k : IntKind} {a b : Int} (h : a = b) : Ending.returned (.int k a) = .returned (.int k b) := by rw [h]
theorem W8_zero : #[Value.int .u64 0, .int .u64 0, .int .u64 0, .int .u64 0, .int .u64 0, .int .u64 0, .int .u64 0, .int .u64 0] = W8 0 0 := W8_eq isW_zero isW_zero
theorem wide_hi {h l : Nat} (hl : l < M) : (h * M + l) / M = h := by
  rw [Nat.mul_comm, Nat.mul_add_div M_pos, Nat.div_eq_of_lt hl, Nat.add_zero]
theorem blen_wide {h l : Nat} (hl : l < M) (h0 : h ≠ 0) : blen (h * M + l) = 256 + blen h := by
  have e : (h * M + l) / 2 ^ 256 = h := by rw [← M_eq]; exact wide_hi hl
  have := blen_shift (n := h * M + l) (s := 256) (by rw [e]; exact h0)
  rw [this, e]
theorem blen_leM {n : Nat} (h : n < M) : blen n ≤ 256 := by
  unfold blen
  split
  · omega
  · rename_i h0
    have := (Nat.log2_lt h0).2 (by rw [← M_eq]; exact h)
    omega

set_option maxRecDepth 100000 in
set_option maxHeartbeats 4000000 in
theorem mbits_any {h l : Nat} (hh : h < M) (hlM : l < M) (w : World) : Calls Try.prog 194 #[.agg (W8 h l)] w (Ret w (.int .i64 (blen (h * M + l)))) := by
  have bh := blen_leM hh
  have bi : ((blen h : Nat) : Int) ≤ 256 := by omega
  have wi : IntKind.i64.wrap (256 + ((blen h : Nat) : Int)) = 256 + ((blen h : Nat) : Int) := IntWalk.i64_in _ (by omega)
  by_cases h0 : h = 0
  · have Q0 : ∀ wx, (Op.equalIn 10000 31 (.agg (W4 h)) (.agg #[.int .u64 0, .int .u64 0, .int .u64 0, .int .u64 0])).run Try.prog wx = .ok true wx := fun wx => by rw [eqU0 hh, decide_eq_true h0]
    have e : h * M + l = l := by rw [h0]; simp
    rw [e]
    by_cases l0 : l = 0
    · have Q : ∀ wx, (Op.equalIn 10000 92 (.agg (W8 h l)) (.agg #[.int .u64 0, .int .u64 0, .int .u64 0, .int .u64 0, .int .u64 0, .int .u64 0, .int .u64 0, .int .u64 0])).run Try.prog wx = .ok true wx := fun wx => by rw [W8_zero, eq92 hh hlM M_pos M_pos, decide_eq_true h0, decide_eq_true l0]; rfl
      have fin := Lib.hid (show blen l = 0 by rw [l0]; rfl)
      clear h0 l0 e Q0
      go_enter Try.func194, Try.ntmps194
      apply wp_seq_eq
      focus
        intro J hJ
        go_wp2_with fail
        exact hJ
      refine wp_abs (Mem w [(w.heap.size, 92, W8 h l)]) ⟨by go_grown, Row.new_at rfl, trivial⟩ ?_
      intro w0 hM
      obtain ⟨hl, rw8, -⟩ := hM
      go_step
      go_step
      let L : List Sp := []
      refine wp_region_six0 (shs L) (look6 L) (None_) (by kernel_rfl) (by kernel_rfl) (mk_St L [] [] (by kernel_rfl) (by kernel_rfl) trivial (by simp)) ?_
      intro QQ hQ
      -- 0: load<92> *t1
      refine stepK rfl (by kernel_rfl) (fun K hK => ?_); go_simp
      apply Exists.intro; apply And.intro; (focus exact kLoad rfl rfl aggT92 rw8 rfl id); refine hK _ _ ?_; clear hK K
      -- 1: build<92> 
      refine stepK rfl (by kernel_rfl) (fun K hK => ?_); go_simp
      apply Exists.intro; apply And.intro; (focus (intro wk hk; go_simp; exact ⟨rfl, rfl⟩)); refine hK _ _ ?_; clear hK K
      -- 2: eql<92> t3, t4
      refine stepK rfl (by kernel_rfl) (fun K hK => ?_); go_simp
      apply Exists.intro; apply And.intro; (focus (intro wk hk; go_simp; exact ⟨rfl, rfl⟩)); refine hK _ _ ?_; clear hK K
      refine stepN ?_
      refine hQ _ _ ?_
      intro w1 hT hG hF
      have hbw1 := hT.below
      replace rw8 := rw8.below hbw1 rw8.lt
      replace hl := hl.trans (hbw1.mono hl.size)
      clear hT hG hF hbw1 hQ QQ L 
      go_wp2_with fail
      go_ret
      exact ⟨by rw [fin.out]; rfl, hl⟩
    · have Q : ∀ wx, (Op.equalIn 10000 92 (.agg (W8 h l)) (.agg #[.int .u64 0, .int .u64 0, .int .u64 0, .int .u64 0, .int .u64 0, .int .u64 0, .int .u64 0, .int .u64 0])).run Try.prog wx = .ok false wx := fun wx => by rw [W8_zero, eq92 hh hlM M_pos M_pos, decide_eq_true h0, decide_eq_false l0]; rfl
      clear h0 l0 e
      go_enter Try.func194, Try.ntmps194
      apply wp_seq_eq
      focus
        intro J hJ
        go_wp2_with fail
        exact hJ
      refine wp_abs (Mem w [(w.heap.size, 92, W8 h l)]) ⟨by go_grown, Row.new_at rfl, trivial⟩ ?_
      intro w0 hM
      obtain ⟨hl, rw8, -⟩ := hM
      go_step
      go_step
      let L : List Sp := []
      refine wp_region_six0 (shs L) (look6 L) (None_) (by kernel_rfl) (by kernel_rfl) (mk_St L [] [] (by kernel_rfl) (by kernel_rfl) trivial (by simp)) ?_
      intro QQ hQ
      -- 0: load<92> *t1
      refine stepK rfl (by kernel_rfl) (fun K hK => ?_); go_simp
      apply Exists.intro; apply And.intro; (focus exact kLoad rfl rfl aggT92 rw8 rfl id); refine hK _ _ ?_; clear hK K
      -- 1: build<92> 
      refine stepK rfl (by kernel_rfl) (fun K hK => ?_); go_simp
      apply Exists.intro; apply And.intro; (focus (intro wk hk; go_simp; exact ⟨rfl, rfl⟩)); refine hK _ _ ?_; clear hK K
      -- 2: eql<92> t3, t4
      refine stepK rfl (by kernel_rfl) (fun K hK => ?_); go_simp
      apply Exists.intro; apply And.intro; (focus (intro wk hk; go_simp; exact ⟨rfl, rfl⟩)); refine hK _ _ ?_; clear hK K
      refine stepN ?_
      refine hQ _ _ ?_
      intro w1 hT hG hF
      have hbw1 := hT.below
      replace rw8 := rw8.below hbw1 rw8.lt
      replace hl := hl.trans (hbw1.mono hl.size)
      clear hT hG hF hbw1 hQ QQ L 
      go_upto_region 3 with (fail)
      let L : List Sp := []
      refine wp_region_six0 (shs L) (look6 L) (None_) (by kernel_rfl) (by kernel_rfl) (mk_St L [] [] (by kernel_rfl) (by kernel_rfl) trivial (by simp)) ?_
      intro QQ hQ
      -- 0: fieldAddr<92> t1.0
      refine stepK rfl (by kernel_rfl) (fun K hK => ?_); go_simp
      apply Exists.intro; apply And.intro; (focus (intro wk hk; go_simp; exact ⟨rfl, rfl⟩)); refine hK _ _ ?_; clear hK K
      -- 1: load<31> *t6
      refine stepK rfl (by kernel_rfl) (fun K hK => ?_); go_simp
      apply Exists.intro; apply And.intro; (focus exact kLoadMid rfl rfl aggT31 rw8 (W8_hi h l) rfl id); refine hK _ _ ?_; clear hK K
      -- 2: build<31> 
      refine stepK rfl (by kernel_rfl) (fun K hK => ?_); go_simp
      apply Exists.intro; apply And.intro; (focus (intro wk hk; go_simp; exact ⟨rfl, rfl⟩)); refine hK _ _ ?_; clear hK K
      -- 3: neq<31> t7, t8
      refine stepK rfl (by kernel_rfl) (fun K hK => ?_); go_simp
      apply Exists.intro; apply And.intro; (focus (intro wk hk; go_simp; exact ⟨rfl, rfl⟩)); refine hK _ _ ?_; clear hK K
      refine stepN ?_
      refine hQ _ _ ?_
      intro w2 hT hG hF
      have hbw2 := hT.below
      replace rw8 := rw8.below hbw2 rw8.lt
      replace hl := hl.trans (hbw2.mono hl.size)
      clear hT hG hF hbw2 hQ QQ L 
      go_upto_region 5 with (fail)
      let L : List Sp := [sV 2 [] [] (fun u => u = .int .i64 (blen l))]
      refine wp_region_six0 (shs L) (look6 L) (None_) (by kernel_rfl) (by kernel_rfl) (mk_St L [] [] (by kernel_rfl) (by kernel_rfl) ⟨ok_V ⟨_, rfl⟩, trivial⟩ (by simp)) ?_
      intro QQ hQ
      -- 0: fieldAddr<92> t1.1
      refine stepK rfl (by kernel_rfl) (fun K hK => ?_); go_simp
      apply Exists.intro; apply And.intro; (focus (intro wk hk; go_simp; exact ⟨rfl, rfl⟩)); refine hK _ _ ?_; clear hK K
      -- 1: load<31> *t14
      refine stepK rfl (by kernel_rfl) (fun K hK => ?_); go_simp
      apply Exists.intro; apply And.intro; (focus exact kLoadMid rfl rfl aggT31 rw8 (W8_lo h l) rfl id); refine hK _ _ ?_; clear hK K
      -- 2: call F49(t15)
      refine stepS _ rfl (by kernel_rfl) (fun K hK => ?_); go_simp
      refine ⟨?_, ?_⟩
      · intro wk hk hg hu; go_simp; refine upon_enter ((bitsU hlM _).mono ?_); rintro e w' ⟨rfl, hb⟩; exact ⟨_, rfl, left_V (p := fun u => u = .int .i64 (blen l)) rfl (hb) rfl⟩
      rintro ⟨v2, lo2, hi2⟩ - - (rfl : v2 = _)
      refine hK _ _ ?_; clear hK K
      -- 3: assign t16
      refine stepK rfl (by kernel_rfl) (fun K hK => ?_); go_simp
      apply Exists.intro; apply And.intro; (focus (intro wk hk; go_simp; exact ⟨rfl, rfl⟩)); refine hK _ _ ?_; clear hK K
      refine stepN ?_
      refine hQ _ _ ?_
      intro w3 hT hG hF
      have hbw3 := hT.below
      replace rw8 := rw8.below hbw3 rw8.lt
      replace hl := hl.trans (hbw3.mono hl.size)
      clear hT hG hF hbw3 hQ QQ L 
      go_wp2_with fail
      go_ret
      exact ⟨rfl, hl⟩
  · have Q0 : ∀ wx, (Op.equalIn 10000 31 (.agg (W4 h)) (.agg #[.int .u64 0, .int .u64 0, .int .u64 0, .int .u64 0])).run Try.prog wx = .ok false wx := fun wx => by rw [eqU0 hh, decide_eq_false h0]
    have Q : ∀ wx, (Op.equalIn 10000 92 (.agg (W8 h l)) (.agg #[.int .u64 0, .int .u64 0, .int .u64 0, .int .u64 0, .int .u64 0, .int .u64 0, .int .u64 0, .int .u64 0])).run Try.prog wx = .ok false wx := fun wx => by rw [W8_zero, eq92 hh hlM M_pos M_pos, decide_eq_false h0]; rfl
    have fin := Lib.hid (blen_wide hlM h0)
    clear h0
    go_enter Try.func194, Try.ntmps194
    apply wp_seq_eq
    focus
      intro J hJ
      go_wp2_with fail
      exact hJ
    refine wp_abs (Mem w [(w.heap.size, 92, W8 h l)]) ⟨by go_grown, Row.new_at rfl, trivial⟩ ?_
    intro w0 hM
    obtain ⟨hl, rw8, -⟩ := hM
    go_step
    go_step
    let L : List Sp := []
    refine wp_region_six0 (shs L) (look6 L) (None_) (by kernel_rfl) (by kernel_rfl) (mk_St L [] [] (by kernel_rfl) (by kernel_rfl) trivial (by simp)) ?_
    intro QQ hQ
    -- 0: load<92> *t1
    refine stepK rfl (by kernel_rfl) (fun K hK => ?_); go_simp
    apply Exists.intro; apply And.intro; (focus exact kLoad rfl rfl aggT92 rw8 rfl id); refine hK _ _ ?_; clear hK K
    -- 1: build<92> 
    refine stepK rfl (by kernel_rfl) (fun K hK => ?_); go_simp
    apply Exists.intro; apply And.intro; (focus (intro wk hk; go_simp; exact ⟨rfl, rfl⟩)); refine hK _ _ ?_; clear hK K
    -- 2: eql<92> t3, t4
    refine stepK rfl (by kernel_rfl) (fun K hK => ?_); go_simp
    apply Exists.intro; apply And.intro; (focus (intro wk hk; go_simp; exact ⟨rfl, rfl⟩)); refine hK _ _ ?_; clear hK K
    refine stepN ?_
    refine hQ _ _ ?_
    intro w1 hT hG hF
    have hbw1 := hT.below
    replace rw8 := rw8.below hbw1 rw8.lt
    replace hl := hl.trans (hbw1.mono hl.size)
    clear hT hG hF hbw1 hQ QQ L 
    go_upto_region 3 with (fail)
    let L : List Sp := []
    refine wp_region_six0 (shs L) (look6 L) (None_) (by kernel_rfl) (by kernel_rfl) (mk_St L [] [] (by kernel_rfl) (by kernel_rfl) trivial (by simp)) ?_
    intro QQ hQ
    -- 0: fieldAddr<92> t1.0
    refine stepK rfl (by kernel_rfl) (fun K hK => ?_); go_simp
    apply Exists.intro; apply And.intro; (focus (intro wk hk; go_simp; exact ⟨rfl, rfl⟩)); refine hK _ _ ?_; clear hK K
    -- 1: load<31> *t6
    refine stepK rfl (by kernel_rfl) (fun K hK => ?_); go_simp
    apply Exists.intro; apply And.intro; (focus exact kLoadMid rfl rfl aggT31 rw8 (W8_hi h l) rfl id); refine hK _ _ ?_; clear hK K
    -- 2: build<31> 
    refine stepK rfl (by kernel_rfl) (fun K hK => ?_); go_simp
    apply Exists.intro; apply And.intro; (focus (intro wk hk; go_simp; exact ⟨rfl, rfl⟩)); refine hK _ _ ?_; clear hK K
    -- 3: neq<31> t7, t8
    refine stepK rfl (by kernel_rfl) (fun K hK => ?_); go_simp
    apply Exists.intro; apply And.intro; (focus (intro wk hk; go_simp; exact ⟨rfl, rfl⟩)); refine hK _ _ ?_; clear hK K
    refine stepN ?_
    refine hQ _ _ ?_
    intro w2 hT hG hF
    have hbw2 := hT.below
    replace rw8 := rw8.below hbw2 rw8.lt
    replace hl := hl.trans (hbw2.mono hl.size)
    clear hT hG hF hbw2 hQ QQ L 
    go_upto_region 4 with (fail)
    let L : List Sp := [sV 2 [] [] (fun u => u = .int .i64 (blen h))]
    refine wp_region_six0 (shs L) (look6 L) (None_) (by kernel_rfl) (by kernel_rfl) (mk_St L [] [] (by kernel_rfl) (by kernel_rfl) ⟨ok_V ⟨_, rfl⟩, trivial⟩ (by simp)) ?_
    intro QQ hQ
    -- 0: fieldAddr<92> t1.0
    refine stepK rfl (by kernel_rfl) (fun K hK => ?_); go_simp
    apply Exists.intro; apply And.intro; (focus (intro wk hk; go_simp; exact ⟨rfl, rfl⟩)); refine hK _ _ ?_; clear hK K
    -- 1: load<31> *t10
    refine stepK rfl (by kernel_rfl) (fun K hK => ?_); go_simp
    apply Exists.intro; apply And.intro; (focus exact kLoadMid rfl rfl aggT31 rw8 (W8_hi h l) rfl id); refine hK _ _ ?_; clear hK K
    -- 2: call F49(t11)
    refine stepS _ rfl (by kernel_rfl) (fun K hK => ?_); go_simp
    refine ⟨?_, ?_⟩
    · intro wk hk hg hu; go_simp; refine upon_enter ((bitsU hh _).mono ?_); rintro e w' ⟨rfl, hb⟩; exact ⟨_, rfl, left_V (p := fun u => u = .int .i64 (blen h)) rfl (hb) rfl⟩
    rintro ⟨v2, lo2, hi2⟩ - - (rfl : v2 = _)
    refine hK _ _ ?_; clear hK K
    -- 3: add<3> 256, t12
    refine stepK rfl (by kernel_rfl) (fun K hK => ?_); go_simp
    apply Exists.intro; apply And.intro; (focus (intro wk hk; go_simp; exact ⟨rfl, rfl⟩)); refine hK _ _ ?_; clear hK K
    -- 4: assign t13
    refine stepK rfl (by kernel_rfl) (fun K hK => ?_); go_simp
    apply Exists.intro; apply And.intro; (focus (intro wk hk; go_simp; exact ⟨rfl, rfl⟩)); refine hK _ _ ?_; clear hK K
    refine stepN ?_
    refine hQ _ _ ?_
    intro w3 hT hG hF
    have hbw3 := hT.below
    replace rw8 := rw8.below hbw3 rw8.lt
    replace hl := hl.trans (hbw3.mono hl.size)
    clear hT hG hF hbw3 hQ QQ L 
    go_wp2_with fail
    go_ret
    exact ⟨ret_i (by rw [fin.out, Int.natCast_add]; rfl), hl⟩
end Go.Proofs.Ytpdenhmkpiafiaa

/-! MBit1: muldiv.Wide.bit: a bit of a product. -/
namespace Go.Proofs.Ytpdenhmkpiafiaa
open Go Go.RowKit K6

theorem bit_hi {h l i : Nat} (hl : l < M) (hi : 256 ≤ i) : bitN (h * M + l) i = bitN h (i - 256) := by
  unfold bitN
  rw [show i = 256 + (i - 256) by omega, Nat.pow_add, ← Nat.div_div_eq_div_mul, ← M_eq, wide_hi hl, Nat.add_sub_cancel_left]
theorem bit_lo {h l i : Nat} (hi : i < 256) : bitN (h * M + l) i = bitN l i := by
  unfold bitN
  rw [M_eq, show 256 = i + 1 + (255 - i) by omega, Nat.pow_add, Nat.pow_succ]
  rw [show h * (2 ^ i * 2 * 2 ^ (255 - i)) + l = 2 ^ i * (2 * (h * 2 ^ (255 - i))) + l by simp only [Nat.mul_assoc, Nat.mul_comm, Nat.mul_left_comm], Nat.mul_add_div (Nat.pow_pos (by decide)), Nat.mul_add_mod]
/-- the words of a row of eight -/
theorem W8_at {w : World} {g t h l : Nat} (hr : Row w g t (W8 h l)) (j : Nat) (hj : j < 4) : w.cell? ⟨g, j, none⟩ = some (.int .u64 (sel4 (wordsOf h 0) (wordsOf h 1) (wordsOf h 2) (wordsOf h 3) j)) ∧ w.cell? ⟨g, 4 + j, none⟩ = some (.int .u64 (sel4 (wordsOf l 0) (wordsOf l 1) (wordsOf l 2) (wordsOf l 3) j)) := by
  have e : ∀ n, (W4 n)[j]? = some (.int .u64 (sel4 (wordsOf n 0) (wordsOf n 1) (wordsOf n 2) (wordsOf n 3) j)) := fun n => by rw [W4_arr, arr_get _ _ _ _ hj]
  constructor
  · rw [hr.cell]; have := W8_hi h l j _ (e h); rwa [Nat.zero_add] at this
  · rw [hr.cell]; exact W8_lo h l j _ (e l)

set_option maxRecDepth 100000 in
set_option maxHeartbeats 4000000 in
theorem mbit_any {h l : Nat} (hh : h < M) (hlM : l < M) (i : Nat) (hi : i < 512) (w : World) : Calls Try.prog 196 #[.agg (W8 h l), .int .i64 (i : Int)] w (Ret w (.int .u64 ((bitN (h * M + l) i : Nat) : Int))) := by
  have t1 : ((i : Int)).tdiv 64 = (i : Int) / 64 := Int.tdiv_eq_ediv_of_nonneg (by omega)
  have t2 : ((i : Int)).tmod 64 = (i : Int) % 64 := Int.tmod_eq_emod_of_nonneg (by omega)
  have t3 : IntKind.i64.wrap ((i : Int) / 64) = (i : Int) / 64 := IntWalk.i64_in _ (by omega)
  have t7 : 0 ≤ (i : Int) % 64 := by omega
  have t8 : (i : Int) % 64 < 64 := by omega
  have t9 : ((i : Int) % 64).toNat = i % 64 := by omega
  have t10 : IntKind.i64.wrap ((i : Int) % 64) = (i : Int) % 64 := IntWalk.i64_in _ (by omega)
  by_cases hb : 256 ≤ i
  · have hb' : (256 : Int) ≤ (i : Int) := by omega
    have t4 : 0 ≤ (i : Int) / 64 - 4 := by omega
    have t5 : (i : Int) / 64 - 4 < 4 := by omega
    have t6 : ((i : Int) / 64 - 4).toNat = (i - 256) / 64 := by omega
    have e6 : (i - 256) % 64 = i % 64 := by omega
    have hw := Lib.hid (bit_word (wordsOf_isW h hh) (k := i - 256) (by omega))
    have fin := Lib.hid (bit_hi (h := h) hlM hb)
    have hj : (i - 256) / 64 < 4 := by omega
    have hR : Row (w.alloc (.cells (W8 h l) 92)) w.heap.size 92 (W8 h l) := Row.new_at rfl
    obtain ⟨c, -⟩ := W8_at hR _ hj
    have e7 := Lib.hid e6
    clear hR e6 hj hb
    go_enter Try.func196, Try.ntmps196
    go_wp2_with fail
    trace_state
    go_ret
    exact ⟨ret_i (by rw [fin.out, ← hw.out, e7.out]), by go_grown⟩
  · have hb' : (i : Int) < 256 := by omega
    have t4 : 0 ≤ (i : Int) / 64 := by omega
    have t5 : (i : Int) / 64 < 4 := by omega
    have t6 : ((i : Int) / 64).toNat = i / 64 := by omega
    have hw := Lib.hid (bit_word (wordsOf_isW l hlM) (k := i) (by omega))
    have fin := Lib.hid (bit_lo (h := h) (l := l) (i := i) (by omega))
    have hj : i / 64 < 4 := by omega
    have hR : Row (w.alloc (.cells (W8 h l) 92)) w.heap.size 92 (W8 h l) := Row.new_at rfl
    obtain ⟨-, c⟩ := W8_at hR _ hj
    clear hR hj hb
    go_enter Try.func196, Try.ntmps196
    go_wp2_with fail
    trace_state
    go_ret
    exact ⟨ret_i (by rw [fin.out, ← hw.out]), by go_grown⟩
end Go.Proofs.Ytpdenhmkpiafiaa

/-! MTakePlain: muldiv.rest.take, plain: twice a rest and a bit more, the divisor taken off where it fits. -/
namespace Go.Proofs.Ytpdenhmkpiafiaa
open Go Go.RowKit K6

/-- word j of twice a number and a bit -/
def nw (f : Nat → Int) (t : Int) (j : Nat) : Int := if j = 0 then (2 * f 0) % 18446744073709551616 + t else (2 * f j) % 18446744073709551616 + f (j - 1) / 9223372036854775808
/-- the words above k are shifted, the word above all told -/
def shF (f : Nat → Int) (k : Nat) : Nat → Int := fun j => if j = 4 then f 3 / 9223372036854775808 else if 4 < j then 0 else if k < j then nw f 0 j else f j
/-- all words are shifted -/
def finF (f : Nat → Int) (t : Int) : Nat → Int := upd (shF f 0) 0 (nw f t 0)
theorem shF_step (f : Nat → Int) (k : Nat) (hk : k < 3) : upd (shF f (k + 1)) (k + 1) (nw f 0 (k + 1)) = shF f k := by
  funext j
  unfold upd shF
  by_cases h : j = k + 1
  · subst h
    rw [if_pos rfl, if_neg (by omega), if_neg (by omega), if_pos (by omega)]
  · rw [if_neg h]
    by_cases h4 : j = 4
    · rw [if_pos h4, if_pos h4]
    · rw [if_neg h4, if_neg h4]
      by_cases h5 : 4 < j
      · rw [if_pos h5, if_pos h5]
      · rw [if_neg h5, if_neg h5]
        by_cases h6 : k + 1 < j
        · rw [if_pos h6, if_pos (by omega)]
        · rw [if_neg h6, if_neg (by omega)]
theorem nw_bd {f : Nat → Int} (hf : Wordy f) {t : Int} (ht : 0 ≤ t ∧ t ≤ 1) (j : Nat) : 0 ≤ nw f t j ∧ nw f t j < 18446744073709551616 := by
  have h0 := hf 0
  have h1 := hf j
  have h2 := hf (j - 1)
  unfold W at *
  unfold nw
  split <;> omega
theorem shF_wordy {f : Nat → Int} (hf : Wordy f) (k : Nat) : Wordy (shF f k) := fun j => by
  have h3 := hf 3
  have hj := hf j
  have hn := nw_bd hf (t := 0) ⟨by omega, by omega⟩ j
  unfold shF W at *
  split
  · omega
  · split
    · omega
    · split
      · exact hn
      · exact hj
theorem finF_wordy {f : Nat → Int} (hf : Wordy f) {t : Int} (ht : 0 ≤ t ∧ t ≤ 1) : Wordy (finF f t) := (shF_wordy hf 0).upd 0 (nw_bd hf ht 0)
theorem finF_val {f : Nat → Int} (hf : Wordy f) {r t : Nat} (hr : psum f 4 = r) (ht : t ≤ 1) : IsW (finF f t 0) (finF f t 1) (finF f t 2) (finF f t 3) ((2 * r + t) % M) ∧ finF f t 4 = (((2 * r + t) / M : Nat) : Int) := by
  have h0 := hf 0
  have h1 := hf 1
  have h2 := hf 2
  have h3 := hf 3
  have hw := finF_wordy hf (t := (t : Int)) ⟨by omega, by omega⟩
  have hb := psum_bd hw 4
  have e4 : finF f t 4 = f 3 / 9223372036854775808 := rfl
  have hs : psum (finF f t) 4 + (f 3 / 9223372036854775808) * ((M : Nat) : Int) = 2 * psum f 4 + t := by
    rw [M_W]
    simp only [psum, finF, shF, nw, upd, W] at *
    simp
    omega
  rw [M_W.symm] at hb
  rw [hr] at hs
  obtain ⟨F, hF⟩ := Int.eq_ofNat_of_zero_le hb.1
  obtain ⟨C, hC⟩ := Int.eq_ofNat_of_zero_le (show 0 ≤ f 3 / 9223372036854775808 by unfold W at h3; omega)
  rw [hF] at hs hb
  rw [hC] at hs
  have hn : F + C * M = 2 * r + t := by
    have : ((F + C * M : Nat) : Int) = ((2 * r + t : Nat) : Int) := by rw [Int.natCast_add, Int.natCast_mul]; omega
    exact Int.ofNat_inj.1 this
  have hFM : F < M := by omega
  refine ⟨IsW.of hw ?_, ?_⟩
  · rw [hF, ← hn, Nat.add_mul_mod_self_right, Nat.mod_eq_of_lt hFM]
  · rw [e4, hC, ← hn, Nat.add_mul_div_right _ _ M_pos, Nat.div_eq_of_lt hFM, Nat.zero_add]
theorem WrapInv.fin' {f p q : Nat → Int} {C : Int} {a b : Nat} (h : WrapInv f C p q 4) (ha : psum p 4 = a) (hb : psum q 4 = b) (la : a < M) (lb : b < M) : IsW (f 0) (f 1) (f 2) (f 3) (wrapN a b) ∧ Wordy f := by
  obtain ⟨_, h2, h3, h4, h5⟩ := h
  have la' := la
  rw [ha, hb, ← M_W] at h5
  have hp := psum_bd h4 4
  rw [← M_W] at hp
  refine ⟨IsW.of h4 ?_, h4⟩
  unfold wrapN
  rcases (show C = 0 ∨ C = 1 by omega) with rfl | rfl
  · rw [Int.zero_mul] at h5
    have e : a + M - b = (a - b) + M := by omega
    rw [e, Nat.add_mod_right, Nat.mod_eq_of_lt (Nat.lt_of_le_of_lt (Nat.sub_le a b) la')]; omega
  · rw [Int.one_mul] at h5
    rw [Nat.mod_eq_of_lt (by omega)]; omega
/-- taken off -/
theorem take_off {r t d : Nat} (hr : r < d) (hd : d < M) (ht : t ≤ 1) (hle : d ≤ 2 * r + t) : wrapN ((2 * r + t) % M) d = rN r d t := by
  unfold wrapN rN
  rw [if_pos hle]
  rcases Nat.lt_or_ge (2 * r + t) M with h | h
  · rw [Nat.mod_eq_of_lt h, show 2 * r + t + M - d = 2 * r + t - d + M by omega, Nat.add_mod_right, Nat.mod_eq_of_lt (by omega)]
  · have e : (2 * r + t) % M = 2 * r + t - M := by
      rw [Nat.mod_eq_sub_mod h, Nat.mod_eq_of_lt (by omega)]
    rw [e, show 2 * r + t - M + M - d = 2 * r + t - d by omega, Nat.mod_eq_of_lt (by omega)]
theorem sel4_of (f : Nat → Int) (j : Nat) (hj : j < 4) : sel4 (f 0) (f 1) (f 2) (f 3) j = f j := by
  have : j = 0 ∨ j = 1 ∨ j = 2 ∨ j = 3 := by omega
  rcases this with rfl | rfl | rfl | rfl <;> rfl
/-- four words of a row of five -/
theorem row5_hi {f : Nat → Int} {n : Nat} (h : IsW (f 0) (f 1) (f 2) (f 3) n) : ∀ (j : Nat) (v : Value), (W4 n)[j]? = some v → (arr .u64 f 5)[0 + j]? = some v := fun j v hv => by
  have hj : j < 4 := (Array.getElem?_eq_some_iff.1 hv).1
  rw [Nat.zero_add, arr_get _ _ _ _ (by omega)]
  rw [← W4_eq h, show #[Value.int .u64 (f 0), .int .u64 (f 1), .int .u64 (f 2), .int .u64 (f 3)] = arr .u64 f 4 from rfl, arr_get _ _ _ _ hj] at hv
  exact hv
end Go.Proofs.Ytpdenhmkpiafiaa
