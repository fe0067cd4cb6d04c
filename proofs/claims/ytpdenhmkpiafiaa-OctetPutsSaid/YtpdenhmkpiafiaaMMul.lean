/-
  muldiv.Mul: the product of two numbers of four words, in two halves.
-/
import Derived.Test.YtpdenhmkpiafiaaU
import Derived.Deep.DeepCutAuto
namespace Go.Proofs.Ytpdenhmkpiafiaa
open Go Go.RowKit K6

/-- the words of two halves, the high one first -/
def W8 (h l : Nat) : Array Value := W4 h ++ W4 l
theorem W8_eq {h0 h1 h2 h3 l0 l1 l2 l3 : Int} {h l : Nat} (hh : IsW h0 h1 h2 h3 h) (hl : IsW l0 l1 l2 l3 l) : #[Value.int .u64 h0, .int .u64 h1, .int .u64 h2, .int .u64 h3, .int .u64 l0, .int .u64 l1, .int .u64 l2, .int .u64 l3] = W8 h l := by
  unfold W8
  rw [← W4_eq hh, ← W4_eq hl]
  rfl
theorem aggT92 : AggT Try.prog 92 8 := ⟨⟨_, Try.underlying92, rfl⟩, by kernel_rfl⟩
theorem M_eq : M = 2 ^ 256 := by unfold M; decide
theorem W4_M : W ^ 4 = ((M : Nat) : Int) := by rw [M_W]
theorem halves {f : Nat → Int} (hf : Wordy f) {n : Nat} (hn : psum f 8 = (n : Int)) : IsW (f 0) (f 1) (f 2) (f 3) (n % M) ∧ IsW (f 4) (f 5) (f 6) (f 7) (n / M) := by
  have h8 := psum8 f
  have hlo := psum_bd hf 4
  let g : Nat → Int := fun i => f (i + 4)
  have hg : Wordy g := fun i => hf (i + 4)
  have hgs : psum g 4 = f 4 + f 5 * W + f 6 * W ^ 2 + f 7 * W ^ 3 := by simp [psum, g, Int.pow_succ]
  have hhi := psum_bd hg 4
  rw [← hgs, hn, W4_M] at h8
  rw [W4_M] at hlo hhi
  have e1 : ((n % M : Nat) : Int) = psum f 4 := by
    rw [Int.natCast_emod, h8, Int.add_mul_emod_self_left, Int.emod_eq_of_lt hlo.1 hlo.2]
  have e2 : ((n / M : Nat) : Int) = psum g 4 := by
    rw [Int.natCast_ediv, h8, Int.add_mul_ediv_left _ _ (by unfold M; decide), Int.ediv_eq_zero_of_lt hlo.1 hlo.2, Int.zero_add]
  exact ⟨IsW.of hf e1, IsW.of hg e2⟩
theorem psum_all {a0 a1 a2 a3 : Int} {a : Nat} (h : IsW a0 a1 a2 a3 a) : psum (sel4 a0 a1 a2 a3) 4 = a := h.val.symm
theorem row8 {w : World} {g t : Nat} {f : Nat → Int} (h : Row w g t (arr .u64 f 8)) : w.cell? ⟨g, 0, none⟩ = some (.int .u64 (f 0)) ∧ w.cell? ⟨g, 1, none⟩ = some (.int .u64 (f 1)) ∧ w.cell? ⟨g, 2, none⟩ = some (.int .u64 (f 2)) ∧ w.cell? ⟨g, 3, none⟩ = some (.int .u64 (f 3)) ∧
    w.cell? ⟨g, 4, none⟩ = some (.int .u64 (f 4)) ∧ w.cell? ⟨g, 5, none⟩ = some (.int .u64 (f 5)) ∧ w.cell? ⟨g, 6, none⟩ = some (.int .u64 (f 6)) ∧ w.cell? ⟨g, 7, none⟩ = some (.int .u64 (f 7)) :=
  ⟨h.at_ 0 (by omega), h.at_ 1 (by omega), h.at_ 2 (by omega), h.at_ 3 (by omega), h.at_ 4 (by omega), h.at_ 5 (by omega), h.at_ 6 (by omega), h.at_ 7 (by omega)⟩
/-- a word of a value of four -/
theorem run_index4 (x0 x1 x2 x3 : Int) : ∀ (i : Nat) (_ : i < 4) (w : World), (Instr.index 31 (.agg #[.int .u64 x0, .int .u64 x1, .int .u64 x2, .int .u64 x3]) (.int .i64 (i : Int))).run Try.prog w = .ok (.int .u64 (sel4 x0 x1 x2 x3 i)) w
  | 0, _, w => by kernel_rfl
  | 1, _, w => by kernel_rfl
  | 2, _, w => by kernel_rfl
  | 3, _, w => by kernel_rfl
  | i + 4, h, _ => absurd h (by omega)

set_option maxRecDepth 100000 in
set_option maxHeartbeats 4000000 in
theorem mmul_any (a0 a1 a2 a3 b0 b1 b2 b3 : Int) (a b : Nat) (ha : IsW a0 a1 a2 a3 a) (hb : IsW b0 b1 b2 b3 b) (w : World) :
    Calls Try.prog 89 #[.agg #[.int .u64 a0, .int .u64 a1, .int .u64 a2, .int .u64 a3], .agg #[.int .u64 b0, .int .u64 b1, .int .u64 b2, .int .u64 b3]] w (Ret w (.agg (W8 (a * b / M) (a * b % M)))) := by
  have at31 := fun p c wx => run_arrayAt (t := 31) Try.underlying31 p c wx
  go_enter Try.func89, Try.ntmps89
  go_wp2_with fail
  go_loopg [15] 4 (fun g c wr => ∃ (i : Nat) (f : Nat → Int), i + g = 4 ∧ c = .int .i64 (i : Int) ∧ w.heap.size + 1 + 1 + 1 < wr.heap.size ∧ Below w.heap.size w wr ∧ Row wr (w.heap.size + 1) 31 (arr .u64 (sel4 b0 b1 b2 b3) 4) ∧ Row wr (w.heap.size + 1 + 1) 92 (arr .u64 (fun _ => 0) 8) ∧ Row wr (w.heap.size + 1 + 1 + 1) 182 (arr .u64 f 8) ∧ MulInv f (sel4 a0 a1 a2 a3) (sel4 b0 b1 b2 b3) i)
  case atStart =>
    refine ⟨0, _, by omega, rfl, by simp, by go_grown, ?_, ?_, ?_, MulInv.zero _ _⟩ <;> repeat (first | (refine Row.new_at ?_; simp; done) | refine Row.alloc ?_ _)
  case round =>
    obtain ⟨i, f, hi, rfl, hz, hl2, rb2, rr2, ro2, inv⟩ := hrel
    obtain ⟨wo, rfl⟩ : ∃ wo : World, wo = wr := ⟨_, rfl⟩
    obtain ⟨g1, rfl⟩ : ∃ g1 : Nat, g1 = gk := ⟨_, rfl⟩
    by_cases hlt : i < 4
    · have hdi : decide ((i : Int) < 4) = true := decide_eq_true (by omega)
      have ia := fun wx => run_index4 a0 a1 a2 a3 i hlt wx
      obtain ⟨⟨c0, c1, c2, c3⟩, _⟩ := rb2.four4
      have H2 := Lib.hid (show _ ∧ _ ∧ _ ∧ _ from ⟨rb2, rr2, ro2, inv⟩)
      clear rb2 rr2 ro2 inv
      go_wp2_with fail
      go_loopg [8, 20] 4 (fun g c jv wi => ∃ (j : Nat) (f : Nat → Int) (C : Int), j + g = 4 ∧ jv = .int .i64 (j : Int) ∧ c = .int .u64 C ∧ w.heap.size + 1 + 1 + 1 < wi.heap.size ∧ Below w.heap.size w wi ∧ Row wi (w.heap.size + 1) 31 (arr .u64 (sel4 b0 b1 b2 b3) 4) ∧ Row wi (w.heap.size + 1 + 1) 92 (arr .u64 (fun _ => 0) 8) ∧ Row wi (w.heap.size + 1 + 1 + 1) 182 (arr .u64 f 8) ∧ MulMid f C (sel4 a0 a1 a2 a3) (sel4 b0 b1 b2 b3) i j)
      case atStart =>
        obtain ⟨rb2, rr2, ro2, inv⟩ := H2.out
        exact ⟨0, f, 0, by omega, rfl, rfl, hz, hl2, rb2, rr2, ro2, inv.mid⟩
      case round =>
        obtain ⟨j, f', C, hj, rfl, rfl, hz3, hl3, rb3, rr3, ro3, mid⟩ := hrel
        by_cases hlj : j < 4
        · have ib := fun wx => run_index4 b0 b1 b2 b3 j hlj wx
          have co := ro3.at_ (i + j) (by omega)
          have fo := ro3.frozen (i + j)
          have wa := ha.wordy i
          have wb := hb.wordy j
          have wf := mid.1 (i + j)
          have hC0 := mid.2.2.1
          have hC1 := mid.2.2.2.1
          have st := Lib.hid (mul_step _ _ _ _ wa wb wf ⟨hC0, hC1⟩)
          have H3 := Lib.hid (show _ ∧ _ ∧ _ ∧ _ from ⟨rb3, rr3, ro3, mid⟩)
          clear rb3 rr3 ro3 mid
          go_wp2_with fail
          refine (product_any _ _ _ wa wb).mono ?_
          rintro e w' ⟨rfl, rfl⟩
          go_wp2_with fail
          refine (carry_any _ _ _ _ (pL_bd _ _) wf (by omega)).mono ?_
          rintro e w' ⟨rfl, rfl⟩
          go_wp2_with fail
          refine (carry_any _ _ _ _ (cS_bd _ _ _) ⟨hC0, hC1⟩ (by omega)).mono ?_
          rintro e w' ⟨rfl, rfl⟩
          go_wp2_with fail
          go_roundg (gk - 1)
          case measure => omega
          case rel =>
            obtain ⟨rb3, rr3, ro3, mid⟩ := H3.out
            have hs := st.out
            rw [hs.1, hs.2.1]
            refine ⟨j + 1, _, _, by omega, by go_num, rfl, by simp; omega, hl3.setCell (by dsimp only; omega) _, rb3.far (by dsimp only; omega) _, rr3.far (by dsimp only; omega) _, ro3.put (i + j) (by omega) _, mid.step ha.wordy hb.wordy hlj⟩
        · obtain rfl : j = 4 := by omega
          have ci := ro3.at_ (i + 4) (by omega)
          have fi := ro3.frozen (i + 4)
          have H3 := Lib.hid (show _ ∧ _ ∧ _ ∧ _ from ⟨rb3, rr3, ro3, mid⟩)
          clear rb3 rr3 ro3 mid hlj
          go_wp2_with fail
          go_roundg (g1 - 1)
          case measure => omega
          case rel =>
            obtain ⟨rb3, rr3, ro3, mid⟩ := H3.out
            exact ⟨i + 1, _, by omega, by go_num, by simp; omega, hl3.setCell (by dsimp only; omega) _, rb3.far (by dsimp only; omega) _, rr3.far (by dsimp only; omega) _, ro3.put (i + 4) (by omega) _, mid.done⟩
    · obtain rfl : i = 4 := by omega
      have hfin : psum f 8 = ((a * b : Nat) : Int) := by
        have h := inv.2.2
        rw [psum_all ha, psum_all hb] at h
        rw [h]; simp
      obtain ⟨hlo, hhi⟩ := halves inv.1 hfin
      have o0 := ro2.at_ 0 (by omega)
      have o1 := ro2.at_ 1 (by omega)
      have o2 := ro2.at_ 2 (by omega)
      have o3 := ro2.at_ 3 (by omega)
      have o4 := ro2.at_ 4 (by omega)
      have o5 := ro2.at_ 5 (by omega)
      have o6 := ro2.at_ 6 (by omega)
      have o7 := ro2.at_ 7 (by omega)
      clear hfin inv
      go_wp2_with fail
      refine wp_abs (Mem w [(w.heap.size + 1 + 1, 92, arr .u64 (fun _ => 0) 8), (w.heap.size + 1 + 1 + 1, 182, arr .u64 f 8)]) ⟨hl2, rr2, ro2, trivial⟩ ?_
      intro W0 hM
      obtain ⟨hl, rr, ro, -⟩ := hM
      clear o0 o1 o2 o3 o4 o5 o6 o7 rr2 ro2 rb2
      have rrlt := rr.lt
      let L : List Sp := [sO 7 (w.heap.size + 1 + 1) 92 [6] (fun g => aggOf g 6)]
      refine wp_region_six (shs L) (look6 L) (fun c => c = w.heap.size + 1 + 1) (by kernel_rfl) (by kernel_rfl) (mk_St L [7] [7] (by kernel_rfl) (by kernel_rfl) ⟨ok_O aggOf_congr rrlt (rfl), trivial⟩ (by simp)) ?_
      intro QQ hQ
      -- 0: slice<182> t5[4::]
      refine stepK rfl (by kernel_rfl) (fun K hK => ?_); go_simp
      apply Exists.intro; apply And.intro; (focus (intro wk hk; obtain ⟨o0, o1, o2, o3, o4, o5, o6, o7⟩ := row8 (K6.Row.tr (w := W0) ro hk.undrew id); go_simp; exact ⟨rfl, rfl⟩)); refine hK _ _ ?_; clear hK K
      -- 1: s2ap<31> t62
      refine stepK rfl (by kernel_rfl) (fun K hK => ?_); go_simp
      apply Exists.intro; apply And.intro; (focus (intro wk hk; obtain ⟨o0, o1, o2, o3, o4, o5, o6, o7⟩ := row8 (K6.Row.tr (w := W0) ro hk.undrew id); go_simp; exact ⟨rfl, rfl⟩)); refine hK _ _ ?_; clear hK K
      -- 2: load<31> *t63
      refine stepK rfl (by kernel_rfl) (fun K hK => ?_); go_simp
      apply Exists.intro; apply And.intro; (focus (intro wk hk; obtain ⟨o0, o1, o2, o3, o4, o5, o6, o7⟩ := row8 (K6.Row.tr (w := W0) ro hk.undrew id); go_simp; exact ⟨rfl, rfl⟩)); refine hK _ _ ?_; clear hK K
      -- 3: slice<182> t5[:4:]
      refine stepK rfl (by kernel_rfl) (fun K hK => ?_); go_simp
      apply Exists.intro; apply And.intro; (focus (intro wk hk; obtain ⟨o0, o1, o2, o3, o4, o5, o6, o7⟩ := row8 (K6.Row.tr (w := W0) ro hk.undrew id); go_simp; exact ⟨rfl, rfl⟩)); refine hK _ _ ?_; clear hK K
      -- 4: s2ap<31> t65
      refine stepK rfl (by kernel_rfl) (fun K hK => ?_); go_simp
      apply Exists.intro; apply And.intro; (focus (intro wk hk; obtain ⟨o0, o1, o2, o3, o4, o5, o6, o7⟩ := row8 (K6.Row.tr (w := W0) ro hk.undrew id); go_simp; exact ⟨rfl, rfl⟩)); refine hK _ _ ?_; clear hK K
      -- 5: load<31> *t66
      refine stepK rfl (by kernel_rfl) (fun K hK => ?_); go_simp
      apply Exists.intro; apply And.intro; (focus (intro wk hk; obtain ⟨o0, o1, o2, o3, o4, o5, o6, o7⟩ := row8 (K6.Row.tr (w := W0) ro hk.undrew id); go_simp; exact ⟨rfl, rfl⟩)); refine hK _ _ ?_; clear hK K
      -- 6: build<92> 0:t64, 1:t67
      refine stepK rfl (by kernel_rfl) (fun K hK => ?_); go_simp
      apply Exists.intro; apply And.intro; (focus (intro wk hk; go_simp; exact ⟨rfl, rfl⟩)); refine hK _ _ ?_; clear hK K
      -- 7: store<92> *t4 = t68
      refine stepS _ rfl (by kernel_rfl) (fun K hK => ?_); go_simp
      refine ⟨?_, ?_⟩
      · exact sStoreO rfl rfl rfl rfl rfl rfl rr id (by kernel_rfl) rfl (by kernel_rfl) (by decide) aggOf_congr
      rintro ⟨v7, lo7, hi7⟩ - - (rfl : v7 = undef)
      refine hK _ _ ?_; clear hK K
      refine stepN ?_
      refine hQ _ _ ?_
      intro w9 hT hG hF
      have hT' := hT.undrew
      have z5 := hl.size
      have rw9 : Row w9 (w.heap.size + 1 + 1) 92 (W8 (a * b / M) (a * b % M)) := (show Row w9 (w.heap.size + 1 + 1) 92 _ from hF 7 _ rfl rfl (by decide)).congr (W8_eq hhi hlo)
      have hl9 : Below w.heap.size w w9 := hl.trans (hT'.below_of z5 (by intro c hc; omega))
      clear hT hT' hG hF hl rr ro hQ QQ L
      go_wp2_with fail
      exact bodyPost_ret (results_c rfl aggT92 rfl rw9 rfl) rfl ⟨rfl, hl9⟩
theorem mmulU {a b : Nat} (ha : a < M) (hb : b < M) (w : World) : Calls Try.prog 89 #[.agg (W4 a), .agg (W4 b)] w (Ret w (.agg (W8 (a * b / M) (a * b % M)))) :=
  mmul_any _ _ _ _ _ _ _ _ a b (wordsOf_isW a ha) (wordsOf_isW b hb) w
end Go.Proofs.Ytpdenhmkpiafiaa
