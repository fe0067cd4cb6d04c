/-
  u256.Text: a number as a text in digits of ten.
-/
import Derived.Test.YtpdenhmkpiafiaaFrom
import Derived.Laws.BytesArg
namespace Go.Proofs.Ytpdenhmkpiafiaa
open Go Go.RowKit

/-- digit k of a number, the least first, as a letter -/
def dgN (a k : Nat) : Nat := 48 + a / 10 ^ k % 10
theorem dgN_bd (a k : Nat) : 48 ≤ dgN a k ∧ dgN a k ≤ 57 := by unfold dgN; omega
/-- j digits of a number, as letters, the greatest first -/
def decs (a j : Nat) : List Int := (List.range j).map fun i => ((dgN a (j - 1 - i) : Nat) : Int)
/-- the field that is filled from its end -/
def outF (a j : Nat) : Nat → Int := fun i => if 78 - j ≤ i then ((dgN a (77 - i) : Nat) : Int) else 0
theorem outF_step (a j : Nat) (hj : j < 78) : upd (outF a j) (77 - j) ((dgN a j : Nat) : Int) = outF a (j + 1) := by
  funext i
  unfold upd outF
  by_cases e : i = 77 - j
  · rw [if_pos e, if_pos (by omega), e, show 77 - (77 - j) = j by omega]
  · rw [if_neg e]
    by_cases h : 78 - j ≤ i
    · rw [if_pos h, if_pos (by omega)]
    · rw [if_neg h, if_neg (by omega)]
/-- a number's text, with as many digits as it wants -/
def Txt (w : World) (a : Nat) (e : Ending) (w' : World) : Prop :=
  ∃ j, 1 ≤ j ∧ j ≤ 78 ∧ a / 10 ^ j = 0 ∧ (j = 1 ∨ a / 10 ^ (j - 1) ≠ 0) ∧ e = .returned (.string (strOfNums (decs a j))) ∧ Below w.heap.size w w'
theorem pow77 : M ≤ 10 ^ 78 := by decide
theorem conv_out (a j : Nat) (hj : j ≤ 78) (w : World) (g c : Nat) (hr : Row w g 180 (arr .u8 (outF a j) 78)) :
    (convert 33 9 (.slice (some ⟨g, 78 - j, none⟩) j c)).run Try.prog w = .ok (.string (strOfNums (decs a j))) w :=
  run_convert_bytes_arg w 33 5 Try.underlying33 Try.underlying5 g (78 - j) j c (decs a j) (by simp [decs]) (fun i hi => by
    rw [hr.at_ (78 - j + i) (by omega)]
    unfold outF decs
    rw [if_pos (by omega)]
    simp [hi, show 77 - (78 - j + i) = j - 1 - i by omega]) 9 Try.underlying9

theorem arr_congr {k : IntKind} {f g : Nat → Int} {L : Nat} (h : ∀ i, i < L → f i = g i) : arr k f L = arr k g L := by
  unfold arr
  congr 1
  exact List.map_congr_left fun i hi => by rw [h i (List.mem_range.1 hi)]
set_option maxRecDepth 100000 in
set_option maxHeartbeats 2000000 in
theorem text_any (a0 a1 a2 a3 : Int) (a : Nat) (ha : IsW a0 a1 a2 a3 a) (w : World) :
    Calls Try.prog 84 #[.agg #[.int .u64 a0, .int .u64 a1, .int .u64 a2, .int .u64 a3]] w (Txt w a) := by
  have q31 := eq31
  go_enter Try.func84, Try.ntmps84
  go_wp2_with fail
  go_loopg [4] 78 (fun gg at_ wr => ∃ (j k : Nat) (x0 x1 x2 x3 : Int), j + gg = 78 ∧ j + k = 78 ∧ at_ = .int .i64 (k : Int) ∧ (j = 0 ∨ a / 10 ^ j ≠ 0) ∧ IsW x0 x1 x2 x3 (a / 10 ^ j) ∧
     Below w.heap.size w wr ∧ Row wr w.heap.size 31 (arr .u64 (sel4 x0 x1 x2 x3) 4) ∧ Row wr (w.heap.size + 1) 180 (arr .u8 (outF a j) 78))
  case atStart =>
    refine ⟨0, 78, a0, a1, a2, a3, by omega, by omega, rfl, Or.inl rfl, by simpa using ha, by go_grown, ?_, ?_⟩
    · repeat (first | (refine Row.new_at ?_; simp; done) | refine Row.alloc ?_ _)
    · refine Row.congr (cs := arr .u8 (fun _ => 0) 78) ?_ (arr_congr fun i hi => by unfold outF; rw [if_neg (by omega)])
      repeat (first | (refine Row.new_at ?_; simp; done) | refine Row.alloc ?_ _)
  case round =>
    obtain ⟨j, k, x0, x1, x2, x3, hj, hjk, rfl, hnz, hx, hl, ra, ro⟩ := hrel
    have hlt : j < 78 := by
      rcases hnz with h | h
      · omega
      · refine Nat.lt_of_not_le fun h78 => h (Nat.div_eq_of_lt ?_)
        exact Nat.lt_of_lt_of_le ha.ltM (Nat.le_trans pow77 (Nat.pow_le_pow_right (by decide) h78))
    obtain ⟨k, rfl⟩ : ∃ k', k = k' + 1 := ⟨k - 1, by omega⟩
    have hk : k < 78 := by omega
    obtain ⟨⟨c0, c1, c2, c3⟩, f0, f1, f2, f3⟩ := ra.four4
    have S := Lib.hid (show _ ∧ _ ∧ _ ∧ _ ∧ _ from ⟨ra, ro, hnz, hj, hjk⟩)
    clear ra ro
    go_wp2_with fail
    refine (small_any x0 x1 x2 x3 10 (a / 10 ^ j) 10 hx rfl (by decide) (by decide) _).mono ?_
    rintro e w1 ⟨y0, y1, y2, y3, rfl, hy, hb1⟩
    obtain ⟨ra, ro, hnz, hj, hjk⟩ := S.out
    clear c0 c1 c2 c3 f0 f1 f2 f3 S
    have hl1 : Below w.heap.size w w1 := Below.trans hl (hb1.mono hl.size)
    have ra1 := ra.below hb1 ra.lt
    have ro1 := ro.below hb1 ro.lt
    rw [Nat.div_div_eq_div_mul, ← Nat.pow_succ] at hy
    obtain ⟨⟨c0, c1, c2, c3⟩, f0, f1, f2, f3⟩ := ra1.four4
    have al2 : k ≤ 78 := by omega
    have al3 : (k : Int) ≤ 78 := by omega
    have co := ro1.at_ k (by omega)
    have al : (k : Int) ≤ (Try.prog.arrayLen 180 : Int) := by rw [show Try.prog.arrayLen 180 = 78 from by kernel_rfl]; omega
    have fo := ro1.frozen k
    have hd := dgN_bd a j
    have ed : ((a / 10 ^ j % 10 : Nat) : Int) = ((dgN a j : Nat) : Int) - 48 := by unfold dgN; omega
    have ew : IntKind.u64.wrap (48 + ((a / 10 ^ j % 10 : Nat) : Int)) = ((dgN a j : Nat) : Int) := by rw [IntKind.wrap_u64]; unfold dgN; omega
    have eb : IntKind.u8.wrap ((dgN a j : Nat) : Int) = ((dgN a j : Nat) : Int) := by rw [IntKind.wrap_u8']; omega
    have S := Lib.hid (show _ ∧ _ ∧ _ ∧ _ ∧ _ ∧ _ ∧ _ from ⟨ra1, ro1, hnz, hj, hjk, hl, ed⟩)
    clear ra ro ra1 ro1 hl hb1 hx ed
    generalize hD : ((a / 10 ^ j % 10 : Nat) : Int) = D at ew
    by_cases hz : a / 10 ^ (j + 1) = 0
    · obtain ⟨rfl, rfl, rfl, rfl⟩ := hy.zero_iff.1 hz
      have hq : ∀ wx, (Op.equalIn 10000 31 (.agg #[.int .u64 0, .int .u64 0, .int .u64 0, .int .u64 0]) (.agg #[.int .u64 0, .int .u64 0, .int .u64 0, .int .u64 0])).run Try.prog wx = .ok true wx := fun wx => by rw [q31]; simp
      clear q31
      have hc : (convert 33 9 (.slice (some ⟨w.heap.size + 1, k, none⟩) (78 - k) (78 - k))).run Try.prog (((((w1.setCell ⟨w.heap.size, 0, none⟩ (.int .u64 0)).setCell ⟨w.heap.size, 1, none⟩ (.int .u64 0)).setCell ⟨w.heap.size, 2, none⟩ (.int .u64 0)).setCell ⟨w.heap.size, 3, none⟩ (.int .u64 0)).setCell ⟨w.heap.size + 1, k, none⟩ (.int .u8 ((dgN a j : Nat) : Int))) = .ok (.string (strOfNums (decs a (j + 1)))) (((((w1.setCell ⟨w.heap.size, 0, none⟩ (.int .u64 0)).setCell ⟨w.heap.size, 1, none⟩ (.int .u64 0)).setCell ⟨w.heap.size, 2, none⟩ (.int .u64 0)).setCell ⟨w.heap.size, 3, none⟩ (.int .u64 0)).setCell ⟨w.heap.size + 1, k, none⟩ (.int .u8 ((dgN a j : Nat) : Int))) := by
        obtain ⟨ra1, ro1, hnz, hj, hjk, hl, ed⟩ := S.out
        have := conv_out a (j + 1) (by omega) (((((w1.setCell ⟨w.heap.size, 0, none⟩ (.int .u64 0)).setCell ⟨w.heap.size, 1, none⟩ (.int .u64 0)).setCell ⟨w.heap.size, 2, none⟩ (.int .u64 0)).setCell ⟨w.heap.size, 3, none⟩ (.int .u64 0)).setCell ⟨w.heap.size + 1, k, none⟩ (.int .u8 ((dgN a j : Nat) : Int))) (w.heap.size + 1) (78 - k) (((ro1.far4 (by omega) _ _ _ _).put k hk _).congr (by rw [← outF_step a j (by omega), show 77 - j = k by omega]))
        rw [show 78 - (j + 1) = k by omega, show j + 1 = 78 - k by omega] at this
        rw [show j + 1 = 78 - k by omega]
        exact this
      go_wp2_with fail
      go_ret
      obtain ⟨ra1, ro1, hnz, hj, hjk, hl, ed⟩ := S.out
      have hn2 : j + 1 = 1 ∨ a / 10 ^ (j + 1 - 1) ≠ 0 := by
        rcases hnz with h | h
        · exact Or.inl (by omega)
        · exact Or.inr (by simpa using h)
      exact ⟨j + 1, by omega, by omega, hz, hn2, rfl, by go_grown⟩
    · have hq : ∀ wx, (Op.equalIn 10000 31 (.agg #[.int .u64 y0, .int .u64 y1, .int .u64 y2, .int .u64 y3]) (.agg #[.int .u64 0, .int .u64 0, .int .u64 0, .int .u64 0])).run Try.prog wx = .ok false wx := fun wx => by
        rw [q31, hy.nonzero hz]
      clear q31
      go_wp2_with fail
      go_roundg (gk - 1)
      case measure =>
        obtain ⟨ra1, ro1, hnz, hj, hjk, hl, ed⟩ := S.out
        omega
      case rel =>
        obtain ⟨ra1, ro1, hnz, hj, hjk, hl, ed⟩ := S.out
        refine ⟨j + 1, k, y0, y1, y2, y3, by omega, by omega, rfl, Or.inr hz, hy, by go_grown, ?_, ?_⟩
        · exact (ra1.store4 rfl _ _ _ _).far (by dsimp only; omega) _
        · refine ((ro1.far4 (by omega) _ _ _ _).put k hk _).congr ?_
          rw [← outF_step a j (by omega), show 77 - j = k by omega]
end Go.Proofs.Ytpdenhmkpiafiaa
