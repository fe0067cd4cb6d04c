/-
  u256.Text, Parse, lives; the frame of the rows; numbers by W4.
-/
import Derived.Test.YtpdenhmkpiafiaaGC
import Derived.Laws.BytesArg
import Derived.Deep.DeepCutAuto
import Derived.Test.YtpdenhmkpiafiaaGD
import Derived.Test.YtpdenhmkpiafiaaRows
import Derived.Test.YtpdenhmkpiafiaaGA
import Derived.ProofKit
import Derived.Lib.SmallJoins
import Derived.Laws.IdiomArrays
import Derived.OpenShut

/-! Text: u256.Text: a number as a text in digits of ten. -/
namespace Go.Proofs.Ytpdenhmkpiafiaa
open Go Go.RowKit

/-- digit k of a number, the least first, as a letter -/
def dgN (a k : Nat) : Nat := 48 + a / 10 ^ k % 10
theorem dgN_bd (a k : Nat) : 48 ≤ dgN a k ∧ dgN a k ≤ 57 := by unfold dgN; omega
/-- j digits of a number, as letters, the greatest first -/
def decs (a j : Nat) : List Int := (List.range j).map fun i => ((dgN a (j - 1 - i) : Nat) : Int)
/-- the field that is filled from its end -/
def outF (a j : Nat) : Nat → Int := fun i => if 78 - j ≤ i then ((dgN a (77 - i) : Nat) : Int) else 0
theorem outF_step (a j : Nat) (hj : j < 78) : upd (outF a j) (77 - j) ((dgN a j : Nat) : Int) = outF a (j + 1) := by
  funext i
  unfold upd outF
  by_cases e : i = 77 - j
  · rw [if_pos e, if_pos (by omega), e, show 77 - (77 - j) = j by omega]
  · rw [if_neg e]
    by_cases h : 78 - j ≤ i
    · rw [if_pos h, if_pos (by omega)]
    · rw [if_neg h, if_neg (by omega)]
/-- a number's text, with as many digits as it wants -/
def Txt (w : World) (a : Nat) (e : Ending) (w' : World) : Prop :=
  ∃ j, 1 ≤ j ∧ j ≤ 78 ∧ a / 10 ^ j = 0 ∧ (j = 1 ∨ a / 10 ^ (j - 1) ≠ 0) ∧ e = .returned (.string (strOfNums (decs a j))) ∧ Below w.heap.size w w'
theorem pow77 : M ≤ 10 ^ 78 := by decide
theorem conv_out (a j : Nat) (hj : j ≤ 78) (w : World) (g c : Nat) (hr : Row w g 180 (arr .u8 (outF a j) 78)) :
    (convert 33 9 (.slice (some ⟨g, 78 - j, none⟩) j c)).run Try.prog w = .ok (.string (strOfNums (decs a j))) w :=
  run_convert_bytes_arg w 33 5 Try.underlying33 Try.underlying5 g (78 - j) j c (decs a j) (by simp [decs]) (fun i hi => by
    rw [hr.at_ (78 - j + i) (by omega)]
    unfold outF decs
    rw [if_pos (by omega)]
    simp [hi, show 77 - (78 - j + i) = j - 1 - i by omega]) 9 Try.underlying9

theorem arr_congr {k : IntKind} {f g : Nat → Int} {L : Nat} (h : ∀ i, i < L → f i = g i) : arr k f L = arr k g L := by
  unfold arr
  congr 1
  exact List.map_congr_left fun i hi => by rw [h i (List.mem_range.1 hi)]
set_option maxRecDepth 100000 in
set_option maxHeartbeats 2000000 in
theorem text_any (a0 a1 a2 a3 : Int) (a : Nat) (ha : IsW a0 a1 a2 a3 a) (w : World) :
    Calls Try.prog 84 #[.agg #[.int .u64 a0, .int .u64 a1, .int .u64 a2, .int .u64 a3]] w (Txt w a) := by
  have q31 := eq31
  go_enter Try.func84, Try.ntmps84
  go_wp2_with fail
  go_loopg [4] 78 (fun gg at_ wr => ∃ (j k : Nat) (x0 x1 x2 x3 : Int), j + gg = 78 ∧ j + k = 78 ∧ at_ = .int .i64 (k : Int) ∧ (j = 0 ∨ a / 10 ^ j ≠ 0) ∧ IsW x0 x1 x2 x3 (a / 10 ^ j) ∧
     Below w.heap.size w wr ∧ Row wr w.heap.size 31 (arr .u64 (sel4 x0 x1 x2 x3) 4) ∧ Row wr (w.heap.size + 1) 180 (arr .u8 (outF a j) 78))
  case atStart =>
    refine ⟨0, 78, a0, a1, a2, a3, by omega, by omega, rfl, Or.inl rfl, by simpa using ha, by go_grown, ?_, ?_⟩
    · repeat (first | (refine Row.new_at ?_; simp; done) | refine Row.alloc ?_ _)
    · refine Row.congr (cs := arr .u8 (fun _ => 0) 78) ?_ (arr_congr fun i hi => by unfold outF; rw [if_neg (by omega)])
      repeat (first | (refine Row.new_at ?_; simp; done) | refine Row.alloc ?_ _)
  case round =>
    obtain ⟨j, k, x0, x1, x2, x3, hj, hjk, rfl, hnz, hx, hl, ra, ro⟩ := hrel
    have hlt : j < 78 := by
      rcases hnz with h | h
      · omega
      · refine Nat.lt_of_not_le fun h78 => h (Nat.div_eq_of_lt ?_)
        exact Nat.lt_of_lt_of_le ha.ltM (Nat.le_trans pow77 (Nat.pow_le_pow_right (by decide) h78))
    obtain ⟨k, rfl⟩ : ∃ k', k = k' + 1 := ⟨k - 1, by omega⟩
    have hk : k < 78 := by omega
    obtain ⟨⟨c0, c1, c2, c3⟩, f0, f1, f2, f3⟩ := ra.four4
    have S := Lib.hid (show _ ∧ _ ∧ _ ∧ _ ∧ _ from ⟨ra, ro, hnz, hj, hjk⟩)
    clear ra ro
    go_wp2_with fail
    refine (small_any x0 x1 x2 x3 10 (a / 10 ^ j) 10 hx rfl (by decide) (by decide) _).mono ?_
    rintro e w1 ⟨y0, y1, y2, y3, rfl, hy, hb1⟩
    obtain ⟨ra, ro, hnz, hj, hjk⟩ := S.out
    clear c0 c1 c2 c3 f0 f1 f2 f3 S
    have hl1 : Below w.heap.size w w1 := Below.trans hl (hb1.mono hl.size)
    have ra1 := ra.below hb1 ra.lt
    have ro1 := ro.below hb1 ro.lt
    rw [Nat.div_div_eq_div_mul, ← Nat.pow_succ] at hy
    obtain ⟨⟨c0, c1, c2, c3⟩, f0, f1, f2, f3⟩ := ra1.four4
    have al2 : k ≤ 78 := by omega
    have al3 : (k : Int) ≤ 78 := by omega
    have co := ro1.at_ k (by omega)
    have al : (k : Int) ≤ (Try.prog.arrayLen 180 : Int) := by rw [show Try.prog.arrayLen 180 = 78 from by kernel_rfl]; omega
    have fo := ro1.frozen k
    have hd := dgN_bd a j
    have ed : ((a / 10 ^ j % 10 : Nat) : Int) = ((dgN a j : Nat) : Int) - 48 := by unfold dgN; omega
    have ew : IntKind.u64.wrap (48 + ((a / 10 ^ j % 10 : Nat) : Int)) = ((dgN a j : Nat) : Int) := by rw [IntKind.wrap_u64]; unfold dgN; omega
    have eb : IntKind.u8.wrap ((dgN a j : Nat) : Int) = ((dgN a j : Nat) : Int) := by rw [IntKind.wrap_u8']; omega
    have S := Lib.hid (show _ ∧ _ ∧ _ ∧ _ ∧ _ ∧ _ ∧ _ from ⟨ra1, ro1, hnz, hj, hjk, hl, ed⟩)
    clear ra ro ra1 ro1 hl hb1 hx ed
    generalize hD : ((a / 10 ^ j % 10 : Nat) : Int) = D at ew
    by_cases hz : a / 10 ^ (j + 1) = 0
    · obtain ⟨rfl, rfl, rfl, rfl⟩ := hy.zero_iff.1 hz
      have hq : ∀ wx, (Op.equalIn 10000 31 (.agg #[.int .u64 0, .int .u64 0, .int .u64 0, .int .u64 0]) (.agg #[.int .u64 0, .int .u64 0, .int .u64 0, .int .u64 0])).run Try.prog wx = .ok true wx := fun wx => by rw [q31]; simp
      clear q31
      have hc : (convert 33 9 (.slice (some ⟨w.heap.size + 1, k, none⟩) (78 - k) (78 - k))).run Try.prog (((((w1.setCell ⟨w.heap.size, 0, none⟩ (.int .u64 0)).setCell ⟨w.heap.size, 1, none⟩ (.int .u64 0)).setCell ⟨w.heap.size, 2, none⟩ (.int .u64 0)).setCell ⟨w.heap.size, 3, none⟩ (.int .u64 0)).setCell ⟨w.heap.size + 1, k, none⟩ (.int .u8 ((dgN a j : Nat) : Int))) = .ok (.string (strOfNums (decs a (j + 1)))) (((((w1.setCell ⟨w.heap.size, 0, none⟩ (.int .u64 0)).setCell ⟨w.heap.size, 1, none⟩ (.int .u64 0)).setCell ⟨w.heap.size, 2, none⟩ (.int .u64 0)).setCell ⟨w.heap.size, 3, none⟩ (.int .u64 0)).setCell ⟨w.heap.size + 1, k, none⟩ (.int .u8 ((dgN a j : Nat) : Int))) := by
        obtain ⟨ra1, ro1, hnz, hj, hjk, hl, ed⟩ := S.out
        have := conv_out a (j + 1) (by omega) (((((w1.setCell ⟨w.heap.size, 0, none⟩ (.int .u64 0)).setCell ⟨w.heap.size, 1, none⟩ (.int .u64 0)).setCell ⟨w.heap.size, 2, none⟩ (.int .u64 0)).setCell ⟨w.heap.size, 3, none⟩ (.int .u64 0)).setCell ⟨w.heap.size + 1, k, none⟩ (.int .u8 ((dgN a j : Nat) : Int))) (w.heap.size + 1) (78 - k) (((ro1.far4 (by omega) _ _ _ _).put k hk _).congr (by rw [← outF_step a j (by omega), show 77 - j = k by omega]))
        rw [show 78 - (j + 1) = k by omega, show j + 1 = 78 - k by omega] at this
        rw [show j + 1 = 78 - k by omega]
        exact this
      go_wp2_with fail
      go_ret
      obtain ⟨ra1, ro1, hnz, hj, hjk, hl, ed⟩ := S.out
      have hn2 : j + 1 = 1 ∨ a / 10 ^ (j + 1 - 1) ≠ 0 := by
        rcases hnz with h | h
        · exact Or.inl (by omega)
        · exact Or.inr (by simpa using h)
      exact ⟨j + 1, by omega, by omega, hz, hn2, rfl, by go_grown⟩
    · have hq : ∀ wx, (Op.equalIn 10000 31 (.agg #[.int .u64 y0, .int .u64 y1, .int .u64 y2, .int .u64 y3]) (.agg #[.int .u64 0, .int .u64 0, .int .u64 0, .int .u64 0])).run Try.prog wx = .ok false wx := fun wx => by
        rw [q31, hy.nonzero hz]
      clear q31
      go_wp2_with fail
      go_roundg (gk - 1)
      case measure =>
        obtain ⟨ra1, ro1, hnz, hj, hjk, hl, ed⟩ := S.out
        omega
      case rel =>
        obtain ⟨ra1, ro1, hnz, hj, hjk, hl, ed⟩ := S.out
        refine ⟨j + 1, k, y0, y1, y2, y3, by omega, by omega, rfl, Or.inr hz, hy, by go_grown, ?_, ?_⟩
        · exact (ra1.store4 rfl _ _ _ _).far (by dsimp only; omega) _
        · refine ((ro1.far4 (by omega) _ _ _ _).put k hk _).congr ?_
          rw [← outF_step a j (by omega), show 77 - j = k by omega]
end Go.Proofs.Ytpdenhmkpiafiaa

/-! Parse: u256.Parse: the number of a text in digits of ten, or that it is none. -/
namespace Go.Proofs.Ytpdenhmkpiafiaa
open Go Go.RowKit K6

/-- letter i of a text -/
def chr (s : ByteArray) (i : Nat) : Nat := (s.data[i]?.getD 0).toNat
theorem chr_lt (s : ByteArray) (i : Nat) : chr s i < 256 := by unfold chr; exact UInt8.toNat_lt _
/-- the number of the first letters, if they are digits and it is not too great -/
def pAt (s : ByteArray) : Nat → Option Nat
  | 0 => some 0
  | i + 1 => match pAt s i with
    | none => none
    | some v => if 48 ≤ chr s i ∧ chr s i ≤ 57 ∧ v * 10 < M ∧ v * 10 + (chr s i - 48) < M then some (v * 10 + (chr s i - 48)) else none
theorem pAt_none (s : ByteArray) {i : Nat} (h : pAt s i = none) : ∀ k, pAt s (i + k) = none
  | 0 => h
  | k + 1 => by rw [← Nat.add_assoc]; unfold pAt; rw [pAt_none s h k]
def parsN (s : ByteArray) : Option Nat := if s.size = 0 ∨ 78 < s.size ∨ (chr s 0 = 48 ∧ 1 < s.size) then none else pAt s s.size
theorem parsN_bad {s : ByteArray} {i : Nat} (hi : i ≤ s.size) (h : pAt s i = none) : parsN s = none := by
  unfold parsN
  split
  · rfl
  · obtain ⟨k, hk⟩ : ∃ k, s.size = i + k := ⟨s.size - i, by omega⟩
    rw [hk]; exact pAt_none s h k
theorem chr_at (s : ByteArray) (i : Nat) (hi : i < s.size) : s[i].toNat = chr s i := by
  unfold chr
  have h2 : i < s.data.size := hi
  rw [Array.getElem?_eq_getElem h2]
  rfl
theorem toList_len (s : ByteArray) : s.toList.length = s.size := by
  rw [ByteArray.toList_eq]
  exact Array.length_toList
theorem toList_ne {s : ByteArray} (h : s.size ≠ 0) : s.toList.isEmpty = false ∧ s.toList ≠ [] := by
  have : s.toList ≠ [] := by
    intro e
    have he := congrArg List.length e
    rw [toList_len] at he
    exact h he
  exact ⟨by simpa using this, this⟩

set_option maxRecDepth 100000 in
set_option maxHeartbeats 2000000 in
/-- the texts that are none by their length, or by a nought ahead -/
theorem parse_head (s : ByteArray) (hs : s.size = 0 ∨ 78 < s.size ∨ (chr s 0 = 48 ∧ 1 < s.size)) (w : World) : Calls Try.prog 83 #[.string s] w (Pair w 0 false) := by
  have r0 : Row ((w.alloc (.cells #[Value.int .u64 0, Value.int .u64 0, Value.int .u64 0, Value.int .u64 0] 31)).alloc (.cells #[Value.int .u64 0, Value.int .u64 0, Value.int .u64 0, Value.int .u64 0] 31)) w.heap.size 31 #[Value.int .u64 0, Value.int .u64 0, Value.int .u64 0, Value.int .u64 0] := by
    repeat (first | (refine Row.new_at ?_; simp; done) | refine Row.alloc ?_ _)
  by_cases h0 : s.size = 0
  · obtain rfl : s = ⟨#[]⟩ := by
      obtain ⟨d⟩ := s
      exact congrArg _ (Array.eq_empty_of_size_eq_zero h0)
    clear hs
    go_enter Try.func83, Try.ntmps83
    go_wp2_with fail
    all_goals
      refine bodyPost_ret (results_ct rfl aggT31 rfl r0 rfl) rfl ?_
      exact ⟨_, _, _, _, rfl, isW_zero, by go_grown⟩
  · obtain ⟨hE, hE2⟩ := toList_ne h0
    by_cases h1 : 78 < s.size
    · have h2 : (78 : Int) < (s.size : Int) := by omega
      clear hs
      go_enter Try.func83, Try.ntmps83
      go_wp2_with fail
      all_goals
        refine bodyPost_ret (results_ct rfl aggT31 rfl r0 rfl) rfl ?_
        exact ⟨_, _, _, _, rfl, isW_zero, by go_grown⟩
    · have h2 : (s.size : Int) ≤ 78 := by omega
      have h3 : chr s 0 = 48 := by omega
      have h4 : (1 : Int) < (s.size : Int) := by omega
      have h5 : 0 < s.size := by omega
      have h6 : 1 < s.size := by omega
      have h8 : s.size ≤ 78 := by omega
      have h7 := chr_at s 0 h5
      rw [h3] at h7
      clear hs
      go_enter Try.func83, Try.ntmps83
      go_wp2_with fail
      all_goals
        refine bodyPost_ret (results_ct rfl aggT31 rfl r0 rfl) rfl ?_
        exact ⟨_, _, _, _, rfl, isW_zero, by go_grown⟩

theorem head_none (s : ByteArray) (hs : s.size = 0 ∨ 78 < s.size ∨ (chr s 0 = 48 ∧ 1 < s.size)) : parsN s = none := by unfold parsN; rw [if_pos hs]
theorem pAt_bad {s : ByteArray} {i v : Nat} (hv : pAt s i = some v) (h : ¬ (48 ≤ chr s i ∧ chr s i ≤ 57 ∧ v * 10 < M ∧ v * 10 + (chr s i - 48) < M)) : pAt s (i + 1) = none := by
  conv => lhs; unfold pAt
  rw [hv]
  exact if_neg h
theorem pAt_good {s : ByteArray} {i v : Nat} (hv : pAt s i = some v) (h : 48 ≤ chr s i ∧ chr s i ≤ 57 ∧ v * 10 < M ∧ v * 10 + (chr s i - 48) < M) : pAt s (i + 1) = some (v * 10 + (chr s i - 48)) := by
  conv => lhs; unfold pAt
  rw [hv]
  exact if_pos h
theorem pAt_end {s : ByteArray} {i : Nat} (hi : i ≤ s.size) (h : pAt s i = none) : pAt s s.size = none := by
  obtain ⟨k, hk⟩ : ∃ k, s.size = i + k := ⟨s.size - i, by omega⟩
  rw [hk]; exact pAt_none s h k
theorem isW_ten : IsW 10 0 0 0 10 := isW_word (by rfl) (by decide)

set_option maxRecDepth 100000 in
set_option maxHeartbeats 4000000 in
theorem parse_body (s : ByteArray) (h0 : s.size ≠ 0) (h78 : s.size ≤ 78) (hno : chr s 0 ≠ 48 ∨ s.size = 1) (w : World) :
    Calls Try.prog 83 #[.string s] w (Pair w ((pAt s s.size).getD 0) (pAt s s.size).isSome) := by
  obtain ⟨hE, hE2⟩ := toList_ne h0
  have h2 : (s.size : Int) ≤ 78 := by omega
  have h5 : 0 < s.size := by omega
  have h7 := chr_at s 0 h5
  have h10 : ((chr s 0 : Nat) : Int) ≠ 48 ∨ (chr s 0 = 48 ∧ (s.size : Int) ≤ 1) := by omega
  rcases h10 with h11 | ⟨h11, h12⟩
  · have h13 : chr s 0 ≠ 48 := by omega
    clear hno
    go_enter Try.func83, Try.ntmps83
    go_wp2_with fail
    go_loopg [28] s.size (fun gg iv wr => ∃ (i v : Nat) (x0 x1 x2 x3 : Int), i + gg = s.size ∧ iv = .int .i64 (i : Int) ∧ pAt s i = some v ∧ IsW x0 x1 x2 x3 v ∧ w.heap.size + 1 < wr.heap.size ∧ Below w.heap.size w wr ∧
      Row wr w.heap.size 31 (arr .u64 (fun _ => 0) 4) ∧ Row wr (w.heap.size + 1) 31 (arr .u64 (sel4 x0 x1 x2 x3) 4))
    case atStart =>
      refine ⟨0, 0, 0, 0, 0, 0, by omega, rfl, rfl, isW_zero, by simp, by go_grown, ?_, ?_⟩ <;> repeat (first | (refine Row.new_at ?_; simp; done) | refine Row.alloc ?_ _)
    case round =>
      obtain ⟨i, v, x0, x1, x2, x3, hi, rfl, hv, hx, hz, hl, rr, ra⟩ := hrel
      by_cases hlt : i < s.size
      · have hci := chr_at s i hlt
        have hlt2 : (i : Int) < (s.size : Int) := by omega
        have hcl := chr_lt s i
        obtain ⟨⟨c0, c1, c2, c3⟩, _⟩ := ra.four4
        obtain ⟨⟨d0, d1, d2, d3⟩, f0, f1, f2, f3⟩ := rr.four
        have S := Lib.hid (show _ ∧ _ ∧ _ ∧ _ from ⟨rr, ra, hv, hi⟩)
        clear rr ra hv
        by_cases hb : chr s i < 48
        · have hb2 : ((chr s i : Nat) : Int) < 48 := by omega
          go_wp2_with fail
          refine bodyPost_ret (results_ct rfl aggT31 rfl (S.out.1.store4 rfl _ _ _ _) rfl) rfl ?_
          rw [pAt_end (by omega) (pAt_bad S.out.2.2.1 (by omega))]
          exact ⟨_, _, _, _, rfl, isW_zero, by go_grown⟩
        · by_cases hb9 : 57 < chr s i
          · have hb2 : (48 : Int) ≤ ((chr s i : Nat) : Int) := by omega
            have hb3 : (57 : Int) < ((chr s i : Nat) : Int) := by omega
            go_wp2_with fail
            refine bodyPost_ret (results_ct rfl aggT31 rfl (S.out.1.store4 rfl _ _ _ _) rfl) rfl ?_
            rw [pAt_end (by omega) (pAt_bad S.out.2.2.1 (by omega))]
            exact ⟨_, _, _, _, rfl, isW_zero, by go_grown⟩
          · have hb2 : (48 : Int) ≤ ((chr s i : Nat) : Int) := by omega
            have hb3 : ((chr s i : Nat) : Int) ≤ 57 := by omega
            go_wp2_with fail
            refine wp_abs (Mem w [(w.heap.size, 31, arr .u64 (fun _ => 0) 4), (w.heap.size + 1, 31, arr .u64 (sel4 x0 x1 x2 x3) 4)]) ⟨hl, S.out.1, S.out.2.1, trivial⟩ ?_
            intro W0 hM
            obtain ⟨hl0, rr, ra, -⟩ := hM
            let L : List Sp := [sV 1 [] [] (fun u => u = .agg #[.int .u64 10, .int .u64 0, .int .u64 0, .int .u64 0]), sV 2 [] [] (PairV (mulN v 10) (mulB v 10)), sA 6 31 [7] #[.int .u64 0, .int .u64 0, .int .u64 0, .int .u64 0], sT 7 6 31 [4] (fun g => aggOf g 4)]
            refine wp_region_six (shs L) (look6 L) (None_) (by kernel_rfl) (by kernel_rfl) (mk_St L [] [] (by kernel_rfl) (by kernel_rfl) ⟨ok_V ⟨_, rfl⟩, ok_V (pairV_some (mul_lt _ _) _), ok_A, ok_T aggOf_congr, trivial⟩ (by simp)) ?_
            intro QQ hQ
            -- 0: load<31> *t4
            refine stepK rfl (by kernel_rfl) (fun K hK => ?_); go_simp
            apply Exists.intro; apply And.intro; (focus exact kLoad rfl rfl aggT31 ra rfl id); refine hK _ _ ?_; clear hK K
            -- 1: call F103(10u)
            refine stepS _ rfl (by kernel_rfl) (fun K hK => ?_); go_simp
            refine ⟨?_, ?_⟩
            · intro wk hk hg hu; go_simp; refine upon_enter ((of_exact _ _).mono ?_); rintro e w' ⟨rfl, rfl⟩; exact ⟨_, rfl, left_V (p := fun u => u = .agg #[.int .u64 10, .int .u64 0, .int .u64 0, .int .u64 0]) rfl ((Below.refl _ _).alloc (Nat.le_refl _) _) rfl⟩
            rintro ⟨v1, lo1, hi1⟩ - - (rfl : v1 = _)
            refine hK _ _ ?_; clear hK K
            -- 2: call F47(t43, t44)
            refine stepS _ rfl (by kernel_rfl) (fun K hK => ?_); go_simp
            refine ⟨?_, ?_⟩
            · intro wk hk hg hu; go_simp; refine upon_enter ((mul_any _ _ _ _ _ _ _ _ v 10 hx isW_ten _).mono ?_); rintro e w' ⟨y0, y1, y2, y3, rfl, hy, hb⟩; exact ⟨_, rfl, left_V rfl hb ⟨y0, y1, y2, y3, rfl, hy⟩⟩
            rintro ⟨v2, lo2, hi2⟩ - - ⟨y0, y1, y2, y3, rfl, hy⟩
            refine hK _ _ ?_; clear hK K
            -- 3: t45
            refine stepK rfl (by kernel_rfl) (fun K hK => ?_); go_simp
            apply Exists.intro; apply And.intro; (focus (intro wk hk; go_simp; exact ⟨rfl, rfl⟩)); refine hK _ _ ?_; clear hK K
            -- 4: extract t42 #0
            refine stepK rfl (by kernel_rfl) (fun K hK => ?_); go_simp
            apply Exists.intro; apply And.intro; (focus (intro wk hk; go_simp; exact ⟨rfl, rfl⟩)); refine hK _ _ ?_; clear hK K
            -- 5: extract t42 #1
            refine stepK rfl (by kernel_rfl) (fun K hK => ?_); go_simp
            apply Exists.intro; apply And.intro; (focus (intro wk hk; go_simp; exact ⟨rfl, rfl⟩)); refine hK _ _ ?_; clear hK K
            -- 6: alloc<31>
            refine stepS _ rfl (by kernel_rfl) (fun K hK => ?_); go_simp
            refine ⟨?_, ?_⟩
            · intro wk hk hg hu; go_simp; exact left_A rfl rfl
            rintro ⟨v6, lo6, hi6⟩ hlo6 hhi6 ⟨e6, f6⟩
            replace e6 : v6 = .pointer (some ⟨lo6, 0, none⟩) := e6; replace f6 : hi6 = lo6 + 1 := f6; replace hlo6 : _ ≤ lo6 := hlo6; subst e6; subst f6
            refine hK _ _ ?_; clear hK K
            -- 7: store<31> *t6 = t46
            refine stepS _ rfl (by kernel_rfl) (fun K hK => ?_); go_simp
            refine ⟨?_, ?_⟩
            · exact sStoreT rfl rfl rfl rfl rfl rfl rfl (by kernel_rfl) rfl (by kernel_rfl) (by decide) aggOf_congr
            rintro ⟨v7, lo7, hi7⟩ - - (rfl : v7 = undef)
            refine hK _ _ ?_; clear hK K
            -- 8: assign t47
            refine stepK rfl (by kernel_rfl) (fun K hK => ?_); go_simp
            apply Exists.intro; apply And.intro; (focus (intro wk hk; go_simp; exact ⟨rfl, rfl⟩)); refine hK _ _ ?_; clear hK K
            refine stepN ?_
            refine hQ _ _ ?_
            intro w5 hT hG hF
            have hb5 := hT.undrew.below
            have h6 : w.heap.size + 1 + 1 ≤ lo6 := by have := ra.lt; omega
            have rt : Row w5 lo6 31 (arr .u64 (sel4 y0 y1 y2 y3) 4) := (hF 7 _ rfl rfl (by decide)).2
            have hl5 := hl0.trans (hb5.mono hl0.size)
            have rr5 := rr.below hb5 rr.lt
            have ra5 := ra.below hb5 ra.lt
            clear hT hG hF hl0 rr ra hb5 hQ QQ L
            obtain ⟨rr, ra, hv, hi⟩ := S.out
            clear rr ra
            obtain ⟨⟨d0, d1, d2, d3⟩, f0, f1, f2, f3⟩ := rr5.four
            cases hmB : mulB v 10
            · have hnone : pAt s s.size = none := pAt_end (by omega) (pAt_bad hv (by simp [mulB] at hmB; omega))
              have S := Lib.hid (show _ ∧ _ from ⟨hnone, hl5⟩)
              clear hnone
              go_wp2_with fail
              refine bodyPost_ret (results_ct rfl aggT31 rfl (rr5.store4 rfl _ _ _ _) rfl) rfl ?_
              rw [S.out.1]
              exact ⟨_, _, _, _, rfl, isW_zero, by go_grown⟩
            · have hm : v * 10 < M := by simpa [mulB] using hmB
              have hy : IsW y0 y1 y2 y3 (v * 10) := by unfold mulN at hy; rwa [if_pos hm] at hy
              have hd : IntKind.u64.wrap (IntKind.u8.wrap (((chr s i : Nat) : Int) - 48)) = ((chr s i - 48 : Nat) : Int) := by rw [IntKind.wrap_u64, IntKind.wrap_u8']; omega
              go_wp2_with fail
              refine wp_abs (Mem w [(w.heap.size, 31, arr .u64 (fun _ => 0) 4), (w.heap.size + 1, 31, arr .u64 (sel4 x0 x1 x2 x3) 4), (lo6, 31, arr .u64 (sel4 y0 y1 y2 y3) 4)]) ⟨hl5, rr5, ra5, rt, trivial⟩ ?_
              clear hl5 rr5 ra5 rt d0 d1 d2 d3 f0 f1 f2 f3
              intro W1 hM
              obtain ⟨hl5, rr5, ra5, rt, -⟩ := hM
              let L : List Sp := [sV 6 [] [] (OneV (chr s i - 48)), sV 7 [] [] (PairV (addN (v * 10) (chr s i - 48)) (addB (v * 10) (chr s i - 48))), sO 11 (w.heap.size + 1) 31 [9] (fun g => aggOf g 9)]
              refine wp_region_six (shs L) (look6 L) (fun c => c = w.heap.size + 1) (by kernel_rfl) (by kernel_rfl) (mk_St L [11] [11] (by kernel_rfl) (by kernel_rfl) ⟨ok_V (oneV_some (by unfold M; omega)), ok_V (pairV_some (add_lt _ _) _), ok_O aggOf_congr ra5.lt (rfl), trivial⟩ (by simp)) ?_
              intro QQ hQ
              -- 0: load<31> *t6
              refine stepK rfl (by kernel_rfl) (fun K hK => ?_); go_simp
              apply Exists.intro; apply And.intro; (focus exact kLoad rfl rfl aggT31 rt rfl id); refine hK _ _ ?_; clear hK K
              -- 1: t0
              refine stepK rfl (by kernel_rfl) (fun K hK => ?_); go_simp
              apply Exists.intro; apply And.intro; (focus (intro wk hk; go_simp; exact ⟨rfl, rfl⟩)); refine hK _ _ ?_; clear hK K
              -- 2: t5
              refine stepK rfl (by kernel_rfl) (fun K hK => ?_); go_simp
              apply Exists.intro; apply And.intro; (focus (intro wk hk; go_simp; exact ⟨rfl, rfl⟩)); refine hK _ _ ?_; clear hK K
              -- 3: index<9> t53[t54]
              refine stepK rfl (by kernel_rfl) (fun K hK => ?_); go_simp
              apply Exists.intro; apply And.intro; (focus (intro wk hk; go_simp; exact ⟨rfl, rfl⟩)); refine hK _ _ ?_; clear hK K
              -- 4: sub<5> t55, 48b
              refine stepK rfl (by kernel_rfl) (fun K hK => ?_); go_simp
              apply Exists.intro; apply And.intro; (focus (intro wk hk; go_simp; exact ⟨rfl, rfl⟩)); refine hK _ _ ?_; clear hK K
              -- 5: convert<5->29> t56
              refine stepK rfl (by kernel_rfl) (fun K hK => ?_); go_simp
              apply Exists.intro; apply And.intro; (focus (intro wk hk; go_simp; exact ⟨rfl, rfl⟩)); refine hK _ _ ?_; clear hK K
              -- 6: call F103(t57)
              refine stepS _ rfl (by kernel_rfl) (fun K hK => ?_); go_simp
              refine ⟨?_, ?_⟩
              · intro wk hk hg hu; go_simp; refine upon_enter ((of_any _ (chr s i - 48) rfl (by omega) _).mono ?_); rintro e w' ⟨d0, d1, d2, d3, rfl, hd, hb⟩; exact ⟨_, rfl, left_V rfl hb ⟨d0, d1, d2, d3, rfl, hd⟩⟩
              rintro ⟨v6, lo6, hi6⟩ - - ⟨d0, d1, d2, d3, rfl, hd⟩
              refine hK _ _ ?_; clear hK K
              -- 7: call F46(t52, t58)
              refine stepS _ rfl (by kernel_rfl) (fun K hK => ?_); go_simp
              refine ⟨?_, ?_⟩
              · intro wk hk hg hu; go_simp; refine upon_enter ((add_any _ _ _ _ _ _ _ _ (v * 10) (chr s i - 48) hy hd _).mono ?_); rintro e w' ⟨z0, z1, z2, z3, rfl, hz, hb⟩; exact ⟨_, rfl, left_V rfl hb ⟨z0, z1, z2, z3, rfl, hz⟩⟩
              rintro ⟨v7, lo7, hi7⟩ - - ⟨z0, z1, z2, z3, rfl, hz⟩
              refine hK _ _ ?_; clear hK K
              -- 8: t59
              refine stepK rfl (by kernel_rfl) (fun K hK => ?_); go_simp
              apply Exists.intro; apply And.intro; (focus (intro wk hk; go_simp; exact ⟨rfl, rfl⟩)); refine hK _ _ ?_; clear hK K
              -- 9: extract t51 #0
              refine stepK rfl (by kernel_rfl) (fun K hK => ?_); go_simp
              apply Exists.intro; apply And.intro; (focus (intro wk hk; go_simp; exact ⟨rfl, rfl⟩)); refine hK _ _ ?_; clear hK K
              -- 10: extract t51 #1
              refine stepKz rfl (fun K hK => ?_); go_simp
              apply Exists.intro; apply And.intro; (focus (intro wk hk; go_simp; exact ⟨rfl, rfl⟩)); refine hK _ _ ?_; clear hK K
              -- 11: store<31> *t4 = t60
              refine stepS _ rfl (by kernel_rfl) (fun K hK => ?_); go_simp
              refine ⟨?_, ?_⟩
              · exact sStoreO rfl rfl rfl rfl rfl rfl ra5 id (by kernel_rfl) rfl (by kernel_rfl) (by decide) aggOf_congr
              rintro ⟨v11, lo11, hi11⟩ - - (rfl : v11 = undef)
              refine hK _ _ ?_; clear hK K
              -- 12: assign t61
              refine stepKz rfl (fun K hK => ?_); go_simp
              apply Exists.intro; apply And.intro; (focus (intro wk hk; go_simp; exact ⟨rfl, rfl⟩)); refine hK _ _ ?_; clear hK K
              refine stepN ?_
              refine hQ _ _ ?_
              intro w6 hT hG hF
              have hT' := hT.undrew
              have z5 := hl5.size
              have hl6 : Below w.heap.size w w6 := hl5.trans (hT'.below_of (Nat.le_trans (Nat.le_refl _) z5) (by intro c hc; omega))
              have rr6 : Row w6 w.heap.size 31 (arr .u64 (fun _ => 0) 4) := K6.Row.tr rr5 hT' (by omega)
              have ra6 : Row w6 (w.heap.size + 1) 31 (arr .u64 (sel4 z0 z1 z2 z3) 4) := hF 11 _ rfl rfl (by decide)
              have z6 := hT'.size
              have z7 := ra5.lt
              clear hT hT' hG hF hl5 rr5 ra5 rt hQ QQ L
              obtain ⟨⟨d0, d1, d2, d3⟩, f0, f1, f2, f3⟩ := rr6.four
              cases haB : addB (v * 10) (chr s i - 48)
              · have hnone : pAt s s.size = none := pAt_end (by omega) (pAt_bad hv (by simp [addB] at haB; omega))
                have S := Lib.hid (show _ from hnone)
                clear hnone
                go_wp2_with fail
                refine bodyPost_ret (results_ct rfl aggT31 rfl (rr6.store4 rfl _ _ _ _) rfl) rfl ?_
                rw [S.out]
                exact ⟨_, _, _, _, rfl, isW_zero, by go_grown⟩
              · have ha10 : v * 10 + (chr s i - 48) < M := by simpa [addB] using haB
                have hz' : IsW z0 z1 z2 z3 (v * 10 + (chr s i - 48)) := by unfold addN at hz; rwa [if_pos ha10] at hz
                have hgood := pAt_good hv ⟨by omega, by omega, hm, ha10⟩
                have S := Lib.hid (show _ ∧ _ ∧ _ ∧ _ ∧ _ ∧ _ from ⟨hgood, hz', rr6, ra6, hl6, hi⟩)
                clear hgood hz' rr6 ra6 hi hv
                go_wp2_with fail
                go_roundg (gk - 1)
                case measure => have := S.out.2.2.2.2.2; omega
                case rel =>
                  obtain ⟨hgood, hz', rr6, ra6, hl6, hi⟩ := S.out
                  exact ⟨i + 1, _, z0, z1, z2, z3, by omega, by go_num, hgood, hz', by omega, hl6, rr6, ra6⟩
      · obtain rfl : i = s.size := by omega
        obtain ⟨⟨c0, c1, c2, c3⟩, _⟩ := ra.four4
        obtain ⟨⟨d0, d1, d2, d3⟩, f0, f1, f2, f3⟩ := rr.four
        have S := Lib.hid (show _ ∧ _ from ⟨rr, hv⟩)
        clear rr ra hv
        go_wp2_with fail
        refine bodyPost_ret (results_ct rfl aggT31 rfl (S.out.1.store4 rfl _ _ _ _) rfl) rfl ?_
        rw [S.out.2]
        exact ⟨x0, x1, x2, x3, rfl, hx, by go_grown⟩
  · rw [h11] at h7
    have h13 := h11
    clear h11
    clear hno
    go_enter Try.func83, Try.ntmps83
    go_wp2_with fail
    go_loopg [28] s.size (fun gg iv wr => ∃ (i v : Nat) (x0 x1 x2 x3 : Int), i + gg = s.size ∧ iv = .int .i64 (i : Int) ∧ pAt s i = some v ∧ IsW x0 x1 x2 x3 v ∧ w.heap.size + 1 < wr.heap.size ∧ Below w.heap.size w wr ∧
      Row wr w.heap.size 31 (arr .u64 (fun _ => 0) 4) ∧ Row wr (w.heap.size + 1) 31 (arr .u64 (sel4 x0 x1 x2 x3) 4))
    case atStart =>
      refine ⟨0, 0, 0, 0, 0, 0, by omega, rfl, rfl, isW_zero, by simp, by go_grown, ?_, ?_⟩ <;> repeat (first | (refine Row.new_at ?_; simp; done) | refine Row.alloc ?_ _)
    case round =>
      obtain ⟨i, v, x0, x1, x2, x3, hi, rfl, hv, hx, hz, hl, rr, ra⟩ := hrel
      by_cases hlt : i < s.size
      · have hci := chr_at s i hlt
        have hlt2 : (i : Int) < (s.size : Int) := by omega
        have hcl := chr_lt s i
        obtain ⟨⟨c0, c1, c2, c3⟩, _⟩ := ra.four4
        obtain ⟨⟨d0, d1, d2, d3⟩, f0, f1, f2, f3⟩ := rr.four
        have S := Lib.hid (show _ ∧ _ ∧ _ ∧ _ from ⟨rr, ra, hv, hi⟩)
        clear rr ra hv
        by_cases hb : chr s i < 48
        · have hb2 : ((chr s i : Nat) : Int) < 48 := by omega
          go_wp2_with fail
          refine bodyPost_ret (results_ct rfl aggT31 rfl (S.out.1.store4 rfl _ _ _ _) rfl) rfl ?_
          rw [pAt_end (by omega) (pAt_bad S.out.2.2.1 (by omega))]
          exact ⟨_, _, _, _, rfl, isW_zero, by go_grown⟩
        · by_cases hb9 : 57 < chr s i
          · have hb2 : (48 : Int) ≤ ((chr s i : Nat) : Int) := by omega
            have hb3 : (57 : Int) < ((chr s i : Nat) : Int) := by omega
            go_wp2_with fail
            refine bodyPost_ret (results_ct rfl aggT31 rfl (S.out.1.store4 rfl _ _ _ _) rfl) rfl ?_
            rw [pAt_end (by omega) (pAt_bad S.out.2.2.1 (by omega))]
            exact ⟨_, _, _, _, rfl, isW_zero, by go_grown⟩
          · have hb2 : (48 : Int) ≤ ((chr s i : Nat) : Int) := by omega
            have hb3 : ((chr s i : Nat) : Int) ≤ 57 := by omega
            go_wp2_with fail
            refine wp_abs (Mem w [(w.heap.size, 31, arr .u64 (fun _ => 0) 4), (w.heap.size + 1, 31, arr .u64 (sel4 x0 x1 x2 x3) 4)]) ⟨hl, S.out.1, S.out.2.1, trivial⟩ ?_
            intro W0 hM
            obtain ⟨hl0, rr, ra, -⟩ := hM
            let L : List Sp := [sV 1 [] [] (fun u => u = .agg #[.int .u64 10, .int .u64 0, .int .u64 0, .int .u64 0]), sV 2 [] [] (PairV (mulN v 10) (mulB v 10)), sA 6 31 [7] #[.int .u64 0, .int .u64 0, .int .u64 0, .int .u64 0], sT 7 6 31 [4] (fun g => aggOf g 4)]
            refine wp_region_six (shs L) (look6 L) (None_) (by kernel_rfl) (by kernel_rfl) (mk_St L [] [] (by kernel_rfl) (by kernel_rfl) ⟨ok_V ⟨_, rfl⟩, ok_V (pairV_some (mul_lt _ _) _), ok_A, ok_T aggOf_congr, trivial⟩ (by simp)) ?_
            intro QQ hQ
            -- 0: load<31> *t4
            refine stepK rfl (by kernel_rfl) (fun K hK => ?_); go_simp
            apply Exists.intro; apply And.intro; (focus exact kLoad rfl rfl aggT31 ra rfl id); refine hK _ _ ?_; clear hK K
            -- 1: call F103(10u)
            refine stepS _ rfl (by kernel_rfl) (fun K hK => ?_); go_simp
            refine ⟨?_, ?_⟩
            · intro wk hk hg hu; go_simp; refine upon_enter ((of_exact _ _).mono ?_); rintro e w' ⟨rfl, rfl⟩; exact ⟨_, rfl, left_V (p := fun u => u = .agg #[.int .u64 10, .int .u64 0, .int .u64 0, .int .u64 0]) rfl ((Below.refl _ _).alloc (Nat.le_refl _) _) rfl⟩
            rintro ⟨v1, lo1, hi1⟩ - - (rfl : v1 = _)
            refine hK _ _ ?_; clear hK K
            -- 2: call F47(t43, t44)
            refine stepS _ rfl (by kernel_rfl) (fun K hK => ?_); go_simp
            refine ⟨?_, ?_⟩
            · intro wk hk hg hu; go_simp; refine upon_enter ((mul_any _ _ _ _ _ _ _ _ v 10 hx isW_ten _).mono ?_); rintro e w' ⟨y0, y1, y2, y3, rfl, hy, hb⟩; exact ⟨_, rfl, left_V rfl hb ⟨y0, y1, y2, y3, rfl, hy⟩⟩
            rintro ⟨v2, lo2, hi2⟩ - - ⟨y0, y1, y2, y3, rfl, hy⟩
            refine hK _ _ ?_; clear hK K
            -- 3: t45
            refine stepK rfl (by kernel_rfl) (fun K hK => ?_); go_simp
            apply Exists.intro; apply And.intro; (focus (intro wk hk; go_simp; exact ⟨rfl, rfl⟩)); refine hK _ _ ?_; clear hK K
            -- 4: extract t42 #0
            refine stepK rfl (by kernel_rfl) (fun K hK => ?_); go_simp
            apply Exists.intro; apply And.intro; (focus (intro wk hk; go_simp; exact ⟨rfl, rfl⟩)); refine hK _ _ ?_; clear hK K
            -- 5: extract t42 #1
            refine stepK rfl (by kernel_rfl) (fun K hK => ?_); go_simp
            apply Exists.intro; apply And.intro; (focus (intro wk hk; go_simp; exact ⟨rfl, rfl⟩)); refine hK _ _ ?_; clear hK K
            -- 6: alloc<31>
            refine stepS _ rfl (by kernel_rfl) (fun K hK => ?_); go_simp
            refine ⟨?_, ?_⟩
            · intro wk hk hg hu; go_simp; exact left_A rfl rfl
            rintro ⟨v6, lo6, hi6⟩ hlo6 hhi6 ⟨e6, f6⟩
            replace e6 : v6 = .pointer (some ⟨lo6, 0, none⟩) := e6; replace f6 : hi6 = lo6 + 1 := f6; replace hlo6 : _ ≤ lo6 := hlo6; subst e6; subst f6
            refine hK _ _ ?_; clear hK K
            -- 7: store<31> *t6 = t46
            refine stepS _ rfl (by kernel_rfl) (fun K hK => ?_); go_simp
            refine ⟨?_, ?_⟩
            · exact sStoreT rfl rfl rfl rfl rfl rfl rfl (by kernel_rfl) rfl (by kernel_rfl) (by decide) aggOf_congr
            rintro ⟨v7, lo7, hi7⟩ - - (rfl : v7 = undef)
            refine hK _ _ ?_; clear hK K
            -- 8: assign t47
            refine stepK rfl (by kernel_rfl) (fun K hK => ?_); go_simp
            apply Exists.intro; apply And.intro; (focus (intro wk hk; go_simp; exact ⟨rfl, rfl⟩)); refine hK _ _ ?_; clear hK K
            refine stepN ?_
            refine hQ _ _ ?_
            intro w5 hT hG hF
            have hb5 := hT.undrew.below
            have h6 : w.heap.size + 1 + 1 ≤ lo6 := by have := ra.lt; omega
            have rt : Row w5 lo6 31 (arr .u64 (sel4 y0 y1 y2 y3) 4) := (hF 7 _ rfl rfl (by decide)).2
            have hl5 := hl0.trans (hb5.mono hl0.size)
            have rr5 := rr.below hb5 rr.lt
            have ra5 := ra.below hb5 ra.lt
            clear hT hG hF hl0 rr ra hb5 hQ QQ L
            obtain ⟨rr, ra, hv, hi⟩ := S.out
            clear rr ra
            obtain ⟨⟨d0, d1, d2, d3⟩, f0, f1, f2, f3⟩ := rr5.four
            cases hmB : mulB v 10
            · have hnone : pAt s s.size = none := pAt_end (by omega) (pAt_bad hv (by simp [mulB] at hmB; omega))
              have S := Lib.hid (show _ ∧ _ from ⟨hnone, hl5⟩)
              clear hnone
              go_wp2_with fail
              refine bodyPost_ret (results_ct rfl aggT31 rfl (rr5.store4 rfl _ _ _ _) rfl) rfl ?_
              rw [S.out.1]
              exact ⟨_, _, _, _, rfl, isW_zero, by go_grown⟩
            · have hm : v * 10 < M := by simpa [mulB] using hmB
              have hy : IsW y0 y1 y2 y3 (v * 10) := by unfold mulN at hy; rwa [if_pos hm] at hy
              have hd : IntKind.u64.wrap (IntKind.u8.wrap (((chr s i : Nat) : Int) - 48)) = ((chr s i - 48 : Nat) : Int) := by rw [IntKind.wrap_u64, IntKind.wrap_u8']; omega
              go_wp2_with fail
              refine wp_abs (Mem w [(w.heap.size, 31, arr .u64 (fun _ => 0) 4), (w.heap.size + 1, 31, arr .u64 (sel4 x0 x1 x2 x3) 4), (lo6, 31, arr .u64 (sel4 y0 y1 y2 y3) 4)]) ⟨hl5, rr5, ra5, rt, trivial⟩ ?_
              clear hl5 rr5 ra5 rt d0 d1 d2 d3 f0 f1 f2 f3
              intro W1 hM
              obtain ⟨hl5, rr5, ra5, rt, -⟩ := hM
              let L : List Sp := [sV 6 [] [] (OneV (chr s i - 48)), sV 7 [] [] (PairV (addN (v * 10) (chr s i - 48)) (addB (v * 10) (chr s i - 48))), sO 11 (w.heap.size + 1) 31 [9] (fun g => aggOf g 9)]
              refine wp_region_six (shs L) (look6 L) (fun c => c = w.heap.size + 1) (by kernel_rfl) (by kernel_rfl) (mk_St L [11] [11] (by kernel_rfl) (by kernel_rfl) ⟨ok_V (oneV_some (by unfold M; omega)), ok_V (pairV_some (add_lt _ _) _), ok_O aggOf_congr ra5.lt (rfl), trivial⟩ (by simp)) ?_
              intro QQ hQ
              -- 0: load<31> *t6
              refine stepK rfl (by kernel_rfl) (fun K hK => ?_); go_simp
              apply Exists.intro; apply And.intro; (focus exact kLoad rfl rfl aggT31 rt rfl id); refine hK _ _ ?_; clear hK K
              -- 1: t0
              refine stepK rfl (by kernel_rfl) (fun K hK => ?_); go_simp
              apply Exists.intro; apply And.intro; (focus (intro wk hk; go_simp; exact ⟨rfl, rfl⟩)); refine hK _ _ ?_; clear hK K
              -- 2: t5
              refine stepK rfl (by kernel_rfl) (fun K hK => ?_); go_simp
              apply Exists.intro; apply And.intro; (focus (intro wk hk; go_simp; exact ⟨rfl, rfl⟩)); refine hK _ _ ?_; clear hK K
              -- 3: index<9> t53[t54]
              refine stepK rfl (by kernel_rfl) (fun K hK => ?_); go_simp
              apply Exists.intro; apply And.intro; (focus (intro wk hk; go_simp; exact ⟨rfl, rfl⟩)); refine hK _ _ ?_; clear hK K
              -- 4: sub<5> t55, 48b
              refine stepK rfl (by kernel_rfl) (fun K hK => ?_); go_simp
              apply Exists.intro; apply And.intro; (focus (intro wk hk; go_simp; exact ⟨rfl, rfl⟩)); refine hK _ _ ?_; clear hK K
              -- 5: convert<5->29> t56
              refine stepK rfl (by kernel_rfl) (fun K hK => ?_); go_simp
              apply Exists.intro; apply And.intro; (focus (intro wk hk; go_simp; exact ⟨rfl, rfl⟩)); refine hK _ _ ?_; clear hK K
              -- 6: call F103(t57)
              refine stepS _ rfl (by kernel_rfl) (fun K hK => ?_); go_simp
              refine ⟨?_, ?_⟩
              · intro wk hk hg hu; go_simp; refine upon_enter ((of_any _ (chr s i - 48) rfl (by omega) _).mono ?_); rintro e w' ⟨d0, d1, d2, d3, rfl, hd, hb⟩; exact ⟨_, rfl, left_V rfl hb ⟨d0, d1, d2, d3, rfl, hd⟩⟩
              rintro ⟨v6, lo6, hi6⟩ - - ⟨d0, d1, d2, d3, rfl, hd⟩
              refine hK _ _ ?_; clear hK K
              -- 7: call F46(t52, t58)
              refine stepS _ rfl (by kernel_rfl) (fun K hK => ?_); go_simp
              refine ⟨?_, ?_⟩
              · intro wk hk hg hu; go_simp; refine upon_enter ((add_any _ _ _ _ _ _ _ _ (v * 10) (chr s i - 48) hy hd _).mono ?_); rintro e w' ⟨z0, z1, z2, z3, rfl, hz, hb⟩; exact ⟨_, rfl, left_V rfl hb ⟨z0, z1, z2, z3, rfl, hz⟩⟩
              rintro ⟨v7, lo7, hi7⟩ - - ⟨z0, z1, z2, z3, rfl, hz⟩
              refine hK _ _ ?_; clear hK K
              -- 8: t59
              refine stepK rfl (by kernel_rfl) (fun K hK => ?_); go_simp
              apply Exists.intro; apply And.intro; (focus (intro wk hk; go_simp; exact ⟨rfl, rfl⟩)); refine hK _ _ ?_; clear hK K
              -- 9: extract t51 #0
              refine stepK rfl (by kernel_rfl) (fun K hK => ?_); go_simp
              apply Exists.intro; apply And.intro; (focus (intro wk hk; go_simp; exact ⟨rfl, rfl⟩)); refine hK _ _ ?_; clear hK K
              -- 10: extract t51 #1
              refine stepKz rfl (fun K hK => ?_); go_simp
              apply Exists.intro; apply And.intro; (focus (intro wk hk; go_simp; exact ⟨rfl, rfl⟩)); refine hK _ _ ?_; clear hK K
              -- 11: store<31> *t4 = t60
              refine stepS _ rfl (by kernel_rfl) (fun K hK => ?_); go_simp
              refine ⟨?_, ?_⟩
              · exact sStoreO rfl rfl rfl rfl rfl rfl ra5 id (by kernel_rfl) rfl (by kernel_rfl) (by decide) aggOf_congr
              rintro ⟨v11, lo11, hi11⟩ - - (rfl : v11 = undef)
              refine hK _ _ ?_; clear hK K
              -- 12: assign t61
              refine stepKz rfl (fun K hK => ?_); go_simp
              apply Exists.intro; apply And.intro; (focus (intro wk hk; go_simp; exact ⟨rfl, rfl⟩)); refine hK _ _ ?_; clear hK K
              refine stepN ?_
              refine hQ _ _ ?_
              intro w6 hT hG hF
              have hT' := hT.undrew
              have z5 := hl5.size
              have hl6 : Below w.heap.size w w6 := hl5.trans (hT'.below_of (Nat.le_trans (Nat.le_refl _) z5) (by intro c hc; omega))
              have rr6 : Row w6 w.heap.size 31 (arr .u64 (fun _ => 0) 4) := K6.Row.tr rr5 hT' (by omega)
              have ra6 : Row w6 (w.heap.size + 1) 31 (arr .u64 (sel4 z0 z1 z2 z3) 4) := hF 11 _ rfl rfl (by decide)
              have z6 := hT'.size
              have z7 := ra5.lt
              clear hT hT' hG hF hl5 rr5 ra5 rt hQ QQ L
              obtain ⟨⟨d0, d1, d2, d3⟩, f0, f1, f2, f3⟩ := rr6.four
              cases haB : addB (v * 10) (chr s i - 48)
              · have hnone : pAt s s.size = none := pAt_end (by omega) (pAt_bad hv (by simp [addB] at haB; omega))
                have S := Lib.hid (show _ from hnone)
                clear hnone
                go_wp2_with fail
                refine bodyPost_ret (results_ct rfl aggT31 rfl (rr6.store4 rfl _ _ _ _) rfl) rfl ?_
                rw [S.out]
                exact ⟨_, _, _, _, rfl, isW_zero, by go_grown⟩
              · have ha10 : v * 10 + (chr s i - 48) < M := by simpa [addB] using haB
                have hz' : IsW z0 z1 z2 z3 (v * 10 + (chr s i - 48)) := by unfold addN at hz; rwa [if_pos ha10] at hz
                have hgood := pAt_good hv ⟨by omega, by omega, hm, ha10⟩
                have S := Lib.hid (show _ ∧ _ ∧ _ ∧ _ ∧ _ ∧ _ from ⟨hgood, hz', rr6, ra6, hl6, hi⟩)
                clear hgood hz' rr6 ra6 hi hv
                go_wp2_with fail
                go_roundg (gk - 1)
                case measure => have := S.out.2.2.2.2.2; omega
                case rel =>
                  obtain ⟨hgood, hz', rr6, ra6, hl6, hi⟩ := S.out
                  exact ⟨i + 1, _, z0, z1, z2, z3, by omega, by go_num, hgood, hz', by omega, hl6, rr6, ra6⟩
      · obtain rfl : i = s.size := by omega
        obtain ⟨⟨c0, c1, c2, c3⟩, _⟩ := ra.four4
        obtain ⟨⟨d0, d1, d2, d3⟩, f0, f1, f2, f3⟩ := rr.four
        have S := Lib.hid (show _ ∧ _ from ⟨rr, hv⟩)
        clear rr ra hv
        go_wp2_with fail
        refine bodyPost_ret (results_ct rfl aggT31 rfl (S.out.1.store4 rfl _ _ _ _) rfl) rfl ?_
        rw [S.out.2]
        exact ⟨x0, x1, x2, x3, rfl, hx, by go_grown⟩

/-- THE CONTRACT -/
theorem parse_any (s : ByteArray) (w : World) : Calls Try.prog 83 #[.string s] w (Pair w ((parsN s).getD 0) (parsN s).isSome) := by
  by_cases hs : s.size = 0 ∨ 78 < s.size ∨ (chr s 0 = 48 ∧ 1 < s.size)
  · rw [head_none s hs]; exact parse_head s hs w
  · have e : parsN s = pAt s s.size := by unfold parsN; rw [if_neg hs]
    rw [e]
    exact parse_body s (by omega) (by omega) (by omega) w
end Go.Proofs.Ytpdenhmkpiafiaa

/-! Lives1: tallagelaw01.lives: the document's examples of layer 1 are as it says. -/
namespace Go.Proofs.Ytpdenhmkpiafiaa
open Go Go.RowKit

theorem M_big (n : Nat) (h : n < 18446744073709551616) : n < M := by unfold M; omega

set_option maxRecDepth 100000 in
set_option maxHeartbeats 2000000 in
theorem lives1_any (w : World) : Calls Try.prog 50 #[] w fun e w' => e = .returned (.bool true) ∧ Below w.heap.size w w' := by
  have q31 := eq31
  go_enter Try.func50, Try.ntmps50
  go_wp2_with fail
  refine (sub_any 1 0 0 0 2 0 0 0 1 2 (isW_word rfl (by omega)) (isW_word rfl (by omega)) _).mono ?_
  rintro e w1 ⟨x0, x1, x2, x3, rfl, hx, hb1⟩
  have s1 : subB 1 2 = false := by decide
  rw [s1]
  have z1 := hb1.size
  go_wp2_with fail
  refine (div_any 7 0 0 0 2 0 0 0 7 2 (isW_word rfl (by omega)) (isW_word rfl (by omega)) _).mono ?_
  rintro e w2 ⟨q0, q1, q2, q3, r0, r1, r2, r3, rfl, hq, hr, hb2⟩
  obtain ⟨rfl, rfl, rfl, rfl⟩ := (isW_word (x := 3) (n := 7 / 2) (by decide) (by decide)).uniq hq
  obtain ⟨rfl, rfl, rfl, rfl⟩ := (isW_word (x := 1) (n := divR 7 2) (by decide) (by decide)).uniq hr
  have z2 := hb2.size
  have d2 : decide ((2 : Nat) ≠ 0) = true := by decide
  rw [d2]
  go_wp2_with fail
  refine (bytes_any 258 0 0 0 258 (isW_word rfl (by omega)) _).mono ?_
  rintro e w3 ⟨g, rfl, hg, ro, hb3⟩
  have c30 : w3.cell? ⟨g, 30, none⟩ = some (.int .u8 1) := (ro.at_ 30 (by omega)).trans (congrArg (fun x => some (Value.int .u8 x)) (by decide))
  have c31 : w3.cell? ⟨g, 31, none⟩ = some (.int .u8 2) := (ro.at_ 31 (by omega)).trans (congrArg (fun x => some (Value.int .u8 x)) (by decide))
  have rq : Row w3 w2.heap.size 31 #[.int .u64 3, .int .u64 0, .int .u64 0, .int .u64 0] := Row.below (by repeat (first | (refine Row.new_at ?_; simp; done) | refine Row.alloc ?_ _)) hb3 (by simp; omega)
  have rr : Row w3 (w2.heap.size + 1) 31 #[.int .u64 1, .int .u64 0, .int .u64 0, .int .u64 0] := Row.below (by repeat (first | (refine Row.new_at ?_; simp; done) | refine Row.alloc ?_ _)) hb3 (by simp)
  obtain ⟨⟨m0, m1, m2, m3⟩, _⟩ := Row.four4 (x0 := 3) (x1 := 0) (x2 := 0) (x3 := 0) rq
  obtain ⟨⟨o0, o1, o2, o3⟩, _⟩ := Row.four4 (x0 := 1) (x1 := 0) (x2 := 0) (x3 := 0) rr
  have hl : Below w.heap.size w w3 := (((hb1.alloc hb1.size _).trans (hb2.mono (by simp; omega))).alloc (by simp at *; omega) _ |>.alloc (by simp at *; omega) _).trans (hb3.mono (by simp at *; omega))
  clear rq rr ro hb1 hb2 hb3 hg z1 z2
  go_wp2
  go_ret
  exact ⟨rfl, hl⟩
end Go.Proofs.Ytpdenhmkpiafiaa

/-! Frame: THE FRAME OF EVERY LAW OF THIS SEAT: if the call returns true and leaves all old memory as it was, the row's end holds. -/
namespace Go.Proofs.Ytpdenhmkpiafiaa
open Go.ChangeShapes Go.WideShapes Go.ChangeAt Go.RowKit

theorem own : ownKnob Try.prog.godebug = none := by kernel_rfl
theorem laidOut : laidOutB Try.prog = true := by kernel_rfl

section
variable {H : Type} {enc : TypeId × Value → H} {P : Program}
theorem args_stay (hl : laidOutB P = true) {W W' : World} (hb : Below W.heap.size W W') : ∀ {ts : List TypeId} {vs : List Value} {ds : List (DataW H)} {ps : List MemPlace},
    (∀ t ∈ ts, P.readableRec t = true ∧ t < P.types.size) → DataW.TrodAll enc P W 0 (fun _ => true) true ts vs ds ps → (∀ p ∈ ps, p.block < W.heap.size) →
    DataW.TrodAll enc P W' 0 (fun b => decide (b < W.heap.size)) true ts vs ds ps
  | [], vs, ds, ps, _, h, _ => by
    obtain ⟨rfl, rfl, rfl⟩ := trodAll_nil h
    exact trodAll_mk0
  | t :: ts, vs, ds, ps, hr, h, hlt => by
    obtain ⟨v, vs', d, ds', p, q, rfl, rfl, rfl, h0, h1⟩ := trodAll_cons h
    have ht := hr t (List.mem_cons_self ..)
    exact trodAll_cons_mk (Below.trod hl ht.1 ht.2 h0 hb fun x hx => hlt x (List.mem_append_left _ hx))
      (args_stay hl hb (fun t ht => hr t (List.mem_cons_of_mem _ ht)) h1 fun x hx => hlt x (List.mem_append_right _ hx))

theorem law_post (hl : laidOutB P = true) (h4 : P.underlying 4 = some .bool) {f : Func} {s : ChangeSpec} {W W' : World} {args : Array Value} {ds gs : List (DataW H)} {before : List MemPlace}
    (hW : DataW.Whole enc P f.params.toList s.vars false W args.toList ds gs before) (hv : s.vars = []) (hfn : s.fn H (ds ++ gs) = { results := [.lit (.bool true)], args := ds }) (hres : f.resultTypes = #[4])
    (hr : ∀ t ∈ f.params.toList, P.readableRec t = true ∧ t < P.types.size) (hb : Below W.heap.size W W') : s.post enc P f false true false false W args (.bool true) W' := by
  have hlt := hW.lt
  have hW' := hW
  obtain ⟨p, q, hA, hV, rfl, _, _⟩ := hW
  rw [hv] at hV
  obtain ⟨rfl, rfl⟩ := trodVars_none hV
  simp only [List.append_nil] at hfn hlt
  refine ⟨ds, [], p ++ [], [], p, [], hW', ?_, ?_, ?_, hb.frame _, fun h => by cases h⟩
  · simp only [List.append_nil]
    rw [hfn, hres]
    exact trodAll_cons_mk (p := []) (shut_bool h4 true) trodAll_mk0
  · simp only [List.append_nil]
    rw [hfn]
    exact args_stay hl hb hr hA hlt
  · simp only [List.append_nil]
    rw [hfn, hv]
    rfl
end

theorem bounds64 {x : Int} (h : (Lit.int .u64 x).wf = true) : 0 ≤ x ∧ x < 18446744073709551616 := by
  have h1 : IntKind.u64.min = 0 := by decide
  have h2 : IntKind.u64.max = 18446744073709551615 := by decide
  simp [Lit.wf, h1, h2] at h
  omega
theorem cells31 : Try.prog.cellsOf 31 = 4 := by kernel_rfl
set_option maxRecDepth 100000 in
/-- an argument that is a number of four words -/
theorem open_U {H : Type} {enc : TypeId × Value → H} {W : World} {base b0 : Nat} {r : Reach} {spare : Nat → Bool} {held : Bool} {v : Value} {d : DataW H} {p : List MemPlace}
    (hval : Value.okWide Try.prog W r b0 31 v) (h : DataW.Trod enc Try.prog W base spare held 31 v d p) : ∃ x0 x1 x2 x3 : Int, v = .agg #[.int .u64 x0, .int .u64 x1, .int .u64 x2, .int .u64 x3] ∧
      (0 ≤ x0 ∧ x0 < 18446744073709551616) ∧ (0 ≤ x1 ∧ x1 < 18446744073709551616) ∧ (0 ≤ x2 ∧ x2 < 18446744073709551616) ∧ (0 ≤ x3 ∧ x3 < 18446744073709551616) := by
  unfold Value.okWide at hval
  rw [Try.underlying31] at hval
  obtain ⟨cs, rfl, hsz, _⟩ := hval
  obtain ⟨c0, c1, c2, c3, rfl⟩ := Go.Joins.array4 (hsz.trans cells31)
  obtain ⟨fuel, hf⟩ := h
  obtain ⟨y0, y1, y2, y3, n, _, h0, h1, h2, h3⟩ := trod_array4 Try.underlying31 cells29 hf
  obtain ⟨x0, e0, _, w0⟩ := DataW.trod_int Try.underlying29 h0
  obtain ⟨x1, e1, _, w1⟩ := DataW.trod_int Try.underlying29 h1
  obtain ⟨x2, e2, _, w2⟩ := DataW.trod_int Try.underlying29 h2
  obtain ⟨x3, e3, _, w3⟩ := DataW.trod_int Try.underlying29 h3
  simp only [List.cons.injEq, and_true] at e0 e1 e2 e3
  subst e0; subst e1; subst e2; subst e3
  exact ⟨x0, x1, x2, x3, rfl, bounds64 w0, bounds64 w1, bounds64 w2, bounds64 w3⟩
set_option maxRecDepth 100000 in
theorem open_W {H : Type} {enc : TypeId × Value → H} {W : World} {base b0 : Nat} {r : Reach} {spare : Nat → Bool} {held : Bool} {v : Value} {d : DataW H} {p : List MemPlace}
    (hval : Value.okWide Try.prog W r b0 31 v) (h : DataW.Trod enc Try.prog W base spare held 31 v d p) : ∃ (x0 x1 x2 x3 : Int) (n : Nat), v = .agg #[.int .u64 x0, .int .u64 x1, .int .u64 x2, .int .u64 x3] ∧ IsW x0 x1 x2 x3 n := by
  obtain ⟨x0, x1, x2, x3, rfl, h0, h1, h2, h3⟩ := open_U hval h
  exact ⟨x0, x1, x2, x3, _, rfl, IsW.mk' (Int.toNat_of_nonneg (by omega)) h0 h1 h2 h3⟩
end Go.Proofs.Ytpdenhmkpiafiaa

/-! U: A NUMBER AS ITS FOUR WORDS ('W4 n'): the contracts of package u256 once more, with the words not behind 'there are', but named by the number. -/
namespace Go.Proofs.Ytpdenhmkpiafiaa
open Go Go.RowKit K6

def W4 (n : Nat) : Array Value := #[.int .u64 (wordsOf n 0), .int .u64 (wordsOf n 1), .int .u64 (wordsOf n 2), .int .u64 (wordsOf n 3)]
theorem W4_arr (n : Nat) : W4 n = arr .u64 (sel4 (wordsOf n 0) (wordsOf n 1) (wordsOf n 2) (wordsOf n 3)) 4 := rfl
theorem W4_size (n : Nat) : (W4 n).size = 4 := rfl
theorem W4_eq {x0 x1 x2 x3 : Int} {n : Nat} (h : IsW x0 x1 x2 x3 n) : #[Value.int .u64 x0, .int .u64 x1, .int .u64 x2, .int .u64 x3] = W4 n := by
  obtain ⟨rfl, rfl, rfl, rfl⟩ := h.uniq (wordsOf_isW n h.ltM)
  rfl
theorem W4_word (n : Nat) (h : n < 18446744073709551616) : #[Value.int .u64 (n : Int), .int .u64 0, .int .u64 0, .int .u64 0] = W4 n := W4_eq (isW_word rfl h)
theorem W4_zero : #[Value.int .u64 0, .int .u64 0, .int .u64 0, .int .u64 0] = W4 0 := W4_eq isW_zero
theorem W4_zero' : arr .u64 (fun _ => 0) 4 = W4 0 := W4_zero
theorem W4_inj {a b : Nat} (ha : a < M) (hb : b < M) (h : W4 a = W4 b) : a = b := by
  unfold W4 at h
  have h0 : wordsOf a 0 = wordsOf b 0 ∧ wordsOf a 1 = wordsOf b 1 ∧ wordsOf a 2 = wordsOf b 2 ∧ wordsOf a 3 = wordsOf b 3 := by simpa using h
  have h1 := (wordsOf_isW a ha).lin
  have h2 := (wordsOf_isW b hb).lin
  obtain ⟨e0, e1, e2, e3⟩ := h0
  rw [e0, e1, e2, e3] at h1
  have := h1.1.trans h2.1.symm
  omega
theorem eqU {a b : Nat} (ha : a < M) (hb : b < M) (w : World) : (Op.equalIn 10000 31 (.agg (W4 a)) (.agg (W4 b))).run Try.prog w = .ok (decide (a = b)) w := by
  unfold W4
  rw [eq31]
  congr 1
  rw [Bool.eq_iff_iff]
  simp only [Bool.and_eq_true, beq_iff_eq, decide_eq_true_eq]
  constructor
  · rintro ⟨h0, h1, h2, h3⟩
    exact W4_inj ha hb (by unfold W4; rw [h0, h1, h2, h3])
  · rintro rfl; exact ⟨rfl, rfl, rfl, rfl⟩
theorem eqU0 {a : Nat} (ha : a < M) (w : World) : (Op.equalIn 10000 31 (.agg (W4 a)) (.agg #[.int .u64 0, .int .u64 0, .int .u64 0, .int .u64 0])).run Try.prog w = .ok (decide (a = 0)) w := by
  rw [W4_zero]; exact eqU ha M_pos w
/-- what a call leaves: this value; below as it was -/
def Ret (w : World) (v : Value) (e : Ending) (w' : World) : Prop := e = .returned v ∧ Below w.heap.size w w'
theorem pair_ret {w : World} {n : Nat} {ok : Bool} {e : Ending} {w' : World} (h : Pair w n ok e w') : Ret w (.tuple #[.agg (W4 n), .bool ok]) e w' := by
  obtain ⟨x0, x1, x2, x3, rfl, hx, hb⟩ := h
  exact ⟨by rw [W4_eq hx], hb⟩
theorem one_ret {w : World} {n : Nat} {e : Ending} {w' : World} (h : One w n e w') : Ret w (.agg (W4 n)) e w' := by
  obtain ⟨x0, x1, x2, x3, rfl, hx, hb⟩ := h
  exact ⟨by rw [W4_eq hx], hb⟩
theorem trip_ret {w : World} {q r : Nat} {ok : Bool} {e : Ending} {w' : World} (h : Trip w q r ok e w') : Ret w (.tuple #[.agg (W4 q), .agg (W4 r), .bool ok]) e w' := by
  obtain ⟨x0, x1, x2, x3, y0, y1, y2, y3, rfl, hx, hy, hb⟩ := h
  exact ⟨by rw [W4_eq hx, W4_eq hy], hb⟩

theorem addU {a b : Nat} (ha : a < M) (hb : b < M) (w : World) : Calls Try.prog 46 #[.agg (W4 a), .agg (W4 b)] w (Ret w (.tuple #[.agg (W4 (addN a b)), .bool (addB a b)])) :=
  (add_any _ _ _ _ _ _ _ _ a b (wordsOf_isW a ha) (wordsOf_isW b hb) w).mono fun _ _ => pair_ret
theorem subU {a b : Nat} (ha : a < M) (hb : b < M) (w : World) : Calls Try.prog 52 #[.agg (W4 a), .agg (W4 b)] w (Ret w (.tuple #[.agg (W4 (a - b)), .bool (subB a b)])) :=
  (sub_any _ _ _ _ _ _ _ _ a b (wordsOf_isW a ha) (wordsOf_isW b hb) w).mono fun _ _ => pair_ret
theorem mulU {a b : Nat} (ha : a < M) (hb : b < M) (w : World) : Calls Try.prog 47 #[.agg (W4 a), .agg (W4 b)] w (Ret w (.tuple #[.agg (W4 (mulN a b)), .bool (mulB a b)])) :=
  (mul_any _ _ _ _ _ _ _ _ a b (wordsOf_isW a ha) (wordsOf_isW b hb) w).mono fun _ _ => pair_ret
theorem divU {a b : Nat} (ha : a < M) (hb : b < M) (w : World) : Calls Try.prog 55 #[.agg (W4 a), .agg (W4 b)] w (Ret w (.tuple #[.agg (W4 (a / b)), .agg (W4 (divR a b)), .bool (decide (b ≠ 0))])) :=
  (div_any _ _ _ _ _ _ _ _ a b (wordsOf_isW a ha) (wordsOf_isW b hb) w).mono fun _ _ => trip_ret
theorem cmpU {a b : Nat} (ha : a < M) (hb : b < M) (w : World) : Calls Try.prog 48 #[.agg (W4 a), .agg (W4 b)] w (Ret w (.int .i64 (cmpN a b))) :=
  cmp_any _ _ _ _ _ _ _ _ a b (wordsOf_isW a ha) (wordsOf_isW b hb) w
theorem minU {a b : Nat} (ha : a < M) (hb : b < M) (w : World) : Calls Try.prog 58 #[.agg (W4 a), .agg (W4 b)] w (Ret w (.agg (W4 (if a ≤ b then a else b)))) :=
  (min_any _ _ _ _ _ _ _ _ a b (wordsOf_isW a ha) (wordsOf_isW b hb) w).mono fun _ _ => one_ret
theorem bitsU {a : Nat} (ha : a < M) (w : World) : Calls Try.prog 49 #[.agg (W4 a)] w (Ret w (.int .i64 (blen a))) :=
  bits_any _ _ _ _ a (wordsOf_isW a ha) w
theorem ofU (n : Nat) (hn : n < 18446744073709551616) (w : World) : Calls Try.prog 103 #[.int .u64 (n : Int)] w (Ret w (.agg (W4 n))) :=
  (of_any (n : Int) n rfl hn w).mono fun _ _ => one_ret
theorem bytesU {a : Nat} (ha : a < M) (w : World) : Calls Try.prog 82 #[.agg (W4 a)] w (Bytes32 w a) := bytes_any _ _ _ _ a (wordsOf_isW a ha) w
theorem textU {a : Nat} (ha : a < M) (w : World) : Calls Try.prog 84 #[.agg (W4 a)] w (Txt w a) := text_any _ _ _ _ a (wordsOf_isW a ha) w
theorem parseU (s : ByteArray) (w : World) : Calls Try.prog 83 #[.string s] w (Ret w (.tuple #[.agg (W4 ((parsN s).getD 0)), .bool (parsN s).isSome])) := (parse_any s w).mono fun _ _ => pair_ret
theorem lives1U (w : World) : Calls Try.prog 50 #[] w (Ret w (.bool true)) := lives1_any w
/-- an argument of type 31, opened (of 'open_W') -/
theorem words_U4 {v : Value} (h : ∃ (x0 x1 x2 x3 : Int) (n : Nat), v = .agg #[.int .u64 x0, .int .u64 x1, .int .u64 x2, .int .u64 x3] ∧ IsW x0 x1 x2 x3 n) : ∃ n : Nat, v = .agg (W4 n) ∧ n < M := by
  obtain ⟨x0, x1, x2, x3, n, rfl, hx⟩ := h
  exact ⟨n, by rw [W4_eq hx], hx.ltM⟩
end Go.Proofs.Ytpdenhmkpiafiaa
