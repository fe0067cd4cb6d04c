/-
  A NUMBER AS ITS FOUR WORDS ('W4 n'): the contracts of package u256 once more, with the words not behind 'there are', but named by the number.
-/
import Derived.Test.YtpdenhmkpiafiaaParse
import Derived.Test.YtpdenhmkpiafiaaFrame
import Derived.Test.YtpdenhmkpiafiaaLives1
namespace Go.Proofs.Ytpdenhmkpiafiaa
open Go Go.RowKit K6

def W4 (n : Nat) : Array Value := #[.int .u64 (wordsOf n 0), .int .u64 (wordsOf n 1), .int .u64 (wordsOf n 2), .int .u64 (wordsOf n 3)]
theorem W4_arr (n : Nat) : W4 n = arr .u64 (sel4 (wordsOf n 0) (wordsOf n 1) (wordsOf n 2) (wordsOf n 3)) 4 := rfl
theorem W4_size (n : Nat) : (W4 n).size = 4 := rfl
theorem W4_eq {x0 x1 x2 x3 : Int} {n : Nat} (h : IsW x0 x1 x2 x3 n) : #[Value.int .u64 x0, .int .u64 x1, .int .u64 x2, .int .u64 x3] = W4 n := by
  obtain ⟨rfl, rfl, rfl, rfl⟩ := h.uniq (wordsOf_isW n h.ltM)
  rfl
theorem W4_word (n : Nat) (h : n < 18446744073709551616) : #[Value.int .u64 (n : Int), .int .u64 0, .int .u64 0, .int .u64 0] = W4 n := W4_eq (isW_word rfl h)
theorem W4_zero : #[Value.int .u64 0, .int .u64 0, .int .u64 0, .int .u64 0] = W4 0 := W4_eq isW_zero
theorem W4_zero' : arr .u64 (fun _ => 0) 4 = W4 0 := W4_zero
theorem W4_inj {a b : Nat} (ha : a < M) (hb : b < M) (h : W4 a = W4 b) : a = b := by
  unfold W4 at h
  have h0 : wordsOf a 0 = wordsOf b 0 ∧ wordsOf a 1 = wordsOf b 1 ∧ wordsOf a 2 = wordsOf b 2 ∧ wordsOf a 3 = wordsOf b 3 := by simpa using h
  have h1 := (wordsOf_isW a ha).lin
  have h2 := (wordsOf_isW b hb).lin
  obtain ⟨e0, e1, e2, e3⟩ := h0
  rw [e0, e1, e2, e3] at h1
  have := h1.1.trans h2.1.symm
  omega
theorem eqU {a b : Nat} (ha : a < M) (hb : b < M) (w : World) : (Op.equalIn 10000 31 (.agg (W4 a)) (.agg (W4 b))).run Try.prog w = .ok (decide (a = b)) w := by
  unfold W4
  rw [eq31]
  congr 1
  rw [Bool.eq_iff_iff]
  simp only [Bool.and_eq_true, beq_iff_eq, decide_eq_true_eq]
  constructor
  · rintro ⟨h0, h1, h2, h3⟩
    exact W4_inj ha hb (by unfold W4; rw [h0, h1, h2, h3])
  · rintro rfl; exact ⟨rfl, rfl, rfl, rfl⟩
theorem eqU0 {a : Nat} (ha : a < M) (w : World) : (Op.equalIn 10000 31 (.agg (W4 a)) (.agg #[.int .u64 0, .int .u64 0, .int .u64 0, .int .u64 0])).run Try.prog w = .ok (decide (a = 0)) w := by
  rw [W4_zero]; exact eqU ha M_pos w
/-- what a call leaves: this value; below as it was -/
def Ret (w : World) (v : Value) (e : Ending) (w' : World) : Prop := e = .returned v ∧ Below w.heap.size w w'
theorem pair_ret {w : World} {n : Nat} {ok : Bool} {e : Ending} {w' : World} (h : Pair w n ok e w') : Ret w (.tuple #[.agg (W4 n), .bool ok]) e w' := by
  obtain ⟨x0, x1, x2, x3, rfl, hx, hb⟩ := h
  exact ⟨by rw [W4_eq hx], hb⟩
theorem one_ret {w : World} {n : Nat} {e : Ending} {w' : World} (h : One w n e w') : Ret w (.agg (W4 n)) e w' := by
  obtain ⟨x0, x1, x2, x3, rfl, hx, hb⟩ := h
  exact ⟨by rw [W4_eq hx], hb⟩
theorem trip_ret {w : World} {q r : Nat} {ok : Bool} {e : Ending} {w' : World} (h : Trip w q r ok e w') : Ret w (.tuple #[.agg (W4 q), .agg (W4 r), .bool ok]) e w' := by
  obtain ⟨x0, x1, x2, x3, y0, y1, y2, y3, rfl, hx, hy, hb⟩ := h
  exact ⟨by rw [W4_eq hx, W4_eq hy], hb⟩

theorem addU {a b : Nat} (ha : a < M) (hb : b < M) (w : World) : Calls Try.prog 46 #[.agg (W4 a), .agg (W4 b)] w (Ret w (.tuple #[.agg (W4 (addN a b)), .bool (addB a b)])) :=
  (add_any _ _ _ _ _ _ _ _ a b (wordsOf_isW a ha) (wordsOf_isW b hb) w).mono fun _ _ => pair_ret
theorem subU {a b : Nat} (ha : a < M) (hb : b < M) (w : World) : Calls Try.prog 52 #[.agg (W4 a), .agg (W4 b)] w (Ret w (.tuple #[.agg (W4 (a - b)), .bool (subB a b)])) :=
  (sub_any _ _ _ _ _ _ _ _ a b (wordsOf_isW a ha) (wordsOf_isW b hb) w).mono fun _ _ => pair_ret
theorem mulU {a b : Nat} (ha : a < M) (hb : b < M) (w : World) : Calls Try.prog 47 #[.agg (W4 a), .agg (W4 b)] w (Ret w (.tuple #[.agg (W4 (mulN a b)), .bool (mulB a b)])) :=
  (mul_any _ _ _ _ _ _ _ _ a b (wordsOf_isW a ha) (wordsOf_isW b hb) w).mono fun _ _ => pair_ret
theorem divU {a b : Nat} (ha : a < M) (hb : b < M) (w : World) : Calls Try.prog 55 #[.agg (W4 a), .agg (W4 b)] w (Ret w (.tuple #[.agg (W4 (a / b)), .agg (W4 (divR a b)), .bool (decide (b ≠ 0))])) :=
  (div_any _ _ _ _ _ _ _ _ a b (wordsOf_isW a ha) (wordsOf_isW b hb) w).mono fun _ _ => trip_ret
theorem cmpU {a b : Nat} (ha : a < M) (hb : b < M) (w : World) : Calls Try.prog 48 #[.agg (W4 a), .agg (W4 b)] w (Ret w (.int .i64 (cmpN a b))) :=
  cmp_any _ _ _ _ _ _ _ _ a b (wordsOf_isW a ha) (wordsOf_isW b hb) w
theorem minU {a b : Nat} (ha : a < M) (hb : b < M) (w : World) : Calls Try.prog 58 #[.agg (W4 a), .agg (W4 b)] w (Ret w (.agg (W4 (if a ≤ b then a else b)))) :=
  (min_any _ _ _ _ _ _ _ _ a b (wordsOf_isW a ha) (wordsOf_isW b hb) w).mono fun _ _ => one_ret
theorem bitsU {a : Nat} (ha : a < M) (w : World) : Calls Try.prog 49 #[.agg (W4 a)] w (Ret w (.int .i64 (blen a))) :=
  bits_any _ _ _ _ a (wordsOf_isW a ha) w
theorem ofU (n : Nat) (hn : n < 18446744073709551616) (w : World) : Calls Try.prog 103 #[.int .u64 (n : Int)] w (Ret w (.agg (W4 n))) :=
  (of_any (n : Int) n rfl hn w).mono fun _ _ => one_ret
theorem bytesU {a : Nat} (ha : a < M) (w : World) : Calls Try.prog 82 #[.agg (W4 a)] w (Bytes32 w a) := bytes_any _ _ _ _ a (wordsOf_isW a ha) w
theorem textU {a : Nat} (ha : a < M) (w : World) : Calls Try.prog 84 #[.agg (W4 a)] w (Txt w a) := text_any _ _ _ _ a (wordsOf_isW a ha) w
theorem parseU (s : ByteArray) (w : World) : Calls Try.prog 83 #[.string s] w (Ret w (.tuple #[.agg (W4 ((parsN s).getD 0)), .bool (parsN s).isSome])) := (parse_any s w).mono fun _ _ => pair_ret
theorem lives1U (w : World) : Calls Try.prog 50 #[] w (Ret w (.bool true)) := lives1_any w
/-- an argument of type 31, opened (of 'open_W') -/
theorem words_U4 {v : Value} (h : ∃ (x0 x1 x2 x3 : Int) (n : Nat), v = .agg #[.int .u64 x0, .int .u64 x1, .int .u64 x2, .int .u64 x3] ∧ IsW x0 x1 x2 x3 n) : ∃ n : Nat, v = .agg (W4 n) ∧ n < M := by
  obtain ⟨x0, x1, x2, x3, n, rfl, hx⟩ := h
  exact ⟨n, by rw [W4_eq hx], hx.ltM⟩
end Go.Proofs.Ytpdenhmkpiafiaa
