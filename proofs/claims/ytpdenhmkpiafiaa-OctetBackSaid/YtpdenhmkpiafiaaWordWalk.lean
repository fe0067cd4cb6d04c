/-
  THE WALKS OVER ONE WORD: u256.Carry, Borrow, Product: each gives what WordPlain names, and leaves the world alone.
-/
import Derived.Test.YtpdenhmkpiafiaaProg
import Derived.Test.YtpdenhmkpiafiaaWordPlain
import Derived.WalkLawsBesides
namespace Go.Proofs.Ytpdenhmkpiafiaa
open Go Go.RowKit
theorem tuple2 {k : IntKind} {a b c d : Int} (h : a = c) (h' : b = d) : Ending.returned (.tuple #[.int k a, .int k b]) = .returned (.tuple #[.int k c, .int k d]) := by rw [h, h']

theorem carry_any (a b c : Int) (w : World) (ha : 0 ≤ a ∧ a < 18446744073709551616) (hb : 0 ≤ b ∧ b < 18446744073709551616) (hc : 0 ≤ c ∧ c ≤ 1) :
    Calls Try.prog 158 #[.int .u64 a, .int .u64 b, .int .u64 c] w fun e w' => e = .returned (.tuple #[.int .u64 (cS a b c), .int .u64 (cC a b c)]) ∧ w = w' := by
  go_enter Try.func158, Try.ntmps158
  go_wp2
  go_ret2
  exact ⟨tuple2 (sum_eq a b c) (carry_eq a b c ha hb hc), rfl⟩
theorem borrow_any (a b c : Int) (w : World) (ha : 0 ≤ a ∧ a < 18446744073709551616) (hb : 0 ≤ b ∧ b < 18446744073709551616) (hc : 0 ≤ c ∧ c ≤ 1) :
    Calls Try.prog 165 #[.int .u64 a, .int .u64 b, .int .u64 c] w fun e w' => e = .returned (.tuple #[.int .u64 (bS a b c), .int .u64 (bC a b c)]) ∧ w = w' := by
  have hs : IntKind.u64.signed = false := rfl
  go_enter Try.func165, Try.ntmps165
  go_wp2
  go_ret2
  exact ⟨tuple2 (diff_eq a b c) (borrow_eq a b c ha hb hc), rfl⟩
theorem product_any (a b : Int) (w : World) (ha : 0 ≤ a ∧ a < 18446744073709551616) (hb : 0 ≤ b ∧ b < 18446744073709551616) :
    Calls Try.prog 160 #[.int .u64 a, .int .u64 b] w fun e w' => e = .returned (.tuple #[.int .u64 (pH a b), .int .u64 (pL a b)]) ∧ w = w' := by
  go_enter Try.func160, Try.ntmps160
  go_wp2
  go_ret2
  exact ⟨tuple2 (product_eq a b ha hb).1 (product_eq a b ha hb).2, rfl⟩
end Go.Proofs.Ytpdenhmkpiafiaa
