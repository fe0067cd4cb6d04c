/-
  WHETHER TWO NUMBERS OF FOUR WORDS ARE THE SAME: Go's '==' on [4]uint64.
-/
import Derived.Test.YtpdenhmkpiafiaaAdd
import Derived.ChangeKeysEq
namespace Go.Proofs.Ytpdenhmkpiafiaa
open Go Go.RowKit

theorem run_eq4 {P : Program} {t e : TypeId} {i : TypeInfo} (d : Nat) (ht : P.underlying t = some (.array 4 e)) (he : P.underlying e = some (.int .u64)) (hi : P.info? e = some i) (hc : P.cellsOf e = 1)
    (x0 x1 x2 x3 y0 y1 y2 y3 : Int) (w : World) :
    (Op.equalIn (d + 2) t (.agg #[.int .u64 x0, .int .u64 x1, .int .u64 x2, .int .u64 x3]) (.agg #[.int .u64 y0, .int .u64 y1, .int .u64 y2, .int .u64 y3])).run P w = .ok (x0 == y0 && (x1 == y1 && (x2 == y2 && x3 == y3))) w := by
  rw [run_equalIn_array w (d + 1) _ _ ht hi, hc]
  have r4 : List.range 4 = [0, 1, 2, 3] := rfl
  rw [r4]
  have e1 : ∀ (a b : Int) (wx : World), (Op.equalIn (d + 1) e (.int .u64 a) (.int .u64 b)).run P wx = .ok (a == b) wx := fun a b wx => by
    simp [Op.equalIn, run_underlying he]
  simp [Op.eqItems, part, isAgg, run_underlying he, e1]
  by_cases h0 : x0 = y0 <;> by_cases h1 : x1 = y1 <;> by_cases h2 : x2 = y2 <;> by_cases h3 : x3 = y3 <;> simp [h0, h1, h2, h3]
theorem cells29 : Try.prog.cellsOf 29 = 1 := by kernel_rfl
theorem some29 : (Try.prog.info? 29).isSome = true := by kernel_rfl
theorem eq30 (x0 x1 x2 x3 y0 y1 y2 y3 : Int) (w : World) :
    (Op.equalIn 10000 30 (.agg #[.int .u64 x0, .int .u64 x1, .int .u64 x2, .int .u64 x3]) (.agg #[.int .u64 y0, .int .u64 y1, .int .u64 y2, .int .u64 y3])).run Try.prog w = .ok (x0 == y0 && (x1 == y1 && (x2 == y2 && x3 == y3))) w := by
  obtain ⟨i, hi⟩ := Option.isSome_iff_exists.1 some29
  exact run_eq4 9998 Try.underlying30 Try.underlying29 hi cells29 x0 x1 x2 x3 y0 y1 y2 y3 w
theorem eq31 (x0 x1 x2 x3 y0 y1 y2 y3 : Int) (w : World) :
    (Op.equalIn 10000 31 (.agg #[.int .u64 x0, .int .u64 x1, .int .u64 x2, .int .u64 x3]) (.agg #[.int .u64 y0, .int .u64 y1, .int .u64 y2, .int .u64 y3])).run Try.prog w = .ok (x0 == y0 && (x1 == y1 && (x2 == y2 && x3 == y3))) w := by
  obtain ⟨i, hi⟩ := Option.isSome_iff_exists.1 some29
  exact run_eq4 9998 Try.underlying31 Try.underlying29 hi cells29 x0 x1 x2 x3 y0 y1 y2 y3 w
end Go.Proofs.Ytpdenhmkpiafiaa
