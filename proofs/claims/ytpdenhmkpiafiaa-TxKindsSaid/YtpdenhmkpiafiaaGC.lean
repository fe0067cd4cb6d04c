/-
  u256.Div over long divisors, Bytes, FromBytes.
-/
import Derived.Test.YtpdenhmkpiafiaaGA

/-! DivLong: u256.Div, the long way: bit by bit. -/
namespace Go.Proofs.Ytpdenhmkpiafiaa
open Go Go.RowKit

/-- the bit of a that comes next -/
def bitN (a k : Nat) : Nat := a / 2 ^ k % 2
theorem bitN_le (a k : Nat) : bitN a k ≤ 1 := by unfold bitN; omega
theorem IsW.word {x0 x1 x2 x3 : Int} {a j : Nat} (h : IsW x0 x1 x2 x3 a) (hj : j < 4) : sel4 x0 x1 x2 x3 j = ((a / 2 ^ (64 * j) % 2 ^ 64 : Nat) : Int) := by
  have hl := h.lin
  have : j = 0 ∨ j = 1 ∨ j = 2 ∨ j = 3 := by omega
  rcases this with rfl | rfl | rfl | rfl <;> simp [sel4] <;> omega
theorem bit_word {x0 x1 x2 x3 : Int} {a k : Nat} (h : IsW x0 x1 x2 x3 a) (hk : k / 64 < 4) : bits .and .u64 (sel4 x0 x1 x2 x3 (k / 64) / 2 ^ (k % 64)) 1 = ((bitN a k : Nat) : Int) := by
  rw [h.word hk]
  generalize hX : a / 2 ^ (64 * (k / 64)) % 2 ^ 64 = X
  have hXlt : X < 18446744073709551616 := by rw [← hX]; exact Nat.mod_lt _ (by decide)
  have e : ((X : Int) / 2 ^ (k % 64)) = ((X / 2 ^ (k % 64) : Nat) : Int) := by rw [Int.natCast_ediv, Int.natCast_pow]; rfl
  rw [e, show (1 : Int) = ((1 : Nat) : Int) from rfl, u64_and_nat _ 1 (Nat.lt_of_le_of_lt (Nat.div_le_self _ _) hXlt) (by decide), Nat.and_one_is_mod]
  congr 1
  unfold bitN
  have t1 := Nat.testBit_eq_decide_div_mod_eq (x := X) (i := k % 64)
  have t2 := Nat.testBit_eq_decide_div_mod_eq (x := a) (i := k)
  have t3 : X.testBit (k % 64) = a.testBit k := by
    rw [← hX, Nat.testBit_mod_two_pow, Nat.testBit_div_two_pow]
    have : k % 64 < 64 := Nat.mod_lt _ (by decide)
    simp [this]
    congr 1; omega
  rw [t3, t2] at t1
  have h1 : X / 2 ^ (k % 64) % 2 < 2 := Nat.mod_lt _ (by decide)
  have h2 : a / 2 ^ k % 2 < 2 := Nat.mod_lt _ (by decide)
  have h3 : (a / 2 ^ k % 2 = 1) ↔ (X / 2 ^ (k % 64) % 2 = 1) := by simpa using t1
  omega
theorem half_step (a k : Nat) : a / 2 ^ k = 2 * (a / 2 ^ (k + 1)) + bitN a k := by
  unfold bitN
  rw [Nat.pow_succ, ← Nat.div_div_eq_div_mul]; omega
theorem Row.four4 {w : World} {g t : Nat} {k : IntKind} {x0 x1 x2 x3 : Int} (h : Row w g t (arr k (sel4 x0 x1 x2 x3) 4)) :
    (w.cell? ⟨g, 0, none⟩ = some (.int k x0) ∧ w.cell? ⟨g, 1, none⟩ = some (.int k x1) ∧ w.cell? ⟨g, 2, none⟩ = some (.int k x2) ∧ w.cell? ⟨g, 3, none⟩ = some (.int k x3)) ∧
    w.frozen? ⟨g, 0, none⟩ = false ∧ w.frozen? ⟨g, 1, none⟩ = false ∧ w.frozen? ⟨g, 2, none⟩ = false ∧ w.frozen? ⟨g, 3, none⟩ = false := h.four
/-- what one round of the long division makes of quotient and rest -/
def qN (q r b t : Nat) : Nat := if b ≤ 2 * r + t then 2 * q + 1 else 2 * q
def rN (r b t : Nat) : Nat := if b ≤ 2 * r + t then 2 * r + t - b else 2 * r + t
theorem div_round (a b k : Nat) (hb : b ≠ 0) : a / 2 ^ k / b = qN (a / 2 ^ (k + 1) / b) (a / 2 ^ (k + 1) % b) b (bitN a k) ∧ a / 2 ^ k % b = rN (a / 2 ^ (k + 1) % b) b (bitN a k) := by
  have hs := half_step a k
  have hbl := bitN_le a k
  generalize bitN a k = t at *
  generalize a / 2 ^ (k + 1) = p at *
  generalize a / 2 ^ k = n at *
  have hd := Nat.div_add_mod p b
  have hm := Nat.mod_lt p (show 0 < b by omega)
  generalize p / b = q at *
  generalize p % b = r at *
  subst hs
  have e : 2 * p + t = b * (2 * q) + (2 * r + t) := by rw [← hd, Nat.mul_add, ← Nat.mul_assoc, ← Nat.mul_assoc, Nat.mul_comm b 2]; omega
  unfold qN rN
  by_cases h : b ≤ 2 * r + t
  · rw [if_pos h, if_pos h]
    have e2 : 2 * p + t = (2 * r + t - b) + b * (2 * q + 1) := by rw [e, Nat.mul_add]; omega
    exact ⟨by rw [e2, Nat.add_mul_div_left _ _ (by omega), Nat.div_eq_of_lt (by omega), Nat.zero_add], by rw [e2, Nat.add_mul_mod_self_left, Nat.mod_eq_of_lt (by omega)]⟩
  · rw [if_neg h, if_neg h]
    have e2 : 2 * p + t = (2 * r + t) + b * (2 * q) := by rw [e, Nat.add_comm]
    exact ⟨by rw [e2, Nat.add_mul_div_left _ _ (by omega), Nat.div_eq_of_lt (by omega), Nat.zero_add], by rw [e2, Nat.add_mul_mod_self_left, Nat.mod_eq_of_lt (by omega)]⟩
theorem or_one {x0 x1 x2 x3 : Int} {n : Nat} (h : IsW x0 x1 x2 x3 (2 * n)) (_hlt : 2 * n + 1 < M) : IsW (bits .or .u64 x0 1) x1 x2 x3 (2 * n + 1) := by
  have hl := h.lin
  have he : bits .or .u64 x0 1 = x0 + 1 := by
    obtain ⟨X, rfl⟩ := Int.eq_ofNat_of_zero_le hl.2.1.1
    have hX : X % 2 = 0 := by omega
    rw [show (1 : Int) = ((1 : Nat) : Int) from rfl, u64_or_nat X 1 (by omega) (by decide)]
    have := Nat.two_pow_add_eq_or_of_lt (i := 1) (b := 1) (by omega) (X / 2)
    rw [show 2 ^ 1 * (X / 2) = X by omega] at this
    rw [← this]; omega
  rw [he]
  exact IsW.mk' (by omega) (by omega) hl.2.2.1 hl.2.2.2.1 hl.2.2.2.2
theorem way_low {r t b : Nat} (h : 2 * r + t < b) (hb : b < M) : dblN r t = 2 * r + t ∧ dblC r t = 0 ∧ subB (2 * r + t) b = false ∧ 2 * r + t - b = 0 := by
  refine ⟨Nat.mod_eq_of_lt (by omega), Nat.div_eq_of_lt (by omega), decide_eq_false (by omega), by omega⟩
theorem way_mid {r t b : Nat} (h : b ≤ 2 * r + t) (hM : 2 * r + t < M) : dblN r t = 2 * r + t ∧ dblC r t = 0 ∧ subB (2 * r + t) b = true := by
  refine ⟨Nat.mod_eq_of_lt (by omega), Nat.div_eq_of_lt (by omega), decide_eq_true (by omega)⟩
theorem way_high {r t b : Nat} (hr : r < b) (ht : t ≤ 1) (hb : b < M) (hM : M ≤ 2 * r + t) : dblN r t = 2 * r + t - M ∧ dblC r t = 1 ∧ subB (2 * r + t - M) b = false ∧ wrapN (2 * r + t - M) b = 2 * r + t - b ∧ b ≤ 2 * r + t := by
  have e : 2 * r + t = (2 * r + t - M) + M := by omega
  refine ⟨?_, ?_, decide_eq_false (by omega), ?_, by omega⟩
  · unfold dblN; rw [e, Nat.add_mod_right, Nat.mod_eq_of_lt (by omega)]; omega
  · unfold dblC; rw [e, Nat.add_div_right _ (by omega), Nat.div_eq_of_lt (by omega)]
  · unfold wrapN; rw [Nat.mod_eq_of_lt (by omega)]; omega
theorem lt_blen (n : Nat) : n < 2 ^ blen n := by
  unfold blen
  split
  · rename_i h; rw [h]; decide
  · exact Nat.lt_log2_self
theorem quo_dbl {q : Nat} (h : 2 * q < M) : dblN q 0 = 2 * q := Nat.mod_eq_of_lt (by omega)

set_option maxRecDepth 100000 in
set_option maxHeartbeats 4000000 in
theorem div_long (a0 a1 a2 a3 b0 b1 b2 b3 : Int) (a b : Nat) (ha : IsW a0 a1 a2 a3 a) (hb : IsW b0 b1 b2 b3 b) (hb0 : b ≠ 0) (hge : b ≤ a) (hw : (b1 == 0 && (b2 == 0 && b3 == 0)) = false ∨ ((b1 == 0 && (b2 == 0 && b3 == 0)) = true ∧ decide (b0 ≤ 4294967295) = false)) (w : World) :
    Calls Try.prog 55 #[.agg #[.int .u64 a0, .int .u64 a1, .int .u64 a2, .int .u64 a3], .agg #[.int .u64 b0, .int .u64 b1, .int .u64 b2, .int .u64 b3]] w (Trip w (a / b) (a % b) true) := by
  have q1 : ∀ wx, (Op.equalIn 10000 31 (.agg #[.int .u64 b0, .int .u64 b1, .int .u64 b2, .int .u64 b3]) (.agg #[.int .u64 0, .int .u64 0, .int .u64 0, .int .u64 0])).run Try.prog wx = .ok false wx := fun wx => by rw [eq31, hb.nonzero hb0]
  have q2 : ∀ wx, (Op.equalIn 10000 31 (.agg #[.int .u64 b0, .int .u64 b1, .int .u64 b2, .int .u64 b3]) (.agg #[.int .u64 b0, .int .u64 0, .int .u64 0, .int .u64 0])).run Try.prog wx = .ok (b1 == 0 && (b2 == 0 && b3 == 0)) wx := fun wx => by rw [eq31]; simp
  have hc : ¬ cmpN a b < 0 := by unfold cmpN; rw [if_neg (by omega)]; split <;> omega
  have hbl := blen_le (n := a) (k := 256) (by have := ha.ltM; unfold M at this; exact this)
  rcases hw with hw | ⟨hw, hw2⟩
  all_goals
    rw [hw] at q2
    clear hw
    go_enter Try.func55, Try.ntmps55
    go_wp2_with fail
    refine (cmp_any _ _ _ _ _ _ _ _ a b ha hb _).mono ?_
    rintro e w1 ⟨rfl, hb1⟩
    obtain ⟨hc1, hf1⟩ := bcell hb1
    have hl1 : Below w.heap.size w w1 := Below.trans (by go_grown) (hb1.mono (by go_size))
    have hz1 := hb1.size
    simp at hz1
    have ra : Row w1 w.heap.size 31 (arr .u64 (sel4 a0 a1 a2 a3) 4) := Row.below (by repeat (first | (refine Row.new_at ?_; simp; done) | refine Row.alloc ?_ _)) hb1 (by go_size)
    have rb : Row w1 (w.heap.size + 1) 31 (arr .u64 (sel4 b0 b1 b2 b3) 4) := Row.below (by repeat (first | (refine Row.new_at ?_; simp; done) | refine Row.alloc ?_ _)) hb1 (by go_size)
    have r2 : Row w1 (w.heap.size + 1 + 1) 31 (arr .u64 (fun _ => 0) 4) := Row.below (by repeat (first | (refine Row.new_at ?_; simp; done) | refine Row.alloc ?_ _)) hb1 (by go_size)
    have r3 : Row w1 (w.heap.size + 1 + 1 + 1) 31 (arr .u64 (fun _ => 0) 4) := Row.below (by repeat (first | (refine Row.new_at ?_; simp; done) | refine Row.alloc ?_ _)) hb1 (by go_size)
    have z1 : w.heap.size < w1.heap.size := by omega
    have z2 : w.heap.size + 1 < w1.heap.size := by omega
    go_wp2_with fail
    refine (bits_any _ _ _ _ a ha _).mono ?_
    rintro e w2 ⟨rfl, hb2⟩
    have hl2 : Below w.heap.size w w2 := Below.trans (by go_grown) (hb2.mono (by simp; omega))
    have sa : Row w2 w.heap.size 31 _ := Row.below ((ra.alloc _).alloc _) hb2 (by simp; omega)
    have sb : Row w2 (w.heap.size + 1) 31 _ := Row.below ((rb.alloc _).alloc _) hb2 (by simp; omega)
    have s2 : Row w2 (w.heap.size + 1 + 1) 31 _ := Row.below ((r2.alloc _).alloc _) hb2 (by simp; omega)
    have s3 : Row w2 (w.heap.size + 1 + 1 + 1) 31 _ := Row.below ((r3.alloc _).alloc _) hb2 (by simp; omega)
    have sq : Row w2 w1.heap.size 31 (arr .u64 (fun _ => 0) 4) := Row.below ((Row.new_at rfl).alloc _) hb2 (by simp; omega)
    have sr : Row w2 (w1.heap.size + 1) 31 (arr .u64 (fun _ => 0) 4) := Row.below (Row.new_at (by simp)) hb2 (by simp)
    obtain ⟨N, hN⟩ : ∃ N, N = w1.heap.size := ⟨_, rfl⟩
    rw [← hN] at sq sr hz1 ⊢
    have zN3 : w.heap.size + 1 + 1 + 1 < N := by omega
    clear hN ra rb r2 r3 hl1 hb1 hb2 hc1 hf1
    go_wp2_with fail
    go_loopg [11] (blen a) (fun g iv wr => ∃ q0 q1 q2 q3 r0 r1 r2 r3 : Int, g ≤ blen a ∧ iv = .int .i64 ((g : Int) - 1) ∧ N + 1 < wr.heap.size ∧ Below w.heap.size w wr ∧
      Row wr w.heap.size 31 (arr .u64 (sel4 a0 a1 a2 a3) 4) ∧ Row wr (w.heap.size + 1) 31 (arr .u64 (sel4 b0 b1 b2 b3) 4) ∧ Row wr (w.heap.size + 1 + 1) 31 (arr .u64 (fun _ => 0) 4) ∧ Row wr (w.heap.size + 1 + 1 + 1) 31 (arr .u64 (fun _ => 0) 4) ∧
      Row wr N 31 (arr .u64 (sel4 q0 q1 q2 q3) 4) ∧ Row wr (N + 1) 31 (arr .u64 (sel4 r0 r1 r2 r3) 4) ∧ IsW q0 q1 q2 q3 (a / 2 ^ g / b) ∧ IsW r0 r1 r2 r3 (a / 2 ^ g % b))
    case atStart =>
      refine ⟨0, 0, 0, 0, 0, 0, 0, 0, Nat.le_refl _, rfl, sr.lt, hl2, sa, sb, s2, s3, sq, sr, ?_, ?_⟩
      · rw [show a / 2 ^ blen a = 0 from Nat.div_eq_of_lt (lt_blen a), Nat.zero_div]; exact isW_zero
      · rw [show a / 2 ^ blen a = 0 from Nat.div_eq_of_lt (lt_blen a), Nat.zero_mod]; exact isW_zero
    case round =>
      obtain ⟨q0, q1, q2, q3, r0, r1, r2, r3, hg, rfl, hz, hl, ra, rb, rs2, rs3, rq, rr, hq, hr⟩ := hrel
      by_cases h0 : 0 < gk
      · obtain ⟨k, rfl⟩ : ∃ k, gk = k + 1 := ⟨gk - 1, by omega⟩
        rw [show (((k + 1 : Nat) : Int) - 1) = (k : Int) from by omega]
        have hk64 : k / 64 < 4 := by omega
        have ca := ra.at_ (k / 64) hk64
        have zN : N < wr.heap.size := by omega
        obtain ⟨⟨d0, d1, d2, d3⟩, f0, f1, f2, f3⟩ := rr.four4
        have hbit := bit_word ha hk64
        have S := Lib.hid (show _ ∧ _ ∧ _ ∧ _ ∧ _ ∧ _ ∧ _ from ⟨ra, rb, rs2, rs3, rq, rr, hbit⟩)
        clear ra rb rs2 rs3 rq rr h0 hbit
        have t1 : ((k : Int)).tdiv 64 = (k : Int) / 64 := Int.tdiv_eq_ediv_of_nonneg (by omega)
        have t2 : ((k : Int)).tmod 64 = (k : Int) % 64 := Int.tmod_eq_emod_of_nonneg (by omega)
        have t3 : IntKind.i64.wrap ((k : Int) / 64) = (k : Int) / 64 := IntWalk.i64_in _ (by omega)
        have t4 : IntKind.i64.wrap ((k : Int) % 64) = (k : Int) % 64 := IntWalk.i64_in _ (by omega)
        have t5 : (k : Int) / 64 < 4 := by omega
        have t6 : 0 ≤ (k : Int) / 64 := by omega
        have t7 : 0 ≤ (k : Int) % 64 := by omega
        have t8 : (k : Int) % 64 < 64 := by omega
        have t9 : ((k : Int) / 64).toNat = k / 64 := by omega
        have t10 : ((k : Int) % 64).toNat = k % 64 := by omega
        go_wp2_with fail
        go_cut [12] (fun v wc => ∃ y0 y1 y2 y3 : Int, v = .int .u64 (dblC (a / 2 ^ (k + 1) % b) (bitN a k)) ∧ N + 1 < wc.heap.size ∧ Below w.heap.size w wc ∧
          Row wc w.heap.size 31 (arr .u64 (sel4 a0 a1 a2 a3) 4) ∧ Row wc (w.heap.size + 1) 31 (arr .u64 (sel4 b0 b1 b2 b3) 4) ∧ Row wc (w.heap.size + 1 + 1) 31 (arr .u64 (fun _ => 0) 4) ∧ Row wc (w.heap.size + 1 + 1 + 1) 31 (arr .u64 (fun _ => 0) 4) ∧
          Row wc N 31 (arr .u64 (sel4 q0 q1 q2 q3) 4) ∧ Row wc (N + 1) 31 (arr .u64 (sel4 y0 y1 y2 y3) 4) ∧ IsW y0 y1 y2 y3 (dblN (a / 2 ^ (k + 1) % b) (bitN a k)))
        case first =>
          go_region_with (go_at_call 169; refine (double_any _ _ _ _ _ _ _ hr S.out.2.2.2.2.2.2 (bitN_le a k) _).mono ?_; rintro e w3 ⟨y0, y1, y2, y3, rfl, hy, hb3⟩; obtain ⟨⟨v0, v1, v2, v3⟩, e0, e1, e2, e3⟩ := (S.out.2.2.2.2.2.1.drew.below hb3 S.out.2.2.2.2.2.1.lt).four4; obtain ⟨n0, n1⟩ := (show w3.cell? ⟨w.heap.size, k / 64, none⟩ = some (.int .u64 (sel4 a0 a1 a2 a3 (k / 64))) ∧ True from ⟨(S.out.1.drew.below hb3 S.out.1.lt).at_ _ hk64, trivial⟩))
          all_goals
            obtain ⟨ra, rb, rs2, rs3, rq, rr, _⟩ := S.out
            go_wp2_with fail
            go_meet
            case rel =>
              refine ⟨y0, y1, y2, y3, rfl, ?_, ?_, (ra.drew.below hb3 ra.lt).far4 (by omega) _ _ _ _, (rb.drew.below hb3 rb.lt).far4 (by omega) _ _ _ _, (rs2.drew.below hb3 rs2.lt).far4 (by omega) _ _ _ _, (rs3.drew.below hb3 rs3.lt).far4 (by omega) _ _ _ _, (rq.drew.below hb3 rq.lt).far4 (by omega) _ _ _ _, (rr.drew.below hb3 rr.lt).store4 rfl _ _ _ _, hy⟩
              · have := hb3.size; simp at this ⊢; omega
              · have h3 := hl.drew.trans (hb3.mono hl.size)
                refine Below.setCell (Below.setCell (Below.setCell (Below.setCell h3 ?_ _) ?_ _) ?_ _) ?_ _ <;> (dsimp only; omega)
        case rest =>
          obtain ⟨y0, y1, y2, y3, rfl, hz3, hl3, ra, rb, rs2, rs3, rq, rr, hy⟩ := hcut
          clear t1 t2 t3 t4 t5 t6 t7 t8 t9 t10 d0 d1 d2 d3 f0 f1 f2 f3 ca
          obtain ⟨⟨c0, c1, c2, c3⟩, _⟩ := rq.four4
          have S3 := Lib.hid (show _ ∧ _ ∧ _ ∧ _ ∧ _ ∧ _ from ⟨ra, rb, rs2, rs3, rq, rr⟩)
          clear ra rb rs2 rs3 rq rr S
          have hdr := div_round a b k hb0
          have hrb := Nat.mod_lt (a / 2 ^ (k + 1)) (show 0 < b by omega)
          have hbM := hb.ltM
          have haM := ha.ltM
          have hqle : a / 2 ^ k / b ≤ a := Nat.le_trans (Nat.div_le_self _ _) (Nat.div_le_self _ _)
          have htl := bitN_le a k
          have hq2 : 2 * (a / 2 ^ (k + 1) / b) ≤ a / 2 ^ k / b := by rw [hdr.1]; unfold qN; split <;> omega
          have hqd : dblN (a / 2 ^ (k + 1) / b) 0 = 2 * (a / 2 ^ (k + 1) / b) := quo_dbl (by omega)
          have D := Lib.hid (show _ ∧ _ ∧ _ ∧ _ ∧ _ ∧ _ ∧ _ ∧ _ from ⟨hdr, hrb, hbM, haM, hqle, htl, hq2, hqd⟩)
          clear hdr hrb hbM haM hqle htl hq2 hqd
          go_wp2_with fail
          refine (double_any _ _ _ _ _ _ 0 hq rfl (by omega) _).mono ?_
          rintro e w4 ⟨z0, z1, z2, z3, rfl, hzz, hb4⟩
          obtain ⟨ra, rb, rs2, rs3, rq, rr⟩ := S3.out
          have ra4 := ra.below hb4 ra.lt
          have rb4 := rb.below hb4 rb.lt
          have rs24 := rs2.below hb4 rs2.lt
          have rs34 := rs3.below hb4 rs3.lt
          have rq4 := rq.below hb4 rq.lt
          have rr4 := rr.below hb4 rr.lt
          have hl4 := hl3.trans (hb4.mono hl3.size)
          obtain ⟨⟨m0, m1, m2, m3⟩, mf0, mf1, mf2, mf3⟩ := rq4.four4
          obtain ⟨⟨o0, o1, o2, o3⟩, of0, of1, of2, of3⟩ := rr4.four4
          obtain ⟨⟨p0, p1, p2, p3⟩, _⟩ := rb4.four4
          have S4 := Lib.hid (show _ ∧ _ ∧ _ ∧ _ ∧ _ ∧ _ ∧ _ from ⟨ra4, rb4, rs24, rs34, rq4, rr4, hl4⟩)
          clear ra rb rs2 rs3 rq rr ra4 rb4 rs24 rs34 rq4 rr4 hl4 hb4 S3 c0 c1 c2 c3
          go_wp2_with fail
          refine (sub_any _ _ _ _ _ _ _ _ _ b hy hb _).mono ?_
          rintro e w5 ⟨u0, u1, u2, u3, rfl, hu, hb5⟩
          obtain ⟨ra4, rb4, rs24, rs34, rq4, rr4, hl4⟩ := S4.out
          have ra5 := Row.below (ra4.far4 (by omega) _ _ _ _) hb5 (by have := ra4.lt; simp; omega)
          have rb5 := Row.below (rb4.far4 (by omega) _ _ _ _) hb5 (by have := rb4.lt; simp; omega)
          have rs25 := Row.below (rs24.far4 (by omega) _ _ _ _) hb5 (by have := rs24.lt; simp; omega)
          have rs35 := Row.below (rs34.far4 (by omega) _ _ _ _) hb5 (by have := rs34.lt; simp; omega)
          have rq5 := Row.below (rq4.store4 rfl _ _ _ _) hb5 (by have := rq4.lt; simp; omega)
          have rr5 := Row.below (rr4.far4 (by omega) _ _ _ _) hb5 (by have := rr4.lt; simp; omega)
          have hl5 : Below w.heap.size w w5 := Below.trans (Below.setCell (Below.setCell (Below.setCell (Below.setCell hl4 (by dsimp only; omega) _) (by dsimp only; omega) _) (by dsimp only; omega) _) (by dsimp only; omega) _) (hb5.mono (by simp; have := hl4.size; omega))
          have zn1 := rr5.lt
          have zn := rq5.lt
          have zb := rb5.lt
          have rq5 : Row w5 N 31 (arr .u64 (sel4 z0 z1 z2 z3) 4) := rq5
          have rr5 : Row w5 (N + 1) 31 (arr .u64 (sel4 y0 y1 y2 y3) 4) := rr5
          obtain ⟨⟨m0, m1, m2, m3⟩, mf0, mf1, mf2, mf3⟩ := rq5.four4
          obtain ⟨⟨o0, o1, o2, o3⟩, of0, of1, of2, of3⟩ := rr5.four4
          obtain ⟨⟨p0, p1, p2, p3⟩, _⟩ := rb5.four4
          have S5 := Lib.hid (show _ ∧ _ ∧ _ ∧ _ ∧ _ ∧ _ ∧ _ from ⟨ra5, rb5, rs25, rs35, rq5, rr5, hl5⟩)
          clear ra4 rb4 rs24 rs34 rq4 rr4 hl4 ra5 rb5 rs25 rs35 rq5 rr5 hl5 hb5 S4
          obtain ⟨hdr, hrb, hbM, haM, hqle, htl, hq2, hqd⟩ := D.out
          generalize hp : a / 2 ^ (k + 1) % b = r at *
          generalize ht : bitN a k = t at *
          rcases Nat.lt_or_ge (2 * r + t) b with hA | hA
          · obtain ⟨e1, e2, e3, e4⟩ := way_low hA hbM
            rw [e1] at hy hu
            rw [e1, e2, e3]
            rw [e4] at hu
            have D := Lib.hid (show _ ∧ _ ∧ _ ∧ _ ∧ _ ∧ _ from ⟨hdr, hA, hqd, hy, hzz, hu⟩)
            clear hdr hrb hbM haM hqle htl hq2 hqd e1 e2 e3 e4 hA hp ht
            go_wp2_with fail
            go_roundg k
            case measure => omega
            case rel =>
              obtain ⟨ra5, rb5, rs25, rs35, rq5, rr5, hl5⟩ := S5.out
              obtain ⟨hdr, hA, hqd, hy, hzz, hu⟩ := D.out
              refine ⟨_, _, _, _, _, _, _, _, by omega, rfl, by simp; omega, hl5.alloc (by omega) _, ra5.alloc _, rb5.alloc _, rs25.alloc _, rs35.alloc _, rq5.alloc _, rr5.alloc _, ?_, ?_⟩
              · rw [hdr.1]; unfold qN; rw [if_neg (by omega), ← hqd]; exact hzz
              · rw [hdr.2]; unfold rN; rw [if_neg (by omega)]; exact hy
          · rcases Nat.lt_or_ge (2 * r + t) M with hB | hB
            · obtain ⟨e1, e2, e3⟩ := way_mid hA hB
              rw [e1] at hy hu
              rw [e1, e2, e3]
              have D := Lib.hid (show _ ∧ _ ∧ _ ∧ _ ∧ _ ∧ _ ∧ _ ∧ _ from ⟨hdr, hA, hqd, hy, hzz, hu, haM, hqle⟩)
              clear hdr hrb hbM haM hqle htl hq2 hqd e1 e2 e3 hA hB hp ht
              go_wp2_with fail
              go_roundg k
              case measure => omega
              case rel =>
                obtain ⟨ra5, rb5, rs25, rs35, rq5, rr5, hl5⟩ := S5.out
                obtain ⟨hdr, hA, hqd, hy, hzz, hu, haM, hqle⟩ := D.out
                rw [hqd] at hzz
                have hq1 : a / 2 ^ k / b = 2 * (a / 2 ^ (k + 1) / b) + 1 := by rw [hdr.1]; unfold qN; rw [if_pos hA]
                refine ⟨bits .or .u64 z0 1, z1, z2, z3, u0, u1, u2, u3, by omega, rfl, by simp; omega, ?_, ((ra5.far4 (by omega) _ _ _ _).far (by dsimp only; omega) _).alloc _, ((rb5.far4 (by omega) _ _ _ _).far (by dsimp only; omega) _).alloc _, ((rs25.far4 (by omega) _ _ _ _).far (by dsimp only; omega) _).alloc _, ((rs35.far4 (by omega) _ _ _ _).far (by dsimp only; omega) _).alloc _, (((rq5.far4 (by omega) _ _ _ _).put 0 (by omega) _).congr rfl).alloc _, ((rr5.store4 rfl _ _ _ _).far (by dsimp only; omega) _).alloc _, ?_, ?_⟩
                · exact Below.alloc (Below.setCell (Below.setCell (Below.setCell (Below.setCell (Below.setCell hl5 (by dsimp only; omega) _) (by dsimp only; omega) _) (by dsimp only; omega) _) (by dsimp only; omega) _) (by dsimp only; omega) _) (by simp; omega) _
                · rw [hq1]; exact or_one hzz (by omega)
                · rw [hdr.2]; unfold rN; rw [if_pos hA]; exact hu
            · obtain ⟨e1, e2, e3, e4, e5⟩ := way_high hrb htl hbM hB
              rw [e1] at hy hu
              rw [e1, e2, e3]
              have D := Lib.hid (show _ ∧ _ ∧ _ ∧ _ ∧ _ ∧ _ ∧ _ ∧ _ from ⟨hdr, hA, hqd, hzz, hu, haM, hqle, e4⟩)
              clear hdr hrb hbM haM hqle htl hq2 hqd e1 e2 e3 e4 e5 hA hB hp ht
              have zl : w.heap.size + 1 < w5.heap.size := zb
              go_wp2_with fail
              refine (wrap_any _ _ _ _ _ _ _ _ _ b hy hb _).mono ?_
              rintro e w6 ⟨v0, v1, v2, v3, rfl, hv, hb6⟩
              obtain ⟨ra5, rb5, rs25, rs35, rq5, rr5, hl5⟩ := S5.out
              have ra6 := Row.below (ra5.alloc _) hb6 (by simp; omega)
              have rb6 := Row.below (rb5.alloc _) hb6 (by simp; omega)
              have rs26 := Row.below (rs25.alloc _) hb6 (by simp; omega)
              have rs36 := Row.below (rs35.alloc _) hb6 (by simp; omega)
              have rq6 := Row.below (rq5.alloc _) hb6 (by simp; omega)
              have rr6 := Row.below (rr5.alloc _) hb6 (by simp; omega)
              have rl6 : Row w6 w5.heap.size 31 #[.int .u64 u0, .int .u64 u1, .int .u64 u2, .int .u64 u3] := Row.below (Row.new_at rfl) hb6 (by simp)
              have rl6 : Row w6 w5.heap.size 31 (arr .u64 (sel4 u0 u1 u2 u3) 4) := rl6
              have hl6 := (hl5.alloc (by omega) _).trans (hb6.mono (by simp; omega))
              have z6 := rl6.lt
              obtain ⟨⟨m0, m1, m2, m3⟩, mf0, mf1, mf2, mf3⟩ := rq6.four4
              obtain ⟨⟨o0, o1, o2, o3⟩, of0, of1, of2, of3⟩ := rr6.four4
              obtain ⟨⟨p0, p1, p2, p3⟩, pf0, pf1, pf2, pf3⟩ := rl6.four4
              have ne1 : N ≠ w5.heap.size := by omega
              have ne2 : N + 1 ≠ w5.heap.size := by omega
              have S6 := Lib.hid (show _ ∧ _ ∧ _ ∧ _ ∧ _ ∧ _ ∧ _ from ⟨ra6, rb6, rs26, rs36, rq6, rr6, hl6⟩)
              clear ra5 rb5 rs25 rs35 rq5 rr5 hl5 ra6 rb6 rs26 rs36 rq6 rr6 rl6 hl6 S5 hb6
              go_wp2_with fail
              go_roundg k
              case measure => omega
              case rel =>
                obtain ⟨ra6, rb6, rs26, rs36, rq6, rr6, hl6⟩ := S6.out
                obtain ⟨hdr, hA, hqd, hzz, hu, haM, hqle, e4⟩ := D.out
                rw [hqd] at hzz
                rw [e4] at hv
                have hq1 : a / 2 ^ k / b = 2 * (a / 2 ^ (k + 1) / b) + 1 := by rw [hdr.1]; unfold qN; rw [if_pos hA]
                have hsz6 := hl6.size
                refine ⟨bits .or .u64 z0 1, z1, z2, z3, v0, v1, v2, v3, by omega, rfl, by simp; omega, ?_, ((ra6.far4 (by omega) _ _ _ _).far4 (by omega) _ _ _ _).far (by dsimp only; omega) _, ((rb6.far4 (by omega) _ _ _ _).far4 (by omega) _ _ _ _).far (by dsimp only; omega) _, ((rs26.far4 (by omega) _ _ _ _).far4 (by omega) _ _ _ _).far (by dsimp only; omega) _, ((rs36.far4 (by omega) _ _ _ _).far4 (by omega) _ _ _ _).far (by dsimp only; omega) _, (((rq6.far4 (by omega) _ _ _ _).far4 (by omega) _ _ _ _).put 0 (by omega) _).congr rfl, ((rr6.far4 (by omega) _ _ _ _).store4 rfl _ _ _ _).far (by dsimp only; omega) _, ?_, ?_⟩
                · exact Below.setCell (Below.setCell (Below.setCell (Below.setCell (Below.setCell (Below.setCell (Below.setCell (Below.setCell (Below.setCell hl6 (by dsimp only; omega) _) (by dsimp only; omega) _) (by dsimp only; omega) _) (by dsimp only; omega) _) (by dsimp only; omega) _) (by dsimp only; omega) _) (by dsimp only; omega) _) (by dsimp only; omega) _) (by dsimp only; omega) _
                · rw [hq1]; exact or_one hzz (by omega)
                · rw [hdr.2]; unfold rN; rw [if_pos hA]; exact hv
      · obtain rfl : gk = 0 := by omega
        have rq : Row wr N 31 (arr .u64 (sel4 q0 q1 q2 q3) 4) := rq
        obtain ⟨⟨m0, m1, m2, m3⟩, mf0, mf1, mf2, mf3⟩ := rq.four4
        obtain ⟨⟨o0, o1, o2, o3⟩, of0, of1, of2, of3⟩ := rr.four4
        obtain ⟨⟨c0, c1, c2, c3⟩, cf0, cf1, cf2, cf3⟩ := rs2.four4
        obtain ⟨⟨d0, d1, d2, d3⟩, df0, df1, df2, df3⟩ := rs3.four4
        have S := Lib.hid (show _ ∧ _ from ⟨rs2, rs3⟩)
        simp only [Nat.pow_zero, Nat.div_one] at hq hr
        clear rs2 rs3 rq rr ra rb h0
        go_wp2_with fail
        go_region
        go_wp2_with fail
        refine bodyPost_ret (results_cct rfl aggT31 aggT31 rfl rfl ((S.out.1.store4 rfl _ _ _ _).far4 (by omega) _ _ _ _).drew ((S.out.2.far4 (by omega) _ _ _ _).store4 rfl _ _ _ _).drew rfl rfl) rfl ?_
        exact ⟨_, _, _, _, _, _, _, _, rfl, hq, hr, by go_grown⟩

def divR (a b : Nat) : Nat := if b = 0 then 0 else a % b
theorem div_any (a0 a1 a2 a3 b0 b1 b2 b3 : Int) (a b : Nat) (ha : IsW a0 a1 a2 a3 a) (hb : IsW b0 b1 b2 b3 b) (w : World) :
    Calls Try.prog 55 #[.agg #[.int .u64 a0, .int .u64 a1, .int .u64 a2, .int .u64 a3], .agg #[.int .u64 b0, .int .u64 b1, .int .u64 b2, .int .u64 b3]] w (Trip w (a / b) (divR a b) (decide (b ≠ 0))) := by
  by_cases h0 : b = 0
  · obtain ⟨rfl, rfl, rfl, rfl⟩ := hb.zero_iff.1 h0
    rw [show a / b = 0 by rw [h0, Nat.div_zero], show divR a b = 0 by unfold divR; rw [if_pos h0], decide_eq_false (by simpa using h0)]
    exact div_zero a0 a1 a2 a3 w
  · rw [show divR a b = a % b by unfold divR; rw [if_neg h0], decide_eq_true h0]
    rcases Nat.lt_or_ge a b with hlt | hge
    · rw [Nat.div_eq_of_lt hlt, Nat.mod_eq_of_lt hlt]
      exact div_less a0 a1 a2 a3 b0 b1 b2 b3 a b ha hb hlt w
    · cases hw : (b1 == 0 && (b2 == 0 && b3 == 0)) with
      | false => exact div_long a0 a1 a2 a3 b0 b1 b2 b3 a b ha hb h0 hge (.inl hw) w
      | true =>
        by_cases hl : b0 ≤ 4294967295
        · simp at hw
          obtain ⟨rfl, rfl, rfl⟩ := hw
          have := hb.lin
          exact div_small a0 a1 a2 a3 b0 a b ha (by omega) (by omega) (by omega) hge w
        · exact div_long a0 a1 a2 a3 b0 b1 b2 b3 a b ha hb h0 hge (.inr ⟨hw, decide_eq_false hl⟩) w
end Go.Proofs.Ytpdenhmkpiafiaa

/-! Bytes: u256.Bytes AND u256.FromBytes: a number as 32 bytes, the greatest first; and back. -/
namespace Go.Proofs.Ytpdenhmkpiafiaa
open Go Go.RowKit

/-- byte k of a number, the least first -/
def byN (n k : Nat) : Nat := n / 2 ^ (8 * k) % 256
theorem byN_lt (n k : Nat) : byN n k < 256 := Nat.mod_lt _ (by decide)
theorem byte_word {x0 x1 x2 x3 : Int} {a k : Nat} (h : IsW x0 x1 x2 x3 a) (hk : k / 8 < 4) : IntKind.u8.wrap (sel4 x0 x1 x2 x3 (k / 8) / 2 ^ (8 * (k % 8))) = ((byN a k : Nat) : Int) := by
  rw [h.word hk]
  have e : (((a / 2 ^ (64 * (k / 8)) % 2 ^ 64 : Nat) : Int) / 2 ^ (8 * (k % 8))) = ((a / 2 ^ (64 * (k / 8)) % 2 ^ 64 / 2 ^ (8 * (k % 8)) : Nat) : Int) := by rw [Int.natCast_ediv, Int.natCast_pow]; rfl
  rw [e, IntKind.wrap_u8']
  have : a / 2 ^ (64 * (k / 8)) % 2 ^ 64 / 2 ^ (8 * (k % 8)) % 2 ^ 8 = a / 2 ^ (8 * k) % 2 ^ 8 := by
    apply Nat.eq_of_testBit_eq
    intro i
    simp only [Nat.testBit_mod_two_pow, Nat.testBit_div_two_pow]
    by_cases hi : i < 8
    · have h1 : i + 8 * (k % 8) < 64 := by omega
      have h2 : 8 * (k % 8) + i < 64 := by omega
      have h3 : i + 8 * (k % 8) + 64 * (k / 8) = i + 8 * k := by omega
      have h4 : 64 * (k / 8) + (8 * (k % 8) + i) = 8 * k + i := by omega
      first | (simp [hi, h1, h3]; done) | (simp [hi, h2, h4]; done)
    · simp [hi]
  unfold byN
  rw [show (256 : Nat) = 2 ^ 8 from rfl, ← this]
  omega
def bytesTo (n k : Nat) : Nat → Int := fun i => if i < k then ((byN n (31 - i) : Nat) : Int) else 0
theorem bytesTo_step (n k : Nat) : upd (bytesTo n k) k ((byN n (31 - k) : Nat) : Int) = bytesTo n (k + 1) := by
  funext j
  unfold upd bytesTo
  by_cases e : j = k
  · subst e; simp
  · rw [if_neg e]
    by_cases h : j < k
    · rw [if_pos h, if_pos (by omega)]
    · rw [if_neg h, if_neg (by omega)]

/-- 32 bytes of a number, in memory of the call's own -/
def Bytes32 (w : World) (n : Nat) (e : Ending) (w' : World) : Prop :=
  ∃ g, e = .returned (.slice (some ⟨g, 0, none⟩) 32 32) ∧ w.heap.size ≤ g ∧ Row w' g 5 (arr .u8 (bytesTo n 32) 32) ∧ Below w.heap.size w w'

set_option maxRecDepth 100000 in
set_option maxHeartbeats 2000000 in
theorem bytes_any (a0 a1 a2 a3 : Int) (a : Nat) (ha : IsW a0 a1 a2 a3 a) (w : World) :
    Calls Try.prog 82 #[.agg #[.int .u64 a0, .int .u64 a1, .int .u64 a2, .int .u64 a3]] w (Bytes32 w a) := by
  have hmk : ∀ wx, (Instr.makeSlice 33 (.int .i64 32) (.int .i64 32)).run Try.prog wx = .ok (.slice (some ⟨wx.heap.size, 0, none⟩) 32 32) (wx.alloc (.cells (arr .u8 (fun _ => 0) 32) 5)) := fun _ => by kernel_rfl
  go_enter Try.func82, Try.ntmps82
  go_wp2_with fail
  go_loopg [9] 32 (fun g c wr => ∃ (i : Nat), i + g = 32 ∧ c = .int .i64 (i : Int) ∧ Below w.heap.size w wr ∧ Row wr w.heap.size 31 (arr .u64 (sel4 a0 a1 a2 a3) 4) ∧ Row wr (w.heap.size + 1) 5 (arr .u8 (bytesTo a i) 32))
  case atStart =>
    refine ⟨0, by omega, rfl, by go_grown, ?_, ?_⟩ <;> repeat (first | (refine Row.new_at ?_; simp; done) | refine Row.alloc ?_ _)
  case round =>
    obtain ⟨i, hi, rfl, hl, ra, ro⟩ := hrel
    by_cases hlt : i < 32
    · obtain ⟨k, hk⟩ : ∃ k, k + i = 31 := ⟨31 - i, by omega⟩
      have e0 : (31 : Int) - (i : Int) = (k : Int) := by omega
      have t1 : ((k : Int)).tdiv 8 = (k : Int) / 8 := Int.tdiv_eq_ediv_of_nonneg (by omega)
      have t2 : ((k : Int)).tmod 8 = (k : Int) % 8 := Int.tmod_eq_emod_of_nonneg (by omega)
      have t5 : (k : Int) / 8 < 4 := by omega
      have t6 : 0 ≤ (k : Int) / 8 := by omega
      have t7 : 0 ≤ (k : Int) % 8 := by omega
      have t8 : (k : Int) % 8 < 8 := by omega
      have t9 : ((k : Int) / 8).toNat = k / 8 := by omega
      have t10 : (8 * ((k : Int) % 8)).toNat = 8 * (k % 8) := by omega
      have ca := ra.at_ (k / 8) (by omega)
      have co := ro.at_ i hlt
      have fo := ro.frozen i
      have hby := byte_word ha (show k / 8 < 4 by omega)
      have wa := ha.wordy (k / 8)
      have S := Lib.hid (show _ ∧ _ ∧ _ from ⟨ra, ro, hk⟩)
      clear ra ro
      go_wp2_with fail
      go_roundg (gk - 1)
      case measure => omega
      case rel =>
        obtain ⟨ra, ro, hk⟩ := S.out
        refine ⟨i + 1, by omega, by go_num, by go_grown, ra.far (by dsimp only; omega) _, ?_⟩
        rw [← bytesTo_step, show 31 - i = k by omega]
        exact ro.put i hlt _
    · obtain rfl : i = 32 := by omega
      have S := Lib.hid (show _ from ro)
      clear ra ro hlt
      go_wp2_with fail
      go_ret
      exact ⟨_, rfl, by omega, S.out, hl⟩
end Go.Proofs.Ytpdenhmkpiafiaa

/-! From: u256.FromBytes: 32 bytes are a number, the greatest first; other bytes are none. -/
namespace Go.Proofs.Ytpdenhmkpiafiaa
open Go Go.RowKit

/-! ### plain: a byte laid into a number's word -/
def wordsOf (n : Nat) : Nat → Int := fun q => ((n / 2 ^ (64 * q) % 2 ^ 64 : Nat) : Int)
theorem wordsOf_isW (n : Nat) (h : n < M) : IsW (wordsOf n 0) (wordsOf n 1) (wordsOf n 2) (wordsOf n 3) n :=
  IsW.mk' (by unfold wordsOf; unfold M at h; omega) (by unfold wordsOf; omega) (by unfold wordsOf; omega) (by unfold wordsOf; omega) (by unfold wordsOf; omega)
theorem wordsOf_wordy (n q : Nat) : 0 ≤ wordsOf n q ∧ wordsOf n q < 18446744073709551616 := by unfold wordsOf; omega
theorem wordsOf_zero : wordsOf 0 = fun _ => 0 := by funext q; simp [wordsOf]

theorem put_byte (m b k : Nat) (hb : b < 256) :
    upd (wordsOf (2 ^ (8 * (k + 1)) * m)) (k / 8) (bits .or .u64 (wordsOf (2 ^ (8 * (k + 1)) * m) (k / 8)) (IntKind.u64.wrap ((b : Int) * 2 ^ (8 * (k % 8))))) = wordsOf (2 ^ (8 * (k + 1)) * m + b * 2 ^ (8 * k)) := by
  have hB : b * 2 ^ (8 * k) < 2 ^ (8 * (k + 1)) := by
    rw [show 8 * (k + 1) = 8 + 8 * k by omega, Nat.pow_add]
    exact Nat.mul_lt_mul_of_pos_right (by omega) (Nat.pow_pos (by decide))
  have hor := Nat.two_pow_add_eq_or_of_lt hB m
  have hw : ∀ q, (2 ^ (8 * (k + 1)) * m + b * 2 ^ (8 * k)) / 2 ^ (64 * q) % 2 ^ 64 = (2 ^ (8 * (k + 1)) * m) / 2 ^ (64 * q) % 2 ^ 64 ||| (b * 2 ^ (8 * k)) / 2 ^ (64 * q) % 2 ^ 64 := fun q => by
    rw [hor, Nat.or_div_two_pow, Nat.or_mod_two_pow]
  have hat : (b * 2 ^ (8 * k)) / 2 ^ (64 * (k / 8)) % 2 ^ 64 = b * 2 ^ (8 * (k % 8)) := by
    have e : 8 * k = 8 * (k % 8) + 64 * (k / 8) := by omega
    have h1 : b * 2 ^ (8 * k) = b * 2 ^ (8 * (k % 8)) * 2 ^ (64 * (k / 8)) := by rw [Nat.mul_assoc, ← Nat.pow_add, ← e]
    rw [h1, Nat.mul_div_cancel _ (Nat.pow_pos (by decide))]
    refine Nat.mod_eq_of_lt ?_
    have h2 : 2 ^ (8 * (k % 8)) ≤ 2 ^ 56 := Nat.pow_le_pow_right (by decide) (by omega)
    have h3 : b * 2 ^ (8 * (k % 8)) ≤ 255 * 2 ^ 56 := Nat.mul_le_mul (by omega) h2
    omega
  have hne : ∀ q, q ≠ k / 8 → (b * 2 ^ (8 * k)) / 2 ^ (64 * q) % 2 ^ 64 = 0 := fun q hq => by
    rcases Nat.lt_or_ge (k / 8) q with h | h
    · have h1 : 2 ^ (8 * (k + 1)) ≤ 2 ^ (64 * q) := Nat.pow_le_pow_right (by decide) (by omega)
      rw [Nat.div_eq_of_lt (by omega)]
    · have e : 8 * k = (8 * k - 64 * (q + 1)) + 64 + 64 * q := by omega
      rw [e, Nat.pow_add, Nat.pow_add, ← Nat.mul_assoc, Nat.mul_div_cancel _ (Nat.pow_pos (by decide)), ← Nat.mul_assoc, Nat.mul_mod_left]
  funext q
  unfold upd
  by_cases e : q = k / 8
  · rw [if_pos e, e]
    unfold wordsOf
    rw [hw, hat]
    have hx : (2 ^ (8 * (k + 1)) * m) / 2 ^ (64 * (k / 8)) % 2 ^ 64 < 18446744073709551616 := Nat.mod_lt _ (by decide)
    have hy : b * 2 ^ (8 * (k % 8)) < 18446744073709551616 := by rw [← hat]; exact Nat.mod_lt _ (by decide)
    have ew : IntKind.u64.wrap ((b : Int) * 2 ^ (8 * (k % 8))) = ((b * 2 ^ (8 * (k % 8)) : Nat) : Int) := by
      rw [IntKind.wrap_u64]
      have : ((b : Int) * 2 ^ (8 * (k % 8))) = ((b * 2 ^ (8 * (k % 8)) : Nat) : Int) := by rw [Int.natCast_mul, Int.natCast_pow]; rfl
      rw [this]
      omega
    rw [ew, u64_or_nat _ _ hx hy]
  · rw [if_neg e]
    unfold wordsOf
    rw [hw, hne q e, Nat.or_zero]

/-- the number of the first i bytes of 32, the greatest first -/
def fromN (f : Nat → Nat) : Nat → Nat
  | 0 => 0
  | i + 1 => fromN f i + f i * 2 ^ (8 * (31 - i))
theorem fromN_mul (f : Nat → Nat) : ∀ i, i ≤ 32 → ∃ m, fromN f i = 2 ^ (8 * (32 - i)) * m
  | 0, _ => ⟨0, rfl⟩
  | i + 1, h => by
    obtain ⟨m, hm⟩ := fromN_mul f i (by omega)
    refine ⟨2 ^ 8 * m + f i, ?_⟩
    unfold fromN
    rw [hm, show 32 - (i + 1) = 31 - i by omega, show 8 * (32 - i) = 8 * (31 - i) + 8 by omega, Nat.pow_add, Nat.mul_add, Nat.mul_assoc, Nat.mul_comm (f i)]
theorem fromN_lt (f : Nat → Nat) (hf : ∀ i, f i < 256) : ∀ i, i ≤ 32 → fromN f i + 2 ^ (8 * (32 - i)) ≤ 2 ^ 256
  | 0, _ => by simp [fromN]
  | i + 1, h => by
    have ih := fromN_lt f hf i (by omega)
    have hi := hf i
    unfold fromN
    rw [show 32 - (i + 1) = 31 - i by omega]
    rw [show 8 * (32 - i) = 8 * (31 - i) + 8 by omega, Nat.pow_add] at ih
    have h1 : f i * 2 ^ (8 * (31 - i)) + 2 ^ (8 * (31 - i)) ≤ 2 ^ (8 * (31 - i)) * 2 ^ 8 := by
      have := Nat.mul_le_mul_right (2 ^ (8 * (31 - i))) (show f i + 1 ≤ 2 ^ 8 by omega)
      rw [Nat.add_mul, Nat.one_mul] at this
      rw [Nat.mul_comm _ (2 ^ 8)]
      exact this
    omega
theorem fromN_bd (f : Nat → Nat) (hf : ∀ i, f i < 256) : fromN f 32 < M := by
  have h := fromN_lt f hf 32 (Nat.le_refl _)
  rw [show 32 - 32 = 0 from rfl] at h
  have e : M = 2 ^ 256 := by decide
  rw [e]
  exact Nat.lt_of_lt_of_le (Nat.lt_add_of_pos_right (by decide)) h
theorem fromN_byN (a : Nat) (ha : a < M) : fromN (fun i => byN a (31 - i)) 32 = a := by
  have key : ∀ i, i ≤ 32 → fromN (fun i => byN a (31 - i)) i = a / 2 ^ (8 * (32 - i)) * 2 ^ (8 * (32 - i)) := by
    intro i
    induction i with
    | zero =>
      intro _
      have e : M = 2 ^ (8 * (32 - 0)) := by decide
      rw [Nat.div_eq_of_lt (by rw [← e]; exact ha), Nat.zero_mul]
      rfl
    | succ i ih =>
      intro h
      unfold fromN
      rw [ih (by omega), show 32 - (i + 1) = 31 - i by omega, show 8 * (32 - i) = 8 * (31 - i) + 8 by omega, Nat.pow_add, ← Nat.div_div_eq_div_mul]
      unfold byN
      generalize a / 2 ^ (8 * (31 - i)) = x
      generalize 2 ^ (8 * (31 - i)) = y
      have hx := Nat.div_add_mod x 256
      rw [show (2 : Nat) ^ 8 = 256 from rfl]
      rw [Nat.mul_comm y 256, ← Nat.mul_assoc, ← Nat.add_mul]
      congr 1
      omega
  have := key 32 (Nat.le_refl _)
  rw [this, show 8 * (32 - 32) = 0 from rfl, Nat.pow_zero, Nat.div_one, Nat.mul_one]

/-! ### the walk -/
set_option maxRecDepth 100000 in
set_option maxHeartbeats 2000000 in
theorem fromBytes_any (r : Option Addr) (n c : Nat) (f : Nat → Nat) (w : World) (hf : ∀ i, f i < 256) (hr : n = 32 → ∃ g o, r = some ⟨g, o, none⟩ ∧ g < w.heap.size ∧ ∀ i, i < 32 → w.cell? ⟨g, o + i, none⟩ = some (.int .u8 ((f i : Nat) : Int))) :
    Calls Try.prog 81 #[.slice r n c] w (Pair w (if n = 32 then fromN f 32 else 0) (decide (n = 32))) := by
  go_enter Try.func81, Try.ntmps81
  by_cases hn : n = 32
  · subst hn
    obtain ⟨g, o, rfl, hg, hc⟩ := hr rfl
    go_wp2_with fail
    go_loopg [14] 32 (fun gg i wr => ∃ (k : Nat), k + gg = 32 ∧ i = .int .i64 (k : Int) ∧ Below w.heap.size w wr ∧ Row wr w.heap.size 31 (arr .u64 (fun _ => 0) 4) ∧ Row wr (w.heap.size + 1) 31 (arr .u64 (wordsOf (fromN f k)) 4))
    case atStart =>
      refine ⟨0, by omega, rfl, by go_grown, ?_, ?_⟩
      · repeat (first | (refine Row.new_at ?_; simp; done) | refine Row.alloc ?_ _)
      · rw [show fromN f 0 = 0 from rfl, wordsOf_zero]
        repeat (first | (refine Row.new_at ?_; simp; done) | refine Row.alloc ?_ _)
    case round =>
      obtain ⟨i, hi, rfl, hl, rr, ro⟩ := hrel
      by_cases hlt : i < 32
      · obtain ⟨k, hk⟩ : ∃ k, k + i = 31 := ⟨31 - i, by omega⟩
        have e0 : (31 : Int) - (i : Int) = (k : Int) := by omega
        have t1 : ((k : Int)).tdiv 8 = (k : Int) / 8 := Int.tdiv_eq_ediv_of_nonneg (by omega)
        have t2 : ((k : Int)).tmod 8 = (k : Int) % 8 := Int.tmod_eq_emod_of_nonneg (by omega)
        have t5 : (k : Int) / 8 < 4 := by omega
        have t6 : 0 ≤ (k : Int) / 8 := by omega
        have t7 : 0 ≤ (k : Int) % 8 := by omega
        have t8 : (k : Int) % 8 < 8 := by omega
        have t9 : ((k : Int) / 8).toNat = k / 8 := by omega
        have t10 : (8 * ((k : Int) % 8)).toNat = 8 * (k % 8) := by omega
        have ci : wr.cell? ⟨g, o + i, none⟩ = some (.int .u8 ((f i : Nat) : Int)) := ((bcell hl).1 g (o + i) hg).trans (hc i hlt)
        have wb : IntKind.u64.wrap ((f i : Nat) : Int) = ((f i : Nat) : Int) := by rw [IntKind.wrap_u64]; have := hf i; omega
        have co := ro.at_ (k / 8) (by omega)
        have fo := ro.frozen (k / 8)
        have S := Lib.hid (show _ ∧ _ ∧ _ from ⟨rr, ro, hk⟩)
        clear rr ro
        go_wp2_with fail
        go_region
        all_goals
          go_wp2_with fail
          go_roundg (gk - 1)
          case measure => omega
          case rel =>
            obtain ⟨rr, ro, hk⟩ := S.out
            obtain ⟨m, hm⟩ := fromN_mul f i (by omega)
            have hp := put_byte m (f i) k (hf i)
            rw [show 8 * (k + 1) = 8 * (32 - i) by omega, ← hm] at hp
            refine ⟨i + 1, by omega, by go_num, by go_grown, (rr.far (by dsimp only; omega) _).drew, ?_⟩
            refine ((ro.put (k / 8) (by omega) _).drew).congr ?_
            rw [hp]
            rw [show fromN f (i + 1) = fromN f i + f i * 2 ^ (8 * (31 - i)) from rfl, show 31 - i = k by omega]
      · obtain rfl : i = 32 := by omega
        have d0 := ro.at_ 0 (by omega)
        have d1 := ro.at_ 1 (by omega)
        have d2 := ro.at_ 2 (by omega)
        have d3 := ro.at_ 3 (by omega)
        have e0 := rr.at_ 0 (by omega)
        have e1 := rr.at_ 1 (by omega)
        have e2 := rr.at_ 2 (by omega)
        have e3 := rr.at_ 3 (by omega)
        have f0 := rr.frozen 0
        have f1 := rr.frozen 1
        have f2 := rr.frozen 2
        have f3 := rr.frozen 3
        have H := Lib.hid (show _ from rr)
        clear rr ro hlt
        go_wp2
        refine bodyPost_ret (results_ct rfl aggT31 rfl (H.out.store4 rfl _ _ _ _) rfl) rfl ?_
        exact ⟨_, _, _, _, rfl, wordsOf_isW _ (fromN_bd f hf), by go_grown⟩
  · have hne : ((n : Int) != 32) = true := by simp; omega
    have r0 : Row ((w.alloc (.cells #[Value.int .u64 0, Value.int .u64 0, Value.int .u64 0, Value.int .u64 0] 31)).alloc (.cells #[Value.int .u64 0, Value.int .u64 0, Value.int .u64 0, Value.int .u64 0] 31)) w.heap.size 31 #[Value.int .u64 0, Value.int .u64 0, Value.int .u64 0, Value.int .u64 0] := by
      repeat (first | (refine Row.new_at ?_; simp; done) | refine Row.alloc ?_ _)
    go_wp2_with fail
    refine bodyPost_ret (results_ct rfl aggT31 rfl r0 rfl) rfl ?_
    exact ⟨_, _, _, _, rfl, isW_zero, by go_grown⟩
end Go.Proofs.Ytpdenhmkpiafiaa
