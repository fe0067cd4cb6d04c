/-
  THE WALK over tallagelaw01.WordOrder.
-/
import Derived.Test.YtpdenhmkpiafiaaLives1
import Derived.Test.YtpdenhmkpiafiaaKeep
namespace Go.Proofs.Ytpdenhmkpiafiaa
open Go Go.RowKit

theorem addN_comm (a b : Nat) : addN a b = addN b a := by unfold addN; rw [Nat.add_comm]
theorem addB_comm (a b : Nat) : addB a b = addB b a := by unfold addB; rw [Nat.add_comm]
theorem mulN_comm (a b : Nat) : mulN a b = mulN b a := by unfold mulN; rw [Nat.mul_comm]
theorem mulB_comm (a b : Nat) : mulB a b = mulB b a := by unfold mulB; rw [Nat.mul_comm]

theorem eqB {a0 a1 a2 a3 b0 b1 b2 b3 : Int} {a b : Nat} (ha : IsW a0 a1 a2 a3 a) (hb : IsW b0 b1 b2 b3 b) : (a0 == b0 && (a1 == b1 && (a2 == b2 && a3 == b3))) = decide (a = b) := by
  have la := ha.lin
  have lb := hb.lin
  rw [Bool.eq_iff_iff]
  simp
  omega
theorem blen_mono {a b : Nat} (h : a ≤ b) : blen a ≤ blen b := blen_le (Nat.lt_of_le_of_lt h (lt_blen b))

set_option maxRecDepth 100000 in
set_option maxHeartbeats 4000000 in
theorem order_walk (a0 a1 a2 a3 b0 b1 b2 b3 c0 c1 c2 c3 : Int) (a b c : Nat) (ha : IsW a0 a1 a2 a3 a) (hb : IsW b0 b1 b2 b3 b) (hc : IsW c0 c1 c2 c3 c) (w : World) :
    Calls Try.prog 5 #[.agg #[.int .u64 a0, .int .u64 a1, .int .u64 a2, .int .u64 a3], .agg #[.int .u64 b0, .int .u64 b1, .int .u64 b2, .int .u64 b3], .agg #[.int .u64 c0, .int .u64 c1, .int .u64 c2, .int .u64 c3]] w fun e w' => e = .returned (.bool true) ∧ Below w.heap.size w w' := by
  have q31 := eq31
  go_enter Try.func5, Try.ntmps5
  go_wp2_with fail
  refine (add_any _ _ _ _ _ _ _ _ a b ha hb _).mono ?_
  rintro e w1 ⟨x0, x1, x2, x3, rfl, hx, hb1⟩
  have hl1 : Below w.heap.size w w1 := Below.trans (by go_grown) (hb1.mono (by go_size))
  have ra1 : Row w1 w.heap.size 31 (arr .u64 (sel4 a0 a1 a2 a3) 4) := Row.below (by repeat (first | (refine Row.new_at ?_; simp; done) | refine Row.alloc ?_ _)) hb1 (by go_size)
  have rb1 : Row w1 (w.heap.size + 1) 31 (arr .u64 (sel4 b0 b1 b2 b3) 4) := Row.below (by repeat (first | (refine Row.new_at ?_; simp; done) | refine Row.alloc ?_ _)) hb1 (by go_size)
  have rc1 : Row w1 (w.heap.size + 1 + 1) 31 (arr .u64 (sel4 c0 c1 c2 c3) 4) := Row.below (by repeat (first | (refine Row.new_at ?_; simp; done) | refine Row.alloc ?_ _)) hb1 (by go_size)
  obtain ⟨⟨m0, m1, m2, m3⟩, _⟩ := ra1.four4
  obtain ⟨⟨n0, n1, n2, n3⟩, _⟩ := rb1.four4
  have z1 := ra1.lt
  have z2 := rb1.lt
  have z3 := rc1.lt
  have S1 := Lib.hid (show _ ∧ _ ∧ _ from ⟨ra1, rb1, rc1⟩)
  clear ra1 rb1 rc1 hb1
  go_wp2_with fail
  refine (add_any _ _ _ _ _ _ _ _ b a hb ha _).mono ?_
  rintro e w2 ⟨y0, y1, y2, y3, rfl, hy, hb2⟩
  rw [addN_comm] at hy
  rw [addB_comm b a]
  obtain ⟨rfl, rfl, rfl, rfl⟩ := hx.uniq hy
  obtain ⟨ra1, rb1, rc1⟩ := S1.out
  have hl2 : Below w.heap.size w w2 := (hl1.alloc hl1.size _).trans (hb2.mono (by have := hl1.size; simp; omega))
  have ra2 := Row.below (ra1.alloc _) hb2 (by simp; omega)
  have rb2 := Row.below (rb1.alloc _) hb2 (by simp; omega)
  have rc2 := Row.below (rc1.alloc _) hb2 (by simp; omega)
  have rx2 : Row w2 w1.heap.size 31 (arr .u64 (sel4 x0 x1 x2 x3) 4) := Row.below (Row.new_at rfl) hb2 (by simp)
  obtain ⟨⟨m0, m1, m2, m3⟩, _⟩ := ra2.four4
  obtain ⟨⟨n0, n1, n2, n3⟩, _⟩ := rb2.four4
  have z1 := ra2.lt
  have z2 := rb2.lt
  have z3 := rc2.lt
  have z4 := rx2.lt
  have S2 := Lib.hid (show _ ∧ _ ∧ _ ∧ _ from ⟨ra2, rb2, rc2, rx2⟩)
  clear ra1 rb1 rc1 hb2 hl1 S1 ra2 rb2 rc2 rx2 hy
  go_wp2_with fail
  refine (mul_any _ _ _ _ _ _ _ _ a b ha hb _).mono ?_
  rintro e w3 ⟨p0, p1, p2, p3, rfl, hp, hb3⟩
  obtain ⟨ra2, rb2, rc2, rx2⟩ := S2.out
  have hl3 : Below w.heap.size w w3 := (hl2.alloc hl2.size _).trans (hb3.mono (by have := hl2.size; simp; omega))
  have ra3 := Row.below (ra2.alloc _) hb3 (by simp; omega)
  have rb3 := Row.below (rb2.alloc _) hb3 (by simp; omega)
  have rc3 := Row.below (rc2.alloc _) hb3 (by simp; omega)
  have rx3 := Row.below (rx2.alloc _) hb3 (by simp; omega)
  have ry3 : Row w3 w2.heap.size 31 (arr .u64 (sel4 x0 x1 x2 x3) 4) := Row.below (Row.new_at rfl) hb3 (by simp)
  obtain ⟨⟨m0, m1, m2, m3⟩, _⟩ := ra3.four4
  obtain ⟨⟨n0, n1, n2, n3⟩, _⟩ := rb3.four4
  have z1 := ra3.lt
  have z2 := rb3.lt
  have z3 := rc3.lt
  have z4 := rx3.lt
  have z5 := ry3.lt
  have S3 := Lib.hid (show _ ∧ _ ∧ _ ∧ _ ∧ _ from ⟨ra3, rb3, rc3, rx3, ry3⟩)
  clear ra2 rb2 rc2 rx2 hb3 hl2 S2 ra3 rb3 rc3 rx3 ry3
  go_wp2_with fail
  refine (mul_any _ _ _ _ _ _ _ _ b a hb ha _).mono ?_
  rintro e w4 ⟨y0, y1, y2, y3, rfl, hy, hb4⟩
  rw [mulN_comm] at hy
  rw [mulB_comm b a]
  obtain ⟨rfl, rfl, rfl, rfl⟩ := hp.uniq hy
  obtain ⟨ra3, rb3, rc3, rx3, ry3⟩ := S3.out
  have hl4 : Below w.heap.size w w4 := (hl3.alloc hl3.size _).trans (hb4.mono (by have := hl3.size; simp; omega))
  have ra4 := Row.below (ra3.alloc _) hb4 (by simp; omega)
  have rb4 := Row.below (rb3.alloc _) hb4 (by simp; omega)
  have rc4 := Row.below (rc3.alloc _) hb4 (by simp; omega)
  have rx4 := Row.below (rx3.alloc _) hb4 (by simp; omega)
  have ry4 := Row.below (ry3.alloc _) hb4 (by simp; omega)
  have rp4 : Row w4 w3.heap.size 31 (arr .u64 (sel4 p0 p1 p2 p3) 4) := Row.below (Row.new_at rfl) hb4 (by simp)
  obtain ⟨⟨m0, m1, m2, m3⟩, _⟩ := rx4.four4
  obtain ⟨⟨n0, n1, n2, n3⟩, _⟩ := ry4.four4
  obtain ⟨⟨o0, o1, o2, o3⟩, _⟩ := rp4.four4
  have z4 := rx4.lt
  have z5 := ry4.lt
  have z6 := rp4.lt
  have hk0 : Kept w [(w.heap.size, 31, arr .u64 (sel4 a0 a1 a2 a3) 4), (w.heap.size + 1, 31, arr .u64 (sel4 b0 b1 b2 b3) 4), (w.heap.size + 1 + 1, 31, arr .u64 (sel4 c0 c1 c2 c3) 4)] (w4.alloc (.cells #[.int .u64 p0, .int .u64 p1, .int .u64 p2, .int .u64 p3] 31)) :=
    (((Kept.one (hl4.alloc hl4.size _)).more (rc4.alloc _)).more (rb4.alloc _)).more (ra4.alloc _)
  clear ra3 rb3 rc3 rx3 ry3 hb4 hl3 S3 ra4 rb4 rc4 rx4 ry4 rp4 hl4 hy
  go_wp2_with fail
  refine wp_region_keep (Kept w [(w.heap.size, 31, arr .u64 (sel4 a0 a1 a2 a3) 4), (w.heap.size + 1, 31, arr .u64 (sel4 b0 b1 b2 b3) 4), (w.heap.size + 1 + 1, 31, arr .u64 (sel4 c0 c1 c2 c3) 4)]) (by kernel_rfl) (by kernel_rfl) (hk0.drew) ?_
  repeat (first | (refine wpK_step (fun K hK => ?_); go_simp; (first | (refine hK _ ?_; clear hK K) | (apply Exists.intro; apply And.intro; (focus (intro wk hk; first | (go_simp; exact kUpon_value rfl hk) | (obtain ⟨⟨m0, m1, m2, m3⟩, _⟩ := hk.head.four4; obtain ⟨⟨n0, n1, n2, n3⟩, _⟩ := hk.tail.head.four4; obtain ⟨⟨o0, o1, o2, o3⟩, _⟩ := hk.tail.tail.head.four4; go_simp; first | exact kUpon_value rfl hk | ((with_reducible refine kUpon_enter (v := .int .i64 (cmpN a b)) ((cmp_any a0 a1 a2 a3 b0 b1 b2 b3 a b ha hb _).mono ?_)); rintro e w' ⟨rfl, hbk⟩; exact ⟨rfl, hk.step hbk (Nat.le_refl _)⟩) | ((with_reducible refine kUpon_enter (v := .int .i64 (cmpN b c)) ((cmp_any b0 b1 b2 b3 c0 c1 c2 c3 b c hb hc _).mono ?_)); rintro e w' ⟨rfl, hbk⟩; exact ⟨rfl, hk.step hbk (Nat.le_refl _)⟩) | ((with_reducible refine kUpon_enter (v := .int .i64 (cmpN a c)) ((cmp_any a0 a1 a2 a3 c0 c1 c2 c3 a c ha hc _).mono ?_)); rintro e w' ⟨rfl, hbk⟩; exact ⟨rfl, hk.step hbk (Nat.le_refl _)⟩)))); refine hK _ ?_; clear hK K))))
  refine wpK_nil ?_
  intro w5 hk5
  clear hk0 m0 m1 m2 m3 n0 n1 n2 n3 o0 o1 o2 o3 q31 z4 z5 z6
  go_wp2_with fail
  have hbl : a ≤ b → blen a ≤ blen b := fun h => blen_mono h
  rcases Nat.lt_trichotomy a b with h | h | h
  case' inl =>
    have hq : ∀ wx, (Op.equalIn 10000 31 (.agg #[.int .u64 a0, .int .u64 a1, .int .u64 a2, .int .u64 a3]) (.agg #[.int .u64 b0, .int .u64 b1, .int .u64 b2, .int .u64 b3])).run Try.prog wx = .ok false wx := fun wx => by rw [eq31, eqB ha hb]; simp; omega
    have hd : cmpN a b = -1 := by unfold cmpN; rw [if_pos h]
    have hd' : cmpN b a = 1 := by unfold cmpN; rw [if_neg (by omega), if_pos h]
    have hbb : decide (blen a ≤ blen b) = true := decide_eq_true (hbl (by omega))
  case' inr.inl =>
    have hq : ∀ wx, (Op.equalIn 10000 31 (.agg #[.int .u64 a0, .int .u64 a1, .int .u64 a2, .int .u64 a3]) (.agg #[.int .u64 b0, .int .u64 b1, .int .u64 b2, .int .u64 b3])).run Try.prog wx = .ok true wx := fun wx => by rw [eq31, eqB ha hb]; simp; omega
    have hd : cmpN a b = 0 := by unfold cmpN; rw [if_neg (by omega), if_neg (by omega)]
    have hd' : cmpN b a = 0 := by unfold cmpN; rw [if_neg (by omega), if_neg (by omega)]
    have hbb : decide (blen a ≤ blen b) = true := decide_eq_true (hbl (by omega))
  case' inr.inr =>
    have hq : ∀ wx, (Op.equalIn 10000 31 (.agg #[.int .u64 a0, .int .u64 a1, .int .u64 a2, .int .u64 a3]) (.agg #[.int .u64 b0, .int .u64 b1, .int .u64 b2, .int .u64 b3])).run Try.prog wx = .ok false wx := fun wx => by rw [eq31, eqB ha hb]; simp; omega
    have hd : cmpN a b = 1 := by unfold cmpN; rw [if_neg (by omega), if_pos h]
    have hd' : cmpN b a = -1 := by unfold cmpN; rw [if_pos h]
  case inr.inr =>
    clear hbl h
    cases hbb : decide (blen a ≤ blen b)
    all_goals
      refine wp_region_keep (Kept w [(w.heap.size, 31, arr .u64 (sel4 a0 a1 a2 a3) 4), (w.heap.size + 1, 31, arr .u64 (sel4 b0 b1 b2 b3) 4), (w.heap.size + 1 + 1, 31, arr .u64 (sel4 c0 c1 c2 c3) 4)]) (by kernel_rfl) (by kernel_rfl) (hk5.drew) ?_
      repeat (first | (refine wpK_step (fun K hK => ?_); go_simp; (first | (refine hK _ ?_; clear hK K) | (apply Exists.intro; apply And.intro; (focus (intro wk hk; first | (go_simp; exact kUpon_value rfl hk) | (obtain ⟨⟨m0, m1, m2, m3⟩, _⟩ := hk.head.four4; obtain ⟨⟨n0, n1, n2, n3⟩, _⟩ := hk.tail.head.four4; obtain ⟨⟨o0, o1, o2, o3⟩, _⟩ := hk.tail.tail.head.four4; go_simp; first | exact kUpon_value rfl hk | ((with_reducible refine kUpon_enter (v := .int .i64 (cmpN b a)) ((cmp_any b0 b1 b2 b3 a0 a1 a2 a3 b a hb ha _).mono ?_)); rintro e w' ⟨rfl, hbk⟩; exact ⟨rfl, hk.step hbk (Nat.le_refl _)⟩) | ((with_reducible refine kUpon_enter (v := .int .i64 (blen a)) ((bits_any a0 a1 a2 a3 a ha _).mono ?_)); rintro e w' ⟨rfl, hbk⟩; exact ⟨rfl, hk.step hbk (Nat.le_refl _)⟩) | ((with_reducible refine kUpon_enter (v := .int .i64 (blen b)) ((bits_any b0 b1 b2 b3 b hb _).mono ?_)); rintro e w' ⟨rfl, hbk⟩; exact ⟨rfl, hk.step hbk (Nat.le_refl _)⟩) | ((with_reducible refine kUpon_enter (v := .bool true) ((lives1_any _).mono ?_)); rintro e w' ⟨rfl, hbk⟩; exact ⟨rfl, hk.step hbk (Nat.le_refl _)⟩)))); refine hK _ ?_; clear hK K))))
      refine wpK_nil ?_
      intro w6 hk6
      go_wp2_with fail
      go_ret
      exact ⟨rfl, hk6.1⟩
  all_goals
    rcases Nat.lt_or_ge c b with h2 | h2
    case' inl =>
      have he : decide (0 < cmpN b c) = true := by unfold cmpN; rw [if_neg (by omega), if_pos h2]; rfl
    case' inr =>
      have he : decide (0 < cmpN b c) = false := by unfold cmpN; split <;> (try split) <;> first | rfl | (exfalso; omega)
      have hf : decide (cmpN a c ≤ 0) = true := by unfold cmpN; split <;> (try split) <;> first | rfl | (exfalso; omega)
    all_goals
      clear hbl h h2
      refine wp_region_keep (Kept w [(w.heap.size, 31, arr .u64 (sel4 a0 a1 a2 a3) 4), (w.heap.size + 1, 31, arr .u64 (sel4 b0 b1 b2 b3) 4), (w.heap.size + 1 + 1, 31, arr .u64 (sel4 c0 c1 c2 c3) 4)]) (by kernel_rfl) (by kernel_rfl) (hk5.drew) ?_
      repeat (first | (refine wpK_step (fun K hK => ?_); go_simp; (first | (refine hK _ ?_; clear hK K) | (apply Exists.intro; apply And.intro; (focus (intro wk hk; first | (go_simp; exact kUpon_value rfl hk) | (obtain ⟨⟨m0, m1, m2, m3⟩, _⟩ := hk.head.four4; obtain ⟨⟨n0, n1, n2, n3⟩, _⟩ := hk.tail.head.four4; obtain ⟨⟨o0, o1, o2, o3⟩, _⟩ := hk.tail.tail.head.four4; go_simp; first | exact kUpon_value rfl hk | ((with_reducible refine kUpon_enter (v := .int .i64 (cmpN b a)) ((cmp_any b0 b1 b2 b3 a0 a1 a2 a3 b a hb ha _).mono ?_)); rintro e w' ⟨rfl, hbk⟩; exact ⟨rfl, hk.step hbk (Nat.le_refl _)⟩) | ((with_reducible refine kUpon_enter (v := .int .i64 (blen a)) ((bits_any a0 a1 a2 a3 a ha _).mono ?_)); rintro e w' ⟨rfl, hbk⟩; exact ⟨rfl, hk.step hbk (Nat.le_refl _)⟩) | ((with_reducible refine kUpon_enter (v := .int .i64 (blen b)) ((bits_any b0 b1 b2 b3 b hb _).mono ?_)); rintro e w' ⟨rfl, hbk⟩; exact ⟨rfl, hk.step hbk (Nat.le_refl _)⟩) | ((with_reducible refine kUpon_enter (v := .bool true) ((lives1_any _).mono ?_)); rintro e w' ⟨rfl, hbk⟩; exact ⟨rfl, hk.step hbk (Nat.le_refl _)⟩)))); refine hK _ ?_; clear hK K))))
      refine wpK_nil ?_
      intro w6 hk6
      go_wp2_with fail
      go_ret
      exact ⟨rfl, hk6.1⟩
end Go.Proofs.Ytpdenhmkpiafiaa
