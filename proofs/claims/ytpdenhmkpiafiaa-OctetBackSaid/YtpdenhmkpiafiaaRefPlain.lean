/-
  The reference of chapter 01, plain: rows of 32-bit digits, the least first.
-/
import Derived.Test.YtpdenhmkpiafiaaBase
namespace Go.Proofs.Ytpdenhmkpiafiaa.Ref

/-- The base of the reference's digits. -/
abbrev B : Nat := 2 ^ 32

def val : List Nat → Nat
  | [] => 0
  | d :: r => d + B * val r

def Dig (xs : List Nat) : Prop := ∀ x ∈ xs, x < B

def digs (n : Nat) : List Nat :=
  if _h : n = 0 then [] else n % B :: digs (n / B)
termination_by n
decreasing_by exact Nat.div_lt_self (Nat.pos_of_ne_zero _h) (by decide)

theorem digs_zero : digs 0 = [] := by unfold digs; simp
theorem digs_pos {n : Nat} (h : n ≠ 0) : digs n = n % B :: digs (n / B) := by
  rw [digs]; simp [h]

theorem dig_digs (n : Nat) : Dig (digs n) := by
  induction n using Nat.strongRecOn with
  | _ n ih =>
    by_cases h : n = 0
    · subst h; rw [digs_zero]; intro x hx; cases hx
    · rw [digs_pos h]
      intro x hx
      cases hx with
      | head => exact Nat.mod_lt _ (by decide)
      | tail _ hx => exact ih (n / B) (Nat.div_lt_self (Nat.pos_of_ne_zero h) (by decide)) x hx

theorem val_digs (n : Nat) : val (digs n) = n := by
  induction n using Nat.strongRecOn with
  | _ n ih =>
    by_cases h : n = 0
    · subst h; rw [digs_zero]; rfl
    · rw [digs_pos h, val, ih (n / B) (Nat.div_lt_self (Nat.pos_of_ne_zero h) (by decide))]
      exact Nat.mod_add_div n B

theorem val_append (xs ys : List Nat) : val (xs ++ ys) = val xs + B ^ xs.length * val ys := by
  induction xs with
  | nil => simp [val]
  | cons d r ih =>
    rw [List.cons_append, val, val, ih, List.length_cons, Nat.pow_succ, Nat.mul_add, ← Nat.add_assoc,
      Nat.mul_comm (B ^ r.length) B, Nat.mul_assoc]

theorem val_lt {xs : List Nat} (h : Dig xs) : val xs < B ^ xs.length := by
  induction xs with
  | nil => exact Nat.one_pos
  | cons d r ih =>
    have hd : d < B := h d (List.mem_cons_self ..)
    have hr := ih (fun x hx => h x (List.mem_cons_of_mem _ hx))
    rw [val, List.length_cons, Nat.pow_succ, Nat.mul_comm (B ^ r.length) B]
    have : B * (val r + 1) ≤ B * B ^ r.length := Nat.mul_le_mul_left B hr
    rw [Nat.mul_add] at this
    omega

/-- A row of digits without a nought at its end is the digits of what it says. -/
theorem digs_val {xs : List Nat} (h : Dig xs)
    (hl : ∀ y, xs.getLast? = some y → y ≠ 0) : xs = digs (val xs) := by
  induction xs with
  | nil => rw [val, digs_zero]
  | cons d r ih =>
    have hd : d < B := h d (List.mem_cons_self ..)
    have hr := ih (fun x hx => h x (List.mem_cons_of_mem _ hx)) (by
      intro y hy
      apply hl y
      cases r with
      | nil => simp at hy
      | cons e q => rw [List.getLast?_cons_cons]; exact hy)
    have hq : (d + B * val r) / B = val r := by
      rw [Nat.add_mul_div_left _ _ (by decide : 0 < B), Nat.div_eq_of_lt hd, Nat.zero_add]
    have hm : (d + B * val r) % B = d := by
      rw [Nat.add_mul_mod_self_left, Nat.mod_eq_of_lt hd]
    have hn : d + B * val r ≠ 0 := by
      intro h0
      have hd0 : d = 0 := by omega
      cases r with
      | nil => exact hl d (by simp) hd0
      | cons e q =>
        have hv : val (e :: q) = 0 := by
          have : B * val (e :: q) = 0 := by omega
          rcases Nat.mul_eq_zero.mp this with h1 | h1
          · exact absurd h1 (by decide)
          · exact h1
        rw [hv, digs_zero] at hr
        cases hr
    rw [val, digs_pos hn, hm, hq, ← hr]

theorem take_val {xs : List Nat} {n : Nat} (h0 : xs[n]? = some 0) :
    val (xs.take (n + 1)) = val (xs.take n) := by
  rw [List.take_add_one, h0, val_append]
  simp [val]

/-- What the cut slice holds when the loop ends. -/
theorem trim_end {xs : List Nat} {n : Nat} (hD : Dig xs) (hn : n ≤ xs.length)
    (hv : val (xs.take n) = val xs) (hl : n = 0 ∨ xs[n - 1]? ≠ some 0) :
    xs.take n = digs (val xs) := by
  rw [← hv]
  apply digs_val (fun x hx => hD x (List.mem_of_mem_take hx))
  intro y hy h0
  subst h0
  rcases hl with h | h
  · subst h; simp at hy
  · apply h
    rw [List.getLast?_eq_getElem?, List.length_take, Nat.min_eq_left hn, List.getElem?_take] at hy
    split at hy
    · exact hy
    · cases hy

theorem digs_len {n k : Nat} (h : n < B ^ k) : (digs n).length ≤ k := by
  induction k generalizing n with
  | zero =>
    have : n = 0 := by rw [Nat.pow_zero] at h; omega
    subst this; rw [digs_zero]; exact Nat.le_refl 0
  | succ k ih =>
    by_cases h0 : n = 0
    · subst h0; rw [digs_zero]; exact Nat.zero_le _
    · rw [digs_pos h0, List.length_cons]
      apply Nat.succ_le_succ
      apply ih
      rw [Nat.pow_succ, Nat.mul_comm] at h
      exact Nat.div_lt_of_lt_mul h

end Go.Proofs.Ytpdenhmkpiafiaa.Ref
