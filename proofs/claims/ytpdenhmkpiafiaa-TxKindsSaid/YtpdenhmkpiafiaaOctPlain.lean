/-
  The reading of bytes, in plain Lean: a number, or an amount, that was put is got again, and in one way only; cut, it is short.
-/
import Derived.Test.YtpdenhmkpiafiaaOctCopy
namespace Go.Proofs.Ytpdenhmkpiafiaa
open Go Go.RowKit K6

/-- a list of bytes -/
def By (xs : List Int) : Prop := ∀ x ∈ xs, 0 ≤ x ∧ x < 256
theorem By.nil : By [] := fun _ h => (by cases h)
theorem By.app {xs ys : List Int} (h : By xs) (k : By ys) : By (xs ++ ys) := fun x hx => (List.mem_append.1 hx).elim (h x) (k x)
theorem By.take {xs : List Int} (h : By xs) (n : Nat) : By (xs.take n) := fun x hx => h x (List.mem_of_mem_take hx)
theorem By.drop {xs : List Int} (h : By xs) (n : Nat) : By (xs.drop n) := fun x hx => h x (List.mem_of_mem_drop hx)
theorem By.tail {x : Int} {xs : List Int} (h : By (x :: xs)) : By xs := fun y hy => h y (List.mem_cons_of_mem _ hy)
theorem By.head {x : Int} {xs : List Int} (h : By (x :: xs)) : 0 ≤ x ∧ x < 256 := h x (List.mem_cons_self ..)
theorem By.cons {x : Int} {xs : List Int} (h0 : 0 ≤ x ∧ x < 256) (h : By xs) : By (x :: xs) := fun y hy => (List.mem_cons.1 hy).elim (fun e => e ▸ h0) (h y)

/-! ### numbers -/
theorem grp_cons (i : Nat) (c : Int) (cs : List Int) : grp i (c :: cs) = if i = 9 then (4, 0) else if 128 ≤ c then grp (i + 1) cs else if c = 0 ∧ 0 < i then (4, 0) else (0, i + 1) := rfl
theorem enc_pos (m : Nat) : 0 < (enc m).length := by
  by_cases h : m < 128
  · rw [enc_low h]; exact Nat.succ_pos _
  · rw [enc_high h, List.length_cons]; omega
theorem enc_by (m : Nat) : By (enc m) := by
  induction m using Nat.strongRecOn with
  | _ m ih =>
    by_cases hm : m < 128
    · rw [enc_low hm]; exact By.cons ⟨by omega, by omega⟩ By.nil
    · rw [enc_high hm]; exact By.cons ⟨by omega, by omega⟩ (ih (m / 128) (by omega))
theorem gval_enc (m : Nat) : gval (enc m) = m := by
  induction m using Nat.strongRecOn with
  | _ m ih =>
    by_cases hm : m < 128
    · rw [enc_low hm]; show ((m : Int) % 128).toNat + 128 * 0 = m; omega
    · rw [enc_high hm]; show (((m % 128 + 128 : Nat) : Int) % 128).toNat + 128 * gval (enc (m / 128)) = m
      rw [ih (m / 128) (by omega)]; omega
theorem pow_step {m k : Nat} (h : m < 128 ^ (k + 1 + 1)) : m / 128 < 128 ^ (k + 1) := by
  rw [Nat.pow_succ] at h
  generalize 128 ^ (k + 1) = X at *
  omega
theorem grp_enc (r : List Int) : ∀ (k m i : Nat), m < 128 ^ (k + 1) → i + k < 9 → (0 < i → 0 < m) → grp i (enc m ++ r) = (0, i + (enc m).length)
  | k, m, i, hm, hi, h0 => by
    by_cases hm' : m < 128
    · rw [enc_low hm', List.singleton_append, grp_cons, if_neg (by omega), if_neg (by omega), if_neg (by omega)]
      rfl
    · match k with
      | 0 => exact absurd (by simpa using hm) hm'
      | k + 1 =>
        rw [enc_high hm', List.cons_append, grp_cons, if_neg (by omega), if_pos (by omega), grp_enc r k (m / 128) (i + 1) (pow_step hm) (by omega) (fun _ => by omega), List.length_cons]
        congr 1
        omega
theorem grp_cut : ∀ (k m i j : Nat), m < 128 ^ (k + 1) → i + k < 9 → j < (enc m).length → grp i ((enc m).take j) = (3, 0)
  | _, _, _, 0, _, _, _ => rfl
  | k, m, i, j + 1, hm, hi, hj => by
    by_cases hm' : m < 128
    · rw [enc_low hm'] at hj; simp at hj
    · match k with
      | 0 => exact absurd (by simpa using hm) hm'
      | k + 1 =>
        rw [enc_high hm', List.length_cons] at hj
        rw [enc_high hm', List.take_succ_cons, grp_cons, if_neg (by omega), if_pos (by omega)]
        exact grp_cut k (m / 128) (i + 1) j (pow_step hm) (by omega) (by omega)
theorem grp_back : ∀ (xs : List Int) (i : Nat), By xs → i ≤ 9 → (grp i xs).1 = 0 → ∃ m, xs.take ((grp i xs).2 - i) = enc m ∧ (0 < i → 0 < m)
  | [], _, _, _, h => by cases h
  | c :: cs, i, hb, hi, h => by
    have hc := hb.head
    rw [grp_cons] at h ⊢
    by_cases h9 : i = 9
    · rw [if_pos h9] at h; cases h
    · rw [if_neg h9] at h ⊢
      by_cases h128 : 128 ≤ c
      · rw [if_pos h128] at h ⊢
        obtain ⟨m, hm, hp⟩ := grp_back cs (i + 1) hb.tail (by omega) h
        have hsp : i + 1 < (grp (i + 1) cs).2 := by
          rcases grp_spec cs (i + 1) (by omega) with ⟨-, h2, -⟩ | ⟨h2, -⟩
          · exact h2
          · rw [h] at h2; rcases h2 with h2 | h2 <;> cases h2
        have hp := hp (by omega)
        refine ⟨(c - 128).toNat + 128 * m, ?_, fun _ => by omega⟩
        rw [enc_high (by omega), show (grp (i + 1) cs).2 - i = (grp (i + 1) cs).2 - (i + 1) + 1 by omega, List.take_succ_cons, hm]
        congr 1
        · omega
        · congr 1; omega
      · rw [if_neg h128] at h ⊢
        by_cases h0 : c = 0 ∧ 0 < i
        · rw [if_pos h0] at h; cases h
        · rw [if_neg h0]
          refine ⟨c.toNat, ?_, fun hi => by omega⟩
          rw [enc_low (by omega), show i + 1 - i = 1 by omega, List.take_succ_cons, List.take_zero, Int.toNat_of_nonneg hc.1]
theorem lt63 {m : Nat} (h : m < 9223372036854775808) : m < 128 ^ (8 + 1) := h
theorem enc_len9 {m : Nat} (h : m < 9223372036854775808) : (enc m).length ≤ 9 := enc_len 8 m (lt63 h)

/-! ### amounts -/
theorem beV_cons (c : Int) (l : List Int) : beV (c :: l) = c.toNat * 256 ^ l.length + beV l := by
  have key : ∀ (l : List Int) (a : Nat), l.foldl (fun a c => a * 256 + c.toNat) a = a * 256 ^ l.length + beV l := by
    intro l
    induction l with
    | nil => intro a; show a = a * 1 + 0; omega
    | cons x l ih =>
      intro a
      unfold beV
      rw [List.foldl_cons, List.foldl_cons, ih, ih, List.length_cons, Nat.pow_succ, Nat.add_mul, Nat.zero_mul, Nat.zero_add, Nat.add_assoc, Nat.mul_assoc, Nat.mul_comm 256]
  show l.foldl _ (0 * 256 + c.toNat) = _
  rw [key, Nat.zero_mul, Nat.zero_add]
theorem beV_inj : ∀ (n : Nat) (l k : List Int), l.length = n → k.length = n → By l → By k → beV l = beV k → l = k
  | 0, l, k, hl, hk, _, _, _ => by rw [List.eq_nil_of_length_eq_zero hl, List.eq_nil_of_length_eq_zero hk]
  | n + 1, l, k, hl, hk, bl, bk, h => by
    have nl : l ≠ [] := fun e => by subst e; cases hl
    have nk : k ≠ [] := fun e => by subst e; cases hk
    have sl := List.dropLast_concat_getLast nl
    have sk := List.dropLast_concat_getLast nk
    have gl := bl _ (List.getLast_mem nl)
    have gk := bk _ (List.getLast_mem nk)
    rw [← sl, ← sk, beV_snoc, beV_snoc] at h
    have e1 : l.dropLast = k.dropLast := beV_inj n _ _ (by rw [List.length_dropLast]; omega) (by rw [List.length_dropLast]; omega) (fun x hx => bl x (List.dropLast_subset _ hx)) (fun x hx => bk x (List.dropLast_subset _ hx)) (by omega)
    have e2 : l.getLast nl = k.getLast nk := by omega
    rw [← sl, ← sk, e1, e2]
theorem beV_ge {c : Int} {l : List Int} (h0 : 0 < c) : 256 ^ l.length ≤ beV (c :: l) := by
  rw [beV_cons]
  have : 1 * 256 ^ l.length ≤ c.toNat * 256 ^ l.length := Nat.mul_le_mul_right _ (by omega)
  omega
theorem p256 (n : Nat) : 256 ^ n = 2 ^ (8 * n) := by rw [Nat.pow_mul]
theorem nby_lt (a : Nat) : a < 2 ^ (8 * nby a) := by
  refine Nat.lt_of_lt_of_le (lt_blen a) (Nat.pow_le_pow_right (by decide) ?_)
  unfold nby; omega
theorem nby_ge {a : Nat} (h : 0 < nby a) : 2 ^ (8 * (nby a - 1)) ≤ a := by
  rcases Nat.lt_or_ge a (2 ^ (8 * (nby a - 1))) with h1 | h1
  · have h2 := blen_le h1
    unfold nby at *
    omega
  · exact h1
theorem nby_eq {a n : Nat} (h1 : a < 256 ^ n) (h2 : 0 < n → 256 ^ (n - 1) ≤ a) : nby a = n := by
  rw [p256] at h1
  have h3 := blen_le h1
  rcases Nat.eq_zero_or_pos n with rfl | hn
  · unfold nby; omega
  · have h4 := h2 hn
    rw [p256] at h4
    have h5 : 8 * (n - 1) < blen a := by
      rcases Nat.lt_or_ge (8 * (n - 1)) (blen a) with h | h
      · exact h
      · have := Nat.lt_of_lt_of_le (lt_blen a) (Nat.pow_le_pow_right (by decide) h)
        omega
    unfold nby; omega
theorem BL32_get (a j : Nat) (hj : j < (BL32 a).length) : (BL32 a)[j] = ((byN a (31 - j) : Nat) : Int) := by
  simp [BL32]
theorem BL32_by (a : Nat) : By (BL32 a) := fun x hx => by
  obtain ⟨j, hj, rfl⟩ := List.mem_iff_getElem.1 hx
  rw [BL32_get]
  have := byN_lt a (31 - j)
  omega
theorem fromN_congr {f g : Nat → Nat} : ∀ n, (∀ j, j < n → f j = g j) → fromN f n = fromN g n
  | 0, _ => rfl
  | n + 1, h => by
    show fromN f n + f n * 2 ^ (8 * (31 - n)) = fromN g n + g n * 2 ^ (8 * (31 - n))
    rw [fromN_congr n (fun j hj => h j (by omega)), h n (by omega)]
theorem beV_BL32 {a : Nat} (ha : a < M) : beV (BL32 a) = a := by
  have h := fromN_beV (BL32_len a) 32 (Nat.le_refl _)
  rw [Nat.sub_self, Nat.pow_zero, Nat.mul_one, List.take_of_length_le (by rw [BL32_len]; exact Nat.le_refl _)] at h
  rw [← h]
  refine (fromN_congr 32 fun j hj => ?_).trans (fromN_byN a ha)
  have hj' : j < (BL32 a).length := by rw [BL32_len]; exact hj
  rw [List.getD_eq_getElem?_getD, List.getElem?_eq_getElem hj', Option.getD_some, BL32_get]
  rfl
/-- the bytes of an amount: as few as it needs -/
def amtB (a : Nat) : List Int := (BL32 a).drop (32 - nby a)
theorem amtL_eq (a : Nat) : amtL a = ((nby a : Nat) : Int) :: amtB a := rfl
theorem amtB_len {a : Nat} (ha : a < M) : (amtB a).length = nby a := by
  unfold amtB
  rw [List.length_drop, BL32_len]
  have := nby_le ha
  omega
theorem amtB_by (a : Nat) : By (amtB a) := (BL32_by a).drop _
theorem amtL_by {a : Nat} (ha : a < M) : By (amtL a) := By.cons ⟨by omega, by have := nby_le ha; omega⟩ (amtB_by a)
theorem amtB_beV {a : Nat} (ha : a < M) : beV (amtB a) = a := by
  have h : (BL32 a).take (32 - nby a) = List.replicate (32 - nby a) 0 := by
    have hl : ((BL32 a).take (32 - nby a)).length = 32 - nby a := by rw [List.length_take, BL32_len]; omega
    refine List.eq_replicate_iff.2 ⟨hl, fun x hx => ?_⟩
    obtain ⟨j, hj, rfl⟩ := List.mem_iff_getElem.1 hx
    rw [hl] at hj
    rw [List.getElem_take, BL32_get]
    unfold byN
    rw [Nat.div_eq_of_lt]
    · rfl
    · exact Nat.lt_of_lt_of_le (nby_lt a) (Nat.pow_le_pow_right (by decide) (by omega))
  have h2 := List.take_append_drop (32 - nby a) (BL32 a)
  rw [h] at h2
  have h3 := beV_zeros (32 - nby a) (amtB a)
  rw [show List.replicate (32 - nby a) 0 ++ amtB a = BL32 a from h2, beV_BL32 ha] at h3
  exact h3.symm
theorem amtB_head {a : Nat} (ha : a < M) : (amtB a).head? ≠ some 0 := by
  intro h
  unfold amtB at h
  rw [List.head?_drop] at h
  rcases Nat.eq_zero_or_pos (nby a) with h0 | h0
  · rw [h0, List.getElem?_eq_none (by rw [BL32_len]; exact Nat.le_refl _)] at h
    cases h
  · have h32 := nby_le ha
    have hj : 32 - nby a < (BL32 a).length := by rw [BL32_len]; omega
    rw [List.getElem?_eq_getElem hj, BL32_get, show 31 - (32 - nby a) = nby a - 1 by omega] at h
    have h1 := nby_ge h0
    have h2 := nby_lt a
    have h3 : a / 2 ^ (8 * (nby a - 1)) < 256 := by
      rw [Nat.div_lt_iff_lt_mul (Nat.pow_pos (by decide))]
      rw [show 8 * nby a = 8 + 8 * (nby a - 1) by omega, Nat.pow_add] at h2
      exact h2
    have h4 : 0 < a / 2 ^ (8 * (nby a - 1)) := Nat.div_pos h1 (Nat.pow_pos (by decide))
    unfold byN at h
    rw [Nat.mod_eq_of_lt h3] at h
    have h5 := Option.some.inj h
    omega
/-- bytes that need no less are an amount's -/
theorem amtL_of {ys : List Int} (hn : ys.length ≤ 32) (hb : By ys) (h0 : ys.head? ≠ some 0) : amtL (beV ys) = ((ys.length : Nat) : Int) :: ys := by
  have hM : beV ys < M := beV_M hn hb
  have e : nby (beV ys) = ys.length := by
    refine nby_eq (beV_lt _ ys rfl hb) fun hp => ?_
    match ys, hp, hb, h0 with
    | c :: cs, _, hb, h0 =>
      have hc := hb.head
      have : c ≠ 0 := fun e => h0 (by rw [e]; rfl)
      exact beV_ge (by omega)
  rw [amtL_eq, e]
  congr 1
  exact beV_inj ys.length _ _ ((amtB_len hM).trans e) rfl (amtB_by _) hb (amtB_beV hM)

/-! ### the operations of a source: what they tell, and the state behind them -/
abbrev St := Int × List Int
/-- a state of a source: nothing is left behind a fault -/
structure StOk (s : St) : Prop where
  shut : s.1 ≠ 0 → s.2 = []
  by_ : By s.2
def gV (most : Int) (s : St) : Nat × St := (svN most s.1 s.2, svE most s.1 s.2, svR most s.1 s.2)
def gA (s : St) : Nat × St :=
  if s.1 = 0 then
    match s.2 with
    | [] => (0, 3, [])
    | c :: cs => if 32 < c ∨ (0 < c ∧ cs.head? = some 0) then (0, 4, []) else if c.toNat ≤ cs.length then (beV (cs.take c.toNat), 0, cs.drop c.toNat) else (0, 3, [])
  else (0, s.1, [])
def gT (n : Nat) (s : St) : List Int × St := (tkO n s.1 s.2, tkE n s.1 s.2, tkR n s.1 s.2)
/-- a hash: 32 bytes, or none -/
def gH (s : St) : List Int × St := (if (gT 32 s).2.1 = 0 then (gT 32 s).1 else List.replicate 32 0, (gT 32 s).2)
theorem gV_fault {most : Int} {e : Int} (he : e ≠ 0) : gV most (e, []) = (0, e, []) := by
  unfold gV svN svR svE
  simp only [if_neg he]
theorem gA_fault {e : Int} (he : e ≠ 0) : gA (e, []) = (0, e, []) := by
  unfold gA
  rw [if_neg he]
theorem gT_fault {n : Nat} {e : Int} (he : e ≠ 0) : gT n (e, []) = ([], e, []) := by
  unfold gT tkO tkE tkR
  simp only [if_neg he]
theorem gH_fault {e : Int} (he : e ≠ 0) : gH (e, []) = (List.replicate 32 0, e, []) := by
  unfold gH
  rw [gT_fault he, if_neg he]
/-- a number that was put is got -/
theorem gV_enc {m : Nat} {most : Int} (r : List Int) (hm : m < 9223372036854775808) (hle : (m : Int) ≤ most) : gV most (0, enc m ++ r) = (m, 0, r) := by
  have h := grp_enc r 8 m 0 (lt63 hm) (by decide) (fun h => absurd h (by decide))
  rw [Nat.zero_add] at h
  have hs : svE most 0 (enc m ++ r) = 0 := by
    unfold svE
    rw [if_pos rfl, h]
    simp only
    rw [if_pos trivial, List.take_left, gval_enc, if_neg (by omega)]
  unfold gV svN svR
  rw [hs, if_pos rfl, if_pos rfl, h]
  simp only
  rw [List.take_left, gval_enc, List.drop_left]
theorem gV_cut {m j : Nat} {most : Int} (hm : m < 9223372036854775808) (hj : j < (enc m).length) : gV most (0, (enc m).take j) = (0, 3, []) := by
  have h := grp_cut 8 m 0 j (lt63 hm) (by decide) hj
  unfold gV svN svR svE
  simp [h]
/-- a number that is got was put -/
theorem gV_back {m : Nat} {most : Int} {xs r : List Int} (hb : By xs) (h : gV most (0, xs) = (m, 0, r)) : xs = enc m ++ r ∧ (m : Int) ≤ most ∧ m < 9223372036854775808 := by
  unfold gV svN svR at h
  simp only [Prod.mk.injEq] at h
  obtain ⟨h1, h2, h3⟩ := h
  rw [h2, if_pos rfl] at h1 h3
  unfold svE at h2
  rw [if_pos rfl] at h2
  by_cases h0 : (grp 0 xs).1 = 0
  · rw [if_pos h0] at h2
    by_cases hm : most < (gval (xs.take (grp 0 xs).2) : Int)
    · rw [if_pos hm] at h2; cases h2
    · obtain ⟨k, hk, -⟩ := grp_back xs 0 hb (by decide) h0
      rw [Nat.sub_zero] at hk
      have h9 : (xs.take (grp 0 xs).2).length ≤ 9 := by
        rw [List.length_take]
        rcases grp_spec xs 0 (by decide) with ⟨-, -, h9, -⟩ | ⟨-, h9⟩ <;> omega
      have h63 := gval_63 h9
      rw [h1] at h63 hm
      rw [hk, gval_enc] at h1
      subst h1
      refine ⟨?_, by omega, h63⟩
      rw [← hk, ← h3, List.take_append_drop]
  · rw [if_neg h0] at h2
    exact absurd h2 h0
theorem gV_lt {most : Int} {s : St} : (gV most s).1 < 9223372036854775808 := by
  unfold gV svN
  simp only
  split
  · refine gval_63 ?_
    rw [List.length_take]
    rcases grp_spec s.2 0 (by decide) with ⟨-, -, h9, -⟩ | ⟨-, h9⟩ <;> omega
  · decide
theorem gV_most {most : Int} {s : St} (hm : 0 ≤ most) : ((gV most s).1 : Int) ≤ most := by
  unfold gV svN
  simp only
  split
  · rename_i h
    unfold svE at h
    split at h
    · split at h
      · split at h
        · cases h
        · omega
      · rename_i h1; exact absurd h h1
    · rename_i h1; exact absurd h h1
  · omega
/-- an amount that was put is got -/
theorem gA_amt {a : Nat} (r : List Int) (ha : a < M) : gA (0, amtL a ++ r) = (a, 0, r) := by
  have hl := amtB_len ha
  have h32 := nby_le ha
  unfold gA
  rw [if_pos rfl, amtL_eq, List.cons_append]
  simp only
  rw [if_neg, if_pos, Int.toNat_natCast, ← hl, List.take_left, List.drop_left, amtB_beV ha]
  · rw [Int.toNat_natCast, List.length_append]; omega
  · rintro (h | ⟨h, h1⟩)
    · omega
    · refine amtB_head ha ?_
      match hB : amtB a with
      | [] => rw [hB] at hl; simp at hl; omega
      | c :: cs => rw [hB] at h1; exact h1
theorem gA_cut {a j : Nat} (ha : a < M) (hj : j < (amtL a).length) : gA (0, (amtL a).take j) = (0, 3, []) := by
  have hl := amtB_len ha
  have h32 := nby_le ha
  unfold gA
  rw [if_pos rfl]
  match j, hj with
  | 0, _ => rfl
  | j + 1, hj =>
    rw [amtL_eq, List.length_cons] at hj
    rw [amtL_eq, List.take_succ_cons]
    simp only
    rw [if_neg, if_neg]
    · rw [Int.toNat_natCast, List.length_take]; omega
    · rintro (h | ⟨h, h1⟩)
      · omega
      · refine amtB_head ha ?_
        rw [List.head?_take] at h1
        split at h1
        · cases h1
        · exact h1
theorem gA_back {a : Nat} {xs r : List Int} (hb : By xs) (h : gA (0, xs) = (a, 0, r)) : xs = amtL a ++ r ∧ a < M := by
  unfold gA at h
  rw [if_pos rfl] at h
  match xs, hb, h with
  | [], _, h => cases h
  | c :: cs, hb, h =>
    simp only at h
    have hc := hb.head
    split at h
    · cases h
    · rename_i h1
      split at h
      · rename_i h2
        simp only [Prod.mk.injEq, true_and] at h
        obtain ⟨rfl, rfl⟩ := h
        have hlen : (cs.take c.toNat).length = c.toNat := by rw [List.length_take]; omega
        have e := amtL_of (ys := cs.take c.toNat) (by omega) (hb.tail.take _) (fun h0 => h1 (by
          rw [List.head?_take] at h0
          split at h0
          · cases h0
          · exact .inr ⟨by omega, h0⟩))
        refine ⟨?_, beV_M (by omega) (hb.tail.take _)⟩
        rw [e, hlen, Int.toNat_of_nonneg hc.1, List.cons_append, List.take_append_drop]
      · cases h
theorem gA_lt {s : St} (hb : By s.2) : (gA s).1 < M := by
  unfold gA
  split
  · split
    · exact M_pos
    · rename_i c cs e
      rw [e] at hb
      split
      · exact M_pos
      · rename_i h1
        split
        · rename_i h2
          exact beV_M (by rw [List.length_take]; omega) (hb.tail.take _)
        · exact M_pos
  · exact M_pos
end Go.Proofs.Ytpdenhmkpiafiaa
