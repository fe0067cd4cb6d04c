/-
  tallageref01.QuoRem (171): how often, and what is left, bit by bit.
-/
import Derived.Test.YtpdenhmkpiafiaaRefOwn
import Derived.Test.YtpdenhmkpiafiaaRefDig
import Derived.Test.YtpdenhmkpiafiaaMQuo
namespace Go.Proofs.Ytpdenhmkpiafiaa
open Go Go.RowKit K6 Ref

theorem tr_set {X : Nat → Prop} {w : World} {p : Addr} {u : Value} (h : X p.block) : Tr X w (w.setCell p u) :=
  ⟨rfl, rfl, rfl, by simp, fun b _ hx => Below.heap_setCell w p u b (fun e => hx (e ▸ h))⟩
theorem Sl.tr {X : Nat → Prop} {w w' : World} {v : Value} {xs : List Nat} (h : Sl w v xs) (hT : Tr X w w') (hx : ∀ b, v.ownBlock = some b → ¬ X b) : Sl w' v xs := by
  obtain ⟨r, c, rfl, hc, h0, h1⟩ := h
  refine ⟨r, c, rfl, hc, h0, fun a ha => ?_⟩
  obtain ⟨g, o, rfl, hg, hi⟩ := h1 a ha
  subst ha
  have hb := hT.block g hg (hx g rfl)
  refine ⟨g, o, rfl, Nat.lt_of_lt_of_le hg hT.size, fun i hl => ?_⟩
  rw [← hi i hl]
  unfold World.cell?
  rw [hb]
namespace Ref
theorem dg_val {xs : List Nat} (hx : Dig xs) (p : Nat) : dg xs p = d32 (val xs) p := by
  rcases Nat.lt_or_ge p xs.length with h | h
  · have h1 := val_split h
    have h2 := take_lt hx p (Nat.le_of_lt h)
    have h3 := dg_lt hx p
    rw [h1, d32_parts h2 h3, if_neg (Nat.lt_irrefl _), if_pos rfl]
  · rw [dg_out h, d32_out (val_lt hx) h]
theorem bit_dig (A j : Nat) : d32 A (j / 32) / 2 ^ (j % 32) % 2 = bitN A j := by
  unfold bitN
  have t1 := Nat.testBit_eq_decide_div_mod_eq (x := d32 A (j / 32)) (i := j % 32)
  have t2 := Nat.testBit_eq_decide_div_mod_eq (x := A) (i := j)
  have t3 : (d32 A (j / 32)).testBit (j % 32) = A.testBit j := by
    unfold d32
    rw [Nat.testBit_mod_two_pow, Nat.testBit_div_two_pow]
    have : j % 32 < 32 := Nat.mod_lt _ (by decide)
    simp [this]
    congr 1; omega
  rw [t3, t2] at t1
  have h1 : d32 A (j / 32) / 2 ^ (j % 32) % 2 < 2 := Nat.mod_lt _ (by decide)
  have h2 : A / 2 ^ j % 2 < 2 := Nat.mod_lt _ (by decide)
  have h3 : (A / 2 ^ j % 2 = 1) ↔ (d32 A (j / 32) / 2 ^ (j % 32) % 2 = 1) := by simpa using t1
  omega
theorem and_bit (A j : Nat) : bits .and .u32 (((d32 A (j / 32) : Nat) : Int) / 2 ^ (j % 32)) 1 = ((bitN A j : Nat) : Int) := by
  have hl : d32 A (j / 32) < 4294967296 := d32_lt _ _
  have e : (((d32 A (j / 32) : Nat) : Int) / 2 ^ (j % 32)) = ((d32 A (j / 32) / 2 ^ (j % 32) : Nat) : Int) := by rw [Int.natCast_ediv, Int.natCast_pow]; rfl
  rw [e, show (1 : Int) = ((1 : Nat) : Int) from rfl, u32_and_nat _ 1 (Nat.lt_of_le_of_lt (Nat.div_le_self _ _) hl) (by decide), Nat.and_one_is_mod, bit_dig]
theorem shl_or32 {r c : Nat} (_hr : r < B) (hc : c ≤ 1) : bits .or .u32 (IntKind.u32.wrap ((r : Int) * 2)) (c : Int) = ((2 * r % B + c : Nat) : Int) := by
  simp only [B] at *
  have e : IntKind.u32.wrap ((r : Int) * 2) = (((r % 2147483648) * 2 : Nat) : Int) := by rw [IntKind.wrap_u32]; omega
  rw [e, u32_or_nat _ _ (by omega) (by omega)]
  have := Nat.two_pow_add_eq_or_of_lt (i := 1) (b := c) (by omega) (r % 2147483648)
  rw [Nat.mul_comm (r % 2147483648), show (2 : Nat) = 2 ^ 1 from rfl, ← this]; omega
/-- one digit shifted -/
theorem shift_step {S H R2 c t : Nat} (hS : S / B ^ t = H) (he : S + B ^ t * H + B ^ t * c = R2) (hc : c ≤ 1) :
    ∃ r r2 c' S', d32 S t = r ∧ r < B ∧ r2 = 2 * r % B + c ∧ r2 < B ∧ c' = r / 2147483648 ∧ c' ≤ 1 ∧ S' + B ^ t * d32 S t = S + B ^ t * r2 ∧ S' / B ^ (t + 1) = H / B ∧ S' + B ^ (t + 1) * (H / B) + B ^ (t + 1) * c' = R2 := by
  have hr : d32 S t = H % B := by rw [d32_B, hS]
  obtain ⟨r, hr'⟩ : ∃ r, d32 S t = r := ⟨_, rfl⟩
  obtain ⟨h, hh⟩ : ∃ h, H / B = h := ⟨_, rfl⟩
  have hrl : r < B := by rw [← hr', hr]; exact Nat.mod_lt _ (by decide)
  have hH : H = r + B * h := by
    have := Nat.mod_add_div H B
    rw [← hr, hr', hh] at this
    exact this.symm
  have hlo : S % B ^ t < B ^ t := Nat.mod_lt _ (B_pos t)
  have hSd : S = S % B ^ t + B ^ t * H := by
    have := Nat.mod_add_div S (B ^ t)
    rw [hS] at this
    exact this.symm
  obtain ⟨lo, hlo'⟩ : ∃ lo, S % B ^ t = lo := ⟨_, rfl⟩
  rw [hlo'] at hlo hSd
  have hrc : 2 * r + c = (2 * r % B + c) + B * (r / 2147483648) := by simp only [B] at *; omega
  have hr2 : 2 * r % B + c < B := by simp only [B] at *; omega
  have hc2 : r / 2147483648 ≤ 1 := by simp only [B] at *; omega
  obtain ⟨r2, hr2'⟩ : ∃ r2, 2 * r % B + c = r2 := ⟨_, rfl⟩
  obtain ⟨c', hc'⟩ : ∃ c', r / 2147483648 = c' := ⟨_, rfl⟩
  rw [hr2', hc'] at hrc
  rw [hr2'] at hr2
  rw [hc'] at hc2
  rw [hr', hh]
  have eA : B ^ t * H = B ^ t * r + B ^ t * (B * h) := by rw [hH, Nat.mul_add]
  have eB : B ^ (t + 1) * h = B ^ t * (B * h) := by rw [Nat.pow_succ, Nat.mul_assoc]
  have eC : B ^ (t + 1) * c' = B ^ t * (B * c') := by rw [Nat.pow_succ, Nat.mul_assoc]
  have eD : B ^ t * r + B ^ t * r + B ^ t * c = B ^ t * r2 + B ^ t * (B * c') := by
    have := congrArg (B ^ t * ·) hrc
    simp only [Nat.mul_add] at this
    rw [Nat.mul_left_comm (B ^ t) 2 r] at this
    omega
  refine ⟨r, r2, c', lo + B ^ t * (r2 + B * h), rfl, hrl, hr2'.symm, hr2, hc'.symm, hc2, ?_, ?_, ?_⟩
  · rw [Nat.mul_add]; omega
  · rw [Nat.pow_succ, ← Nat.div_div_eq_div_mul, Nat.add_mul_div_left _ _ (B_pos t), Nat.div_eq_of_lt hlo, Nat.zero_add, Nat.add_mul_div_left _ _ (by decide : 0 < B), Nat.div_eq_of_lt hr2, Nat.zero_add]
  · rw [Nat.mul_add]; omega
theorem shift_end {S H R2 c K : Nat} (he : S + B ^ K * H + B ^ K * c = R2) (hl : R2 < B ^ K) : S = R2 := by
  rcases Nat.eq_zero_or_pos H with h | h
  · rcases Nat.eq_zero_or_pos c with h' | h'
    · rw [h, h'] at he; omega
    · have := Nat.mul_le_mul_left (B ^ K) h'
      omega
  · have := Nat.mul_le_mul_left (B ^ K) h
    omega
/-- one digit of the difference laid -/
theorem copy_step {E R2 t : Nat} : (E % B ^ (t + 1) + B ^ (t + 1) * (R2 / B ^ (t + 1))) + B ^ t * d32 (E % B ^ t + B ^ t * (R2 / B ^ t)) t = (E % B ^ t + B ^ t * (R2 / B ^ t)) + B ^ t * d32 E t := by
  have h1 : E % B ^ (t + 1) = E % B ^ t + B ^ t * d32 E t := by rw [d32_B, Nat.pow_succ, Nat.mod_mul]
  have h2 : R2 / B ^ t = d32 R2 t + B * (R2 / B ^ (t + 1)) := by rw [d32_B, Nat.pow_succ, ← Nat.div_div_eq_div_mul, Nat.mod_add_div]
  have h3 : d32 (E % B ^ t + B ^ t * (R2 / B ^ t)) t = d32 R2 t := by
    rw [h2, d32_parts (Nat.mod_lt _ (B_pos t)) (d32_lt _ _), if_neg (Nat.lt_irrefl _), if_pos rfl]
  rw [h3, h1, h2, Nat.mul_add, Nat.pow_succ, Nat.mul_assoc]
  omega
theorem put_bit32 (m k : Nat) :
    upd (dgf (2 ^ (k + 1) * m)) (k / 32) (bits .or .u32 (dgf (2 ^ (k + 1) * m) (k / 32)) (((2 ^ (k % 32) : Nat) : Int))) = dgf (2 ^ (k + 1) * m + 2 ^ k) := by
  have hB : 2 ^ k < 2 ^ (k + 1) := Nat.pow_lt_pow_right (by decide) (by omega)
  have hor := Nat.two_pow_add_eq_or_of_lt hB m
  have hw : ∀ q, (2 ^ (k + 1) * m + 2 ^ k) / 2 ^ (32 * q) % 2 ^ 32 = (2 ^ (k + 1) * m) / 2 ^ (32 * q) % 2 ^ 32 ||| (2 ^ k) / 2 ^ (32 * q) % 2 ^ 32 := fun q => by
    rw [hor, Nat.or_div_two_pow, Nat.or_mod_two_pow]
  have hlt : 2 ^ (k % 32) < 2 ^ 32 := Nat.pow_lt_pow_right (by decide) (Nat.mod_lt _ (by decide))
  have hat : (2 ^ k) / 2 ^ (32 * (k / 32)) % 2 ^ 32 = 2 ^ (k % 32) := by
    have e : k = k % 32 + 32 * (k / 32) := by omega
    have h1 : 2 ^ k = 2 ^ (k % 32) * 2 ^ (32 * (k / 32)) := by rw [← Nat.pow_add, ← e]
    rw [h1, Nat.mul_div_cancel _ (Nat.pow_pos (by decide))]
    exact Nat.mod_eq_of_lt hlt
  have hne : ∀ q, q ≠ k / 32 → (2 ^ k) / 2 ^ (32 * q) % 2 ^ 32 = 0 := fun q hq => by
    rcases Nat.lt_or_ge (k / 32) q with h | h
    · have h1 : 2 ^ (k + 1) ≤ 2 ^ (32 * q) := Nat.pow_le_pow_right (by decide) (by omega)
      rw [Nat.div_eq_of_lt (by omega)]
    · have e : k = (k - 32 * (q + 1)) + 32 + 32 * q := by omega
      rw [e, Nat.pow_add, Nat.pow_add, Nat.mul_div_cancel _ (Nat.pow_pos (by decide)), Nat.mul_mod_left]
  funext q
  unfold upd
  by_cases e : q = k / 32
  · rw [if_pos e, e]
    unfold dgf d32
    rw [hw, hat]
    rw [u32_or_nat _ _ (Nat.mod_lt _ (by decide)) (by omega)]
  · rw [if_neg e]
    unfold dgf d32
    rw [hw, hne q e, Nat.or_zero]
theorem digs_ne {n : Nat} (h : n ≠ 0) : 0 < (digs n).length := by rw [digs_pos h]; simp
end Ref

set_option maxRecDepth 100000 in
set_option maxHeartbeats 32000000 in
theorem quorem_any (v u : Value) (xs ys : List Nat) (w : World) (hx : Dig xs) (hy : Dig ys) (sv : Sl w v xs) (su : Sl w u ys) (lx : xs.length < 10000000) (ly : ys.length < 10000000) (hD : val ys ≠ 0) :
    Calls Try.prog 171 #[v, u] w fun e w' => ∃ q r, e = .returned (.tuple #[q, r]) ∧ Sl w' q (digs (val xs / val ys)) ∧ Sl w' r (digs (val xs % val ys)) ∧ Below w.heap.size w w' := by
  have HT := trim_any u ys w hy su (by omega)
  have lk : (digs (val ys)).length < 10000000 := Nat.lt_of_le_of_lt (digs_len (val_lt hy)) ly
  have hAl := val_lt hx
  have hdx := dg_val hx
  obtain ⟨A, hA⟩ : ∃ A, val xs = A := ⟨_, rfl⟩
  obtain ⟨D, hDD⟩ : ∃ D, val ys = D := ⟨_, rfl⟩
  rw [hA] at hAl ⊢
  rw [hA] at hdx
  rw [hDD] at HT lk hD ⊢
  clear hA hDD hy su ly
  obtain ⟨r1, c1, rfl, k1, -, -⟩ := id sv
  obtain ⟨n, hn⟩ : ∃ n, xs.length = n := ⟨_, rfl⟩
  rw [hn] at lx k1 hAl ⊢
  have SV := Lib.hid (show _ ∧ _ ∧ _ ∧ _ from ⟨hx, sv, hdx, hAl⟩)
  clear hx sv hdx hAl
  replace HT := Lib.hid HT
  have HD := Lib.hid hD
  have hk0 := digs_ne hD
  have hDl : D < B ^ (digs D).length := by
    have := val_lt (dig_digs D)
    rwa [val_digs] at this
  clear hD
  obtain ⟨k, hk⟩ : ∃ k, (digs D).length = k := ⟨_, rfl⟩
  rw [hk] at hk0 hDl lk
  replace hDl := Lib.hid hDl
  have mk1 := make32 n (by omega)
  have mk2 := make32 (k + 1) (by omega)
  rw [Int.natCast_add, show ((1 : Nat) : Int) = 1 from rfl] at mk2
  have hkz : ((k : Int) == 0) = false := by simp; omega
  go_enter Try.func171, Try.ntmps171
  go_wp2_with fail
  refine HT.out.mono ?_
  rintro e w1 ⟨rfl, u1, rfl, s2⟩
  clear HT
  obtain ⟨r2, c2, rfl, k2, -, -⟩ := id s2
  rw [hk] at s2 k2 ⊢
  have S2 := Lib.hid s2
  clear s2
  go_wp2_with fail
  have hz0 : A / 2 ^ (32 * n) = 0 := Nat.div_eq_of_lt (by rw [Nat.pow_mul]; exact SV.out.2.2.2)
  have hz1 : qAt A D (32 * n) = 0 := by
    unfold qAt
    rw [hz0, Nat.zero_div, Nat.zero_mul]
  have hz2 : A / 2 ^ (32 * n) % D = 0 := by rw [hz0, Nat.zero_mod]
  clear hz0
  have HZ := Lib.hid (show _ ∧ _ from ⟨hz1, hz2⟩)
  clear hz1 hz2
  go_loopg [8] (32 * n) (fun gg s8 wr => gg ≤ 32 * n ∧ s8 = .int .i64 ((gg : Int) - 1) ∧ Below w1.heap.size w1 wr ∧ Row wr w1.heap.size 181 (arr .u32 (dgf (qAt A D gg)) n) ∧ Row wr (w1.heap.size + 1) 181 (arr .u32 (dgf (A / 2 ^ gg % D)) (k + 1)))
  case atStart =>
    refine ⟨Nat.le_refl _, by go_num, by go_grown, ?_, ?_⟩
    · rw [HZ.out.1]; exact (Row.new_at rfl).alloc _
    · rw [HZ.out.2]; exact Row.new_at (by simp)
  case round =>
    obtain ⟨hgk, rfl, hl, rq, rr⟩ := hrel
    obtain ⟨g1, rfl⟩ : ∃ g1 : Nat, g1 = gk := ⟨_, rfl⟩
    obtain ⟨wo, rfl⟩ : ∃ wo : World, wo = wr := ⟨_, rfl⟩
    rcases Nat.eq_zero_or_pos g1 with h0 | h0
    · subst h0
      have e1 : qAt A D 0 = A / D := by unfold qAt; simp
      have e2 : A / 2 ^ 0 % D = A % D := by simp
      rw [e1] at rq
      rw [e2] at rr
      have hql : A / D < B ^ n := Nat.lt_of_le_of_lt (Nat.div_le_self _ _) SV.out.2.2.2
      have hrl : A % D < B ^ (k + 1) := Nat.lt_of_lt_of_le (Nat.mod_lt _ (Nat.pos_of_ne_zero HD.out)) (Nat.le_trans (Nat.le_of_lt hDl.out) (Nat.pow_le_pow_right (by decide) (by omega)))
      have hT1 := trim_any _ _ wo (dig_d32 _ _) (Sl_dgf rq (Nat.le_refl _)) (by simp; omega)
      have hT2 := trim_any _ _ wo (dig_d32 _ _) (Sl_dgf rr (Nat.le_refl _)) (by simp; omega)
      rw [val_dgf hql] at hT1
      rw [val_dgf hrl] at hT2
      replace hT1 := Lib.hid hT1
      replace hT2 := Lib.hid hT2
      clear e1 e2 hql hrl rq rr
      go_wp2_with fail
      refine hT1.out.mono ?_
      rintro e w' ⟨rfl, q, rfl, hq⟩
      go_wp2_with fail
      refine hT2.out.mono ?_
      rintro e w'' ⟨rfl, r, rfl, hr⟩
      go_wp2_with fail
      go_ret2
      exact ⟨_, _, rfl, hq, hr, hl⟩
    · obtain ⟨j, rfl⟩ : ∃ j, g1 = j + 1 := ⟨g1 - 1, by omega⟩
      have e1 : ((j : Int) + 1) - 1 = (j : Int) := by omega
      obtain ⟨g, o, rfl⟩ := SV.out.2.1.addr' (by omega)
      have hjn : j / 32 < n := by omega
      have cx := SV.out.2.1.cell (i := j / 32) (by omega)
      replace cx := ((bcell hl).1 g (o + j / 32) cx.1).trans cx.2
      rw [SV.out.2.2.1] at cx
      have ab := and_bit A j
      have hbl := bitN_le A j
      have hdr := div_round A D j HD.out
      obtain ⟨m, hm1, hm2⟩ := qAt_step A D j HD.out
      obtain ⟨R, hR⟩ : ∃ R, A / 2 ^ (j + 1) % D = R := ⟨_, rfl⟩
      have hRl : R < D := by rw [← hR]; exact Nat.mod_lt _ (Nat.pos_of_ne_zero HD.out)
      rw [hR] at hdr hm2 rr
      obtain ⟨bt, hbt⟩ : ∃ bt, bitN A j = bt := ⟨_, rfl⟩
      rw [hbt] at hdr hm2 ab hbl
      obtain ⟨x, hxx⟩ : ∃ x, d32 A (j / 32) = x := ⟨_, rfl⟩
      rw [hxx] at cx ab
      have hR2l : 2 * R + bt < B ^ (k + 1) := by
        have h1 : 2 * B ^ k ≤ B ^ (k + 1) := by rw [Nat.pow_succ, Nat.mul_comm]; exact Nat.mul_le_mul_left _ (by decide)
        have := hDl.out
        omega
      obtain ⟨R2, hR2⟩ : ∃ R2, 2 * R + bt = R2 := ⟨_, rfl⟩
      have hN : A / 2 ^ j % D = if D ≤ R2 then R2 - D else R2 := by rw [hdr.2]; unfold rN; rw [hR2]
      rw [hR2] at hm2 hR2l
      have t1 : ((j : Int)).tdiv 32 = (j : Int) / 32 := Int.tdiv_eq_ediv_of_nonneg (by omega)
      have t2 : ((j : Int)).tmod 32 = (j : Int) % 32 := Int.tmod_eq_emod_of_nonneg (by omega)
      have t5 : (j : Int) / 32 < (n : Int) := by omega
      have t6 : 0 ≤ (j : Int) / 32 := by omega
      have t7 : 0 ≤ (j : Int) % 32 := by omega
      have t8 : (j : Int) % 32 < 32 := by omega
      have t9 : ((j : Int) / 32).toNat = j / 32 := by omega
      have t10 : ((j : Int) % 32).toNat = j % 32 := by omega
      have H0 := Lib.hid (show _ ∧ _ ∧ _ ∧ _ ∧ _ ∧ _ ∧ _ ∧ _ ∧ _ from ⟨rq, rr, hm1, hm2, hN, hR2l, hR2, hRl, hbl⟩)
      clear rq rr hm1 hm2 hN hR2l hR2 hRl hbl hdr hR hbt hxx
      go_wp2_with fail
      go_loopg [9, 47] (k + 1) (fun gg s9 s47 wi => ∃ (t c S H : Nat), t + gg = k + 1 ∧ s9 = .int .u32 ((c : Nat) : Int) ∧ s47 = .int .i64 ((t : Nat) : Int) ∧ Tr (fun b => b = w1.heap.size + 1) wo wi ∧ Row wi (w1.heap.size + 1) 181 (arr .u32 (dgf S) (k + 1)) ∧ c ≤ 1 ∧ S / B ^ t = H ∧ S + B ^ t * H + B ^ t * c = R2)
      case atStart => exact ⟨0, bt, R, R, by omega, rfl, rfl, Tr.refl _ _, H0.out.2.1, H0.out.2.2.2.2.2.2.2.2, by simp, by have := H0.out.2.2.2.2.2.2.1; simp; omega⟩
      case round =>
        obtain ⟨t, c, S, H, ht, rfl, rfl, hTi, rr, hc, hS, he⟩ := hrel
        obtain ⟨g2, rfl⟩ : ∃ g2 : Nat, g2 = gk := ⟨_, rfl⟩
        obtain ⟨wi, rfl⟩ : ∃ wi : World, wi = wr := ⟨_, rfl⟩
        by_cases hlt : t < k + 1
        · have hix : (t : Int) < (k : Int) + 1 := by omega
          obtain ⟨r, r2, c', S', hr, hrl, hr2, hr2l, hc', hcl, hput, hS', he'⟩ := shift_step hS he hc
          have hP := upd_dgf hr2l hput
          have co := rr.at_ t (by omega)
          have fo := rr.frozen t
          rw [show dgf S t = ((d32 S t : Nat) : Int) from rfl, hr] at co
          have so := shl_or32 hrl hc
          rw [← hr2, IntKind.wrap_u32] at so
          have a4 : (r : Int) / 2147483648 = (c' : Int) := by omega
          have HH := Lib.hid (show _ ∧ _ ∧ _ ∧ _ ∧ _ ∧ _ from ⟨hcl, hS', he', hP, rr, hTi⟩)
          clear hcl hS' he' hP rr hTi hput hr2 hr2l hrl hr hc' hc hS he
          go_wp2_with fail
          go_roundg (g2 - 1)
          case measure => omega
          case rel => exact ⟨t + 1, c', S', H / B, by omega, rfl, by go_num, HH.out.2.2.2.2.2.trans (tr_set rfl), (HH.out.2.2.2.2.1.put t (by omega) _).congr (by rw [HH.out.2.2.2.1]), HH.out.1, HH.out.2.1, HH.out.2.2.1⟩
        · obtain rfl : t = k + 1 := by omega
          have hSR := shift_end he H0.out.2.2.2.2.2.1
          rw [hSR] at rr
          clear hSR he hS hc
          have hix : ¬ (k : Int) + 1 < (k : Int) + 1 := by omega
          have hl2 : Below w1.heap.size w1 wi := hl.trans (hTi.below_of hl.size (by intro c hc; omega))
          have rq : Row wi w1.heap.size 181 (arr .u32 (dgf (qAt A D (j + 1))) n) := K6.Row.tr H0.out.1 hTi (by show ¬ (w1.heap.size = w1.heap.size + 1); omega)
          have sb := S2.out.below hl2
          have sr := Sl_dgf rr (Nat.le_refl _)
          have HC := natcmp_any _ _ _ _ wi (dig_d32 _ _) (dig_digs D) sr sb (by simp; omega) (by omega)
          rw [val_dgf H0.out.2.2.2.2.2.1, val_digs] at HC
          have HM := fun wx (hb : Below wi.heap.size wi wx) => minus_own _ _ _ _ wx (dig_d32 _ _) (dig_digs D) (sr.below hb) (sb.below hb) (by simp; omega) (by omega)
          rw [val_dgf H0.out.2.2.2.2.2.1, val_digs] at HM
          obtain ⟨cc, hcc⟩ : ∃ cc, cmpN R2 D = cc := ⟨_, rfl⟩
          rw [hcc] at HC
          replace HC := Lib.hid HC
          replace HM := Lib.hid HM
          have HR := Lib.hid (show _ ∧ _ from ⟨rq, rr⟩)
          clear rq rr sb sr hTi hl
          by_cases hDR : D ≤ R2
          · have hc0 : 0 ≤ cc := by rw [← hcc]; unfold cmpN; rw [if_neg (by omega)]; split <;> omega
            have hsb : subB R2 D = true := decide_eq_true hDR
            rw [hsb] at HM
            clear hcc hsb
            go_wp2_with fail
            refine HC.out.mono ?_
            rintro e w3 ⟨rfl, hb3⟩
            go_wp2_with fail
            refine (HM.out _ hb3).mono ?_
            rintro e w4 ⟨r3, rfl, s3, hb4, hob⟩
            have hl4 : Below w1.heap.size w1 w4 := (hl2.trans (hb3.mono hl2.size)).trans (hb4.mono (Nat.le_trans hl2.size hb3.size))
            have hsz : w1.heap.size + 1 < w3.heap.size := Nat.lt_of_lt_of_le HR.out.2.lt hb3.size
            have rq : Row w4 w1.heap.size 181 (arr .u32 (dgf (qAt A D (j + 1))) n) := (HR.out.1.below hb3 HR.out.1.lt).below hb4 (Nat.lt_of_lt_of_le HR.out.1.lt hb3.size)
            have rr : Row w4 (w1.heap.size + 1) 181 (arr .u32 (dgf R2) (k + 1)) := (HR.out.2.below hb3 HR.out.2.lt).below hb4 hsz
            have ll : (digs (R2 - D)).length ≤ k := digs_len (by have := hDl.out; have := H0.out.2.2.2.2.2.2.1; have := H0.out.2.2.2.2.2.2.2.1; have := H0.out.2.2.2.2.2.2.2.2; omega)
            have lE : R2 - D < B ^ (k + 1) := Nat.lt_of_le_of_lt (Nat.sub_le _ _) H0.out.2.2.2.2.2.1
            have hdz := dg_val (dig_digs (R2 - D))
            rw [val_digs] at hdz
            obtain ⟨r4, c4, rfl, k4, -, -⟩ := id s3
            obtain ⟨l, hll⟩ : ∃ l, (digs (R2 - D)).length = l := ⟨_, rfl⟩
            rw [hll] at s3 k4 ll hob ⊢
            obtain ⟨E, hE⟩ : ∃ E, R2 - D = E := ⟨_, rfl⟩
            rw [hE] at s3 lE hdz hll
            have H3 := Lib.hid (show _ ∧ _ ∧ _ ∧ _ ∧ _ ∧ _ ∧ _ ∧ _ from ⟨s3, hob, rq, rr, lE, hdz, hE, hll⟩)
            clear s3 hob rq rr lE hdz hE hll HC HM HR hb3 hb4 hl2
            go_wp2_with fail
            go_loopg [79] (k + 1) (fun gg s79 wi => ∃ (t : Nat), t + gg = k + 1 ∧ s79 = .int .i64 ((t : Nat) : Int) ∧ Tr (fun b => b = w1.heap.size + 1) w4 wi ∧ Row wi (w1.heap.size + 1) 181 (arr .u32 (dgf (E % B ^ t + B ^ t * (R2 / B ^ t))) (k + 1)))
            case atStart => exact ⟨0, by omega, rfl, Tr.refl _ _, H3.out.2.2.2.1.congr (by simp [Nat.mod_one])⟩
            case round =>
              obtain ⟨t, ht, rfl, hT5, rr⟩ := hrel
              obtain ⟨g3, rfl⟩ : ∃ g3 : Nat, g3 = gk := ⟨_, rfl⟩
              obtain ⟨wk, rfl⟩ : ∃ wk : World, wk = wr := ⟨_, rfl⟩
              by_cases hlt : t < k + 1
              · have hix : (t : Int) < (k : Int) + 1 := by omega
                have hP := upd_dgf (d32_lt E t) (copy_step (E := E) (R2 := R2) (t := t))
                have fo := rr.frozen t
                have co := rr.at_ t (by omega)
                obtain ⟨y0, hy0⟩ : ∃ y0, dgf (E % B ^ t + B ^ t * (R2 / B ^ t)) t = y0 := ⟨_, rfl⟩
                rw [hy0] at co
                clear hy0
                by_cases htl : t < l
                · have htl' : (t : Int) < (l : Int) := by omega
                  have s5 := H3.out.1.tr hT5 (fun b hb hn => by have := H3.out.2.1 b hb; omega)
                  obtain ⟨g', o', rfl⟩ := s5.addr' (by have := H3.out.2.2.2.2.2.2.2; omega)
                  have hne : ¬ g' = w1.heap.size + 1 := by have := H3.out.2.1 g' rfl; omega
                  have cz := (s5.cell (i := t) (by have := H3.out.2.2.2.2.2.2.2; omega)).2
                  rw [H3.out.2.2.2.2.2.1] at cz
                  obtain ⟨z, hz⟩ : ∃ z, d32 E t = z := ⟨_, rfl⟩
                  rw [hz] at cz hP
                  have HH := Lib.hid (show _ ∧ _ ∧ _ from ⟨hP, rr, hT5⟩)
                  clear hP rr hT5 hz s5
                  go_wp2_with fail
                  go_roundg (g3 - 1)
                  case measure => omega
                  case rel =>
                    refine ⟨t + 1, by omega, by go_num, (HH.out.2.2.trans (tr_set rfl)).trans (tr_set rfl), ?_⟩
                    refine ((HH.out.2.1.put t (by omega) _).put t (by omega) _).congr ?_
                    rw [← HH.out.1]
                    congr 1
                    funext i
                    unfold upd
                    split <;> rfl
                · have htl' : ¬ (t : Int) < (l : Int) := by omega
                  have hz : d32 E t = 0 := by
                    have := dg_val (dig_digs E) t
                    rw [val_digs] at this
                    rw [← this]
                    exact dg_out (by have := H3.out.2.2.2.2.2.2.2; omega)
                  rw [hz] at hP
                  have HH := Lib.hid (show _ ∧ _ ∧ _ from ⟨hP, rr, hT5⟩)
                  clear hP rr hT5 hz
                  go_wp2_with fail
                  go_roundg (g3 - 1)
                  case measure => omega
                  case rel => exact ⟨t + 1, by omega, by go_num, HH.out.2.2.trans (tr_set rfl), (HH.out.2.1.put t (by omega) _).congr (by rw [← HH.out.1]; rfl)⟩
              · obtain rfl : t = k + 1 := by omega
                have hix : ¬ (k : Int) + 1 < (k : Int) + 1 := by omega
                have eE : E % B ^ (k + 1) + B ^ (k + 1) * (R2 / B ^ (k + 1)) = E := by
                  rw [Nat.mod_eq_of_lt H3.out.2.2.2.2.1, Nat.div_eq_of_lt H0.out.2.2.2.2.2.1, Nat.mul_zero, Nat.add_zero]
                rw [eE] at rr
                have rq : Row wk w1.heap.size 181 (arr .u32 (dgf (qAt A D (j + 1))) n) := K6.Row.tr H3.out.2.2.1 hT5 (by show ¬ (w1.heap.size = w1.heap.size + 1); omega)
                have hl5 : Below w1.heap.size w1 wk := hl4.trans (hT5.below_of hl4.size (by intro c hc; omega))
                rw [H0.out.2.2.1] at rq
                have hp := put_bit32 m j
                have cq := rq.at_ (j / 32) (by omega)
                have fq := rq.frozen (j / 32)
                have hpow : IntKind.u32.wrap (2 ^ (j % 32)) = ((2 ^ (j % 32) : Nat) : Int) := by
                  have h1 : 2 ^ (j % 32) < 4294967296 := Nat.lt_of_lt_of_le (Nat.pow_lt_pow_right (by decide) (Nat.mod_lt j (show 0 < 32 by decide))) (by decide)
                  rw [show (2 : Int) ^ (j % 32) = ((2 ^ (j % 32) : Nat) : Int) from (Int.natCast_pow 2 (j % 32)).symm, IntKind.wrap_u32]
                  generalize 2 ^ (j % 32) = P at *
                  omega
                have HH := Lib.hid (show _ ∧ _ ∧ _ ∧ _ ∧ _ from ⟨rr, rq, hl5, hp, hpow⟩)
                clear rr rq hl5 hp eE hT5 hpow
                go_wp2_with fail
                go_roundg j
                case measure => omega
                case rel =>
                  obtain ⟨rr, rq, hl5, hp, hpow⟩ := HH.out
                  refine ⟨by omega, by go_num, by go_grown, ?_, ?_⟩
                  · refine (rq.put (j / 32) (by omega) _).congr ?_
                    rw [H0.out.2.2.2.1, if_pos hDR, ← hp, ← hpow, IntKind.wrap_u32]
                  · rw [H0.out.2.2.2.2.1, if_pos hDR, H3.out.2.2.2.2.2.2.1]
                    exact rr.far (by dsimp only; omega) _
          · have hc0 : ¬ 0 ≤ cc := by rw [← hcc]; unfold cmpN; rw [if_pos (by omega)]; omega
            clear hcc HM
            go_wp2_with fail
            refine HC.out.mono ?_
            rintro e w3 ⟨rfl, hb3⟩
            go_wp2_with fail
            go_roundg j
            case measure => omega
            case rel =>
              refine ⟨by omega, by go_num, hl2.trans (hb3.mono hl2.size), ?_, ?_⟩
              · rw [H0.out.2.2.2.1, if_neg hDR, ← H0.out.2.2.1]
                exact HR.out.1.below hb3 HR.out.1.lt
              · rw [H0.out.2.2.2.2.1, if_neg hDR]
                exact HR.out.2.below hb3 HR.out.2.lt
end Go.Proofs.Ytpdenhmkpiafiaa
