/-
  tallageref01.Times (167): the product of two rows of digits.
-/
import Derived.Test.YtpdenhmkpiafiaaRefDig
namespace Go.Proofs.Ytpdenhmkpiafiaa
open Go Go.RowKit K6 Ref

namespace Ref
/-- one digit's product, added -/
theorem times_step {V W T x c i j : Nat} {ys : List Nat} (hT : T = V + B ^ i * (x * val (ys.take j))) (hW : W + B ^ (i + j) * c = T) (hc : c < B) (hx : x < B) (hy : dg ys j < B) :
    ∃ r q W', r = (d32 W (i + j) + c + x * dg ys j) % B ∧ q = (d32 W (i + j) + c + x * dg ys j) / B ∧ r < B ∧ q < B ∧ W' + B ^ (i + j) * d32 W (i + j) = W + B ^ (i + j) * r ∧ W' + B ^ (i + (j + 1)) * q = V + B ^ i * (x * val (ys.take (j + 1))) := by
  obtain ⟨o, ho⟩ : ∃ o, d32 W (i + j) = o := ⟨_, rfl⟩
  have hol : o < B := ho ▸ d32_lt W (i + j)
  have hp := parted W (i + j)
  rw [ho] at hp ⊢
  obtain ⟨y, hy'⟩ : ∃ y, dg ys j = y := ⟨_, rfl⟩
  rw [hy'] at hy ⊢
  obtain ⟨s, hs⟩ : ∃ s, o + c + x * y = s := ⟨_, rfl⟩
  rw [hs]
  have hxy : x * y ≤ (B - 1) * (B - 1) := Nat.mul_le_mul (by omega) (by omega)
  have hsl : s < B * B := by simp only [B] at *; omega
  have hr : s % B < B := Nat.mod_lt _ (by decide)
  have hle : B ^ (i + j) * o ≤ W := by
    have h1 : B ^ (i + j) * o ≤ B ^ (i + j) * (o + B * (W / B ^ (i + j + 1))) := Nat.mul_le_mul_left _ (Nat.le_add_right _ _)
    have h2 : ∀ lo X : Nat, W = lo + X → X ≤ W := fun lo X h => by omega
    exact Nat.le_trans h1 (h2 _ _ hp)
  clear hp
  refine ⟨s % B, s / B, W - B ^ (i + j) * o + B ^ (i + j) * (s % B), rfl, rfl, hr, Nat.div_lt_of_lt_mul hsl, by omega, ?_⟩
  have e1 : B ^ (i + j) * (s % B) + B ^ (i + (j + 1)) * (s / B) = B ^ (i + j) * s := by
    rw [← Nat.add_assoc i j 1, Nat.pow_succ, Nat.mul_assoc, ← Nat.mul_add, Nat.mod_add_div]
  have e2 : B ^ (i + j) * s = B ^ (i + j) * o + B ^ (i + j) * c + B ^ (i + j) * (x * y) := by rw [← hs, Nat.mul_add, Nat.mul_add]
  have e3 : B ^ i * (x * val (ys.take (j + 1))) = B ^ i * (x * val (ys.take j)) + B ^ (i + j) * (x * y) := by
    rw [take_succ, hy', Nat.mul_add, Nat.mul_add, Nat.pow_add, Nat.mul_assoc (B ^ i), ← Nat.mul_assoc x, Nat.mul_comm x (B ^ j), Nat.mul_assoc (B ^ j)]
  omega
end Ref

set_option maxRecDepth 100000 in
set_option maxHeartbeats 16000000 in
theorem times_any (v u : Value) (xs ys : List Nat) (w : World) (hx : Dig xs) (hy : Dig ys) (sv : Sl w v xs) (su : Sl w u ys) (lx : xs.length < 100000000) (ly : ys.length < 100000000) :
    Calls Try.prog 167 #[v, u] w fun e w' => ∃ r, e = .returned r ∧ Sl w' r (digs (val xs * val ys)) ∧ Below w.heap.size w w' := by
  obtain ⟨r1, c1, rfl, k1, -, -⟩ := id sv
  obtain ⟨r2, c2, rfl, k2, -, -⟩ := id su
  obtain ⟨n, hn⟩ : ∃ n, xs.length = n := ⟨_, rfl⟩
  obtain ⟨m, hm⟩ : ∃ m, ys.length = m := ⟨_, rfl⟩
  rw [hn] at lx k1 ⊢
  rw [hm] at ly k2 ⊢
  have S := Lib.hid (show _ ∧ _ ∧ _ ∧ _ from ⟨hx, hy, sv, su⟩)
  clear hx hy sv su
  have hY : val ys < B ^ m := hm ▸ val_lt S.out.2.1
  have HY := Lib.hid hY
  clear hY
  have mk := make32 (n + m) (by omega)
  rw [Int.natCast_add] at mk
  go_enter Try.func167, Try.ntmps167
  go_wp2_with fail
  go_loopg [19] n (fun gg s19 wr => ∃ (i : Nat), i + gg = n ∧ s19 = .int .i64 ((i : Nat) : Int) ∧ Below w.heap.size w wr ∧ Row wr w.heap.size 181 (arr .u32 (dgf (val (xs.take i) * val ys)) (n + m)))
  case atStart =>
    refine ⟨0, by omega, rfl, by go_grown, ?_⟩
    rw [show val (xs.take 0) * val ys = 0 by rw [show val (xs.take 0) = 0 from rfl, Nat.zero_mul]]
    exact Row.new_at rfl
  case round =>
    obtain ⟨i, hi, rfl, hl, ro⟩ := hrel
    obtain ⟨wo, rfl⟩ : ∃ wo : World, wo = wr := ⟨_, rfl⟩
    obtain ⟨g1, rfl⟩ : ∃ g1 : Nat, g1 = gk := ⟨_, rfl⟩
    by_cases hlt : i < n
    · obtain ⟨g, o, rfl⟩ := S.out.2.2.1.addr' (by omega)
      have cx := S.out.2.2.1.cell (i := i) (by omega)
      replace cx := ((bcell hl).1 g (o + i) cx.1).trans cx.2
      have hix : (i : Int) < (n : Int) := by omega
      have hxl := dg_lt S.out.1 i
      have hts := take_succ xs i
      obtain ⟨x, hx⟩ : ∃ x, dg xs i = x := ⟨_, rfl⟩
      rw [hx] at cx hxl hts
      have wx : IntKind.u64.wrap ((x : Nat) : Int) = ((x : Nat) : Int) := by rw [IntKind.wrap_u64]; simp only [B] at hxl; omega
      obtain ⟨V, hV⟩ : ∃ V, val (xs.take i) * val ys = V := ⟨_, rfl⟩
      have hTot : V + B ^ i * (x * val ys) = val (xs.take (i + 1)) * val ys := by rw [hts, ← hV, Nat.add_mul, Nat.mul_assoc]
      have hVl : V + B ^ i * (x * val ys) < B ^ (i + 1 + m) := by
        rw [hTot, Nat.pow_add]
        have h1 := take_lt S.out.1 (i + 1) (by omega)
        exact Nat.lt_of_le_of_lt (Nat.mul_le_mul_left _ (Nat.le_of_lt HY.out)) (Nat.mul_lt_mul_of_pos_right h1 (B_pos m))
      rw [hV] at ro
      have H0 := Lib.hid (show _ ∧ _ ∧ _ ∧ _ from ⟨hxl, hTot, hVl, ro⟩)
      clear hxl hTot hVl ro hx hts hV
      go_wp2_with fail
      go_loopg [8, 9] (m + 2) (fun gg s8 s9 wi => ∃ (j c W : Nat), j + gg = m + 2 ∧ s8 = .int .u64 ((c : Nat) : Int) ∧ s9 = .int .i64 ((j : Nat) : Int) ∧ Below w.heap.size w wi ∧ Row wi w.heap.size 181 (arr .u32 (dgf W) (n + m)) ∧ c < B ∧ W + B ^ (i + j) * c = V + B ^ i * (x * val (ys.take j)) ∧ (j = m + 1 → c = 0) ∧ j ≤ m + 1)
      case atStart => exact ⟨0, 0, V, by omega, rfl, rfl, hl, H0.out.2.2.2, by decide, by simp [val], by omega, by omega⟩
      case round =>
        obtain ⟨j, c, W, hj, rfl, rfl, hl2, ro2, hc, hW, hj0, hjm⟩ := hrel
        -- what the round leaves
        have hcl : c < 4294967296 := hc
        by_cases hjl : j < m
        · obtain ⟨g', o', rfl⟩ := S.out.2.2.2.addr' (by omega)
          have cy := S.out.2.2.2.cell (i := j) (by omega)
          replace cy := ((bcell hl2).1 g' (o' + j) cy.1).trans cy.2
          have hiy : (j : Int) < (m : Int) := by omega
          have hyl := dg_lt S.out.2.1 j
          obtain ⟨r, q, W', hr, hq, hrl, hql, hput, hnew⟩ := times_step rfl hW hc H0.out.1 hyl
          have hol := d32_lt W (i + j)
          obtain ⟨y, hy⟩ : ∃ y, dg ys j = y := ⟨_, rfl⟩
          rw [hy] at cy hyl hr hq
          have wy : IntKind.u64.wrap ((y : Nat) : Int) = ((y : Nat) : Int) := by rw [IntKind.wrap_u64]; simp only [B] at hyl; omega
          have co := ro2.at_ (i + j) (by omega)
          have fo := ro2.frozen (i + j)
          have hP := upd_dgf hrl hput
          rw [show dgf W (i + j) = ((d32 W (i + j) : Nat) : Int) from rfl] at co
          obtain ⟨d, hd⟩ : ∃ d, d32 W (i + j) = d := ⟨_, rfl⟩
          rw [hd] at co hol hr hq
          have wd : IntKind.u64.wrap ((d : Nat) : Int) = ((d : Nat) : Int) := by rw [IntKind.wrap_u64]; simp only [B] at hol; omega
          have hxy : x * y ≤ (B - 1) * (B - 1) := Nat.mul_le_mul (by have := H0.out.1; omega) (by omega)
          obtain ⟨p, hp⟩ : ∃ p, p = x * y := ⟨_, rfl⟩
          rw [← hp] at hxy hr hq
          have wm : IntKind.u64.wrap ((x : Int) * (y : Int)) = (p : Int) := by rw [IntKind.wrap_u64, ← Int.natCast_mul, ← hp]; simp only [B] at hxy; omega
          obtain ⟨s1, hs1⟩ : ∃ s1, s1 = d + c := ⟨_, rfl⟩
          have a1 : IntKind.u64.wrap ((d : Int) + (c : Int)) = (s1 : Int) := by rw [IntKind.wrap_u64]; simp only [B] at hol; omega
          obtain ⟨s, hs⟩ : ∃ s, s = d + c + p := ⟨_, rfl⟩
          rw [← hs] at hr hq
          have a2 : IntKind.u64.wrap ((s1 : Int) + (p : Int)) = (s : Int) := by rw [IntKind.wrap_u64]; simp only [B] at hol hxy; omega
          have a3 : IntKind.u32.wrap (s : Int) = (r : Int) := by rw [IntKind.wrap_u32]; simp only [B] at hr; omega
          have a4 : (s : Int) / 4294967296 = (q : Int) := by simp only [B] at hq; omega
          have hij : (i : Int) + (j : Int) < (n : Int) + (m : Int) := by omega
          have hij0 : ((i : Int) + (j : Int)).toNat = i + j := by omega
          have H := Lib.hid (show _ ∧ _ ∧ _ ∧ _ from ⟨hql, hnew, ro2, hP⟩)
          clear hql hnew ro2 hP hput hrl hr hq hyl hol hxy hs hs1 hp hd hy hW hj0 hc
          go_wp2_with fail
          go_roundg (gk - 1)
          case measure => omega
          case rel => exact ⟨j + 1, q, W', by omega, rfl, by go_num, by go_grown, (H.out.2.2.1.put (i + j) (by omega) _).congr (by rw [H.out.2.2.2]), H.out.1, H.out.2.1, by omega, by omega⟩
        · by_cases hc0 : c = 0
          · subst hc0
            have hiy : ¬ (j : Int) < (m : Int) := by omega
            have e : W = val (xs.take (i + 1)) * val ys := by
              rw [Nat.mul_zero, Nat.add_zero, List.take_of_length_le (by omega)] at hW
              rw [hW, H0.out.2.1]
            have H := Lib.hid (show _ ∧ _ from ⟨e, ro2⟩)
            clear e ro2 hW hj0 hc
            go_wp2_with fail
            go_roundg (g1 - 1)
            case measure => omega
            case rel => exact ⟨i + 1, by omega, by go_num, hl2, H.out.2.congr (by rw [H.out.1])⟩
          · have hiy : ¬ (j : Int) < (m : Int) := by omega
            have hcp : (0 : Int) < (c : Int) := by omega
            have hjm2 : j ≤ m := by
              rcases Nat.lt_or_ge m j with h | h
              · exact absurd (hj0 (by omega)) hc0
              · exact h
            have hyz := dg_out (xs := ys) (i := j) (by omega)
            obtain ⟨r, q, W', hr, hq, hrl, hql, hput, hnew⟩ := times_step rfl hW hc H0.out.1 (by rw [hyz]; decide)
            rw [hyz, Nat.mul_zero, Nat.add_zero] at hr hq
            have hol := d32_lt W (i + j)
            have co := ro2.at_ (i + j) (by omega)
            have fo := ro2.frozen (i + j)
            have hP := upd_dgf hrl hput
            rw [show dgf W (i + j) = ((d32 W (i + j) : Nat) : Int) from rfl] at co
            have hq0 : j + 1 = m + 1 → q = 0 := fun _ => by
              rcases Nat.eq_zero_or_pos q with h | h
              · exact h
              · exfalso
                have h1 : B ^ (i + (j + 1)) * 1 ≤ B ^ (i + (j + 1)) * q := Nat.mul_le_mul_left _ h
                have h2 := H0.out.2.2.1
                rw [List.take_of_length_le (by omega)] at hnew
                rw [show i + 1 + m = i + (j + 1) by omega] at h2
                omega
            obtain ⟨d, hd⟩ : ∃ d, d32 W (i + j) = d := ⟨_, rfl⟩
            rw [hd] at co hol hr hq
            have wd : IntKind.u64.wrap ((d : Nat) : Int) = ((d : Nat) : Int) := by rw [IntKind.wrap_u64]; simp only [B] at hol; omega
            obtain ⟨s, hs⟩ : ∃ s, s = d + c := ⟨_, rfl⟩
            rw [← hs] at hr hq
            have a1 : IntKind.u64.wrap ((d : Int) + (c : Int)) = (s : Int) := by rw [IntKind.wrap_u64]; simp only [B] at hol; omega
            have a3 : IntKind.u32.wrap (s : Int) = (r : Int) := by rw [IntKind.wrap_u32]; simp only [B] at hr; omega
            have a4 : (s : Int) / 4294967296 = (q : Int) := by simp only [B] at hq; omega
            have hij : (i : Int) + (j : Int) < (n : Int) + (m : Int) := by omega
            have hij0 : ((i : Int) + (j : Int)).toNat = i + j := by omega
            have H := Lib.hid (show _ ∧ _ ∧ _ ∧ _ ∧ _ from ⟨hql, hnew, ro2, hP, hq0⟩)
            clear hql hnew ro2 hP hput hrl hr hq hol hs hd hW hj0 hc hq0 hyz
            go_wp2_with fail
            go_roundg (gk - 1)
            case measure => omega
            case rel => exact ⟨j + 1, q, W', by omega, rfl, by go_num, by go_grown, (H.out.2.2.1.put (i + j) (by omega) _).congr (by rw [H.out.2.2.2.1]), H.out.1, H.out.2.1, fun h => H.out.2.2.2.2 h, by omega⟩
    · obtain rfl : i = n := by omega
      have hix : ¬ (i : Int) < (i : Int) := by omega
      have hS := Sl_dgf ro (Nat.le_refl _)
      have e : val (xs.take i) = val xs := by rw [← hn, List.take_length]
      rw [e] at hS
      have hlt : val xs * val ys < B ^ (i + m) := by
        rw [Nat.pow_add]
        have h1 := val_lt S.out.1
        rw [hn] at h1
        exact Nat.lt_of_le_of_lt (Nat.mul_le_mul_left _ (Nat.le_of_lt HY.out)) (Nat.mul_lt_mul_of_pos_right h1 (B_pos m))
      have hT := trim_any _ _ wo (dig_d32 _ _) hS (by simp; omega)
      rw [val_dgf hlt] at hT
      have HT := Lib.hid hT
      clear hS hT e hlt ro
      go_wp2_with fail
      refine HT.out.mono ?_
      rintro e w' ⟨rfl, u, rfl, hu⟩
      go_wp2_with fail
      go_ret
      exact ⟨_, rfl, hu, hl⟩
end Go.Proofs.Ytpdenhmkpiafiaa
