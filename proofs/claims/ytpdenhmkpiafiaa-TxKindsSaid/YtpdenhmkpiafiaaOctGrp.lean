/-
  octet.Source: group (175) and Var (60) over any bytes.
-/
import Derived.Test.YtpdenhmkpiafiaaOctTake
import Derived.Laws.BitsAllLaws
namespace Go.Proofs.Ytpdenhmkpiafiaa
open Go Go.RowKit K6

/-- a group of seven bits each: the fault (0: none) and how many bytes -/
def grp (i : Nat) : List Int → Int × Nat
  | [] => (3, 0)
  | c :: cs => if i = 9 then (4, 0) else if 128 ≤ c then grp (i + 1) cs else if c = 0 ∧ 0 < i then (4, 0) else (0, i + 1)
/-- the number of such bytes -/
def gval : List Int → Nat
  | [] => 0
  | c :: cs => (c % 128).toNat + 128 * gval cs
theorem grp_spec : ∀ (xs : List Int) (i : Nat), i ≤ 9 → ((grp i xs).1 = 0 ∧ i < (grp i xs).2 ∧ (grp i xs).2 ≤ 9 ∧ (grp i xs).2 ≤ i + xs.length) ∨ (((grp i xs).1 = 3 ∨ (grp i xs).1 = 4) ∧ (grp i xs).2 = 0)
  | [], i, _ => .inr ⟨.inl rfl, rfl⟩
  | c :: cs, i, h => by
    unfold grp
    by_cases h9 : i = 9
    · rw [if_pos h9]; exact .inr ⟨.inr rfl, rfl⟩
    · rw [if_neg h9]
      by_cases hc : 128 ≤ c
      · rw [if_pos hc]
        rcases grp_spec cs (i + 1) (by omega) with ⟨h1, h2, h3, h4⟩ | h1
        · refine .inl ⟨h1, by omega, h3, ?_⟩
          rw [List.length_cons]; omega
        · exact .inr h1
      · rw [if_neg hc]
        by_cases h0 : c = 0 ∧ 0 < i
        · rw [if_pos h0]; exact .inr ⟨.inr rfl, rfl⟩
        · rw [if_neg h0]
          refine .inl ⟨rfl, Nat.lt_succ_self _, ?_, ?_⟩
          · show i + 1 ≤ 9; omega
          · show i + 1 ≤ i + (c :: cs).length; rw [List.length_cons]; omega
theorem gval_lt : ∀ xs : List Int, gval xs < 128 ^ xs.length
  | [] => by decide
  | c :: cs => by
    have h := gval_lt cs
    rw [List.length_cons, Nat.pow_succ]
    show (c % 128).toNat + 128 * gval cs < _
    have : (c % 128).toNat < 128 := by omega
    omega
theorem gval_snoc : ∀ (xs : List Int) (c : Int), gval (xs ++ [c]) = gval xs + (c % 128).toNat * 128 ^ xs.length
  | [], c => by show (c % 128).toNat + 128 * 0 = 0 + (c % 128).toNat * 1; omega
  | x :: xs, c => by
    show (x % 128).toNat + 128 * gval (xs ++ [c]) = ((x % 128).toNat + 128 * gval xs) + (c % 128).toNat * 128 ^ (xs.length + 1)
    rw [gval_snoc xs c, Nat.pow_succ, Nat.mul_add]
    have : 128 * ((c % 128).toNat * 128 ^ xs.length) = (c % 128).toNat * (128 ^ xs.length * 128) := by
      rw [Nat.mul_comm 128, Nat.mul_assoc]
    omega
theorem gval_63 {xs : List Int} (h : xs.length ≤ 9) : gval xs < 9223372036854775808 :=
  Nat.lt_of_lt_of_le (gval_lt xs) (Nat.le_trans (Nat.pow_le_pow_right (by decide) h) (by decide))
set_option maxRecDepth 100000 in
set_option maxHeartbeats 4000000 in
theorem group_at {w : World} {lo hi g : Nat} {xs : List Int} (h : SA w lo hi g 0 xs) : Calls Try.prog 175 #[.pointer (some ⟨g, 0, none⟩)] w fun r w' => r = .returned (.int .i64 (((grp 0 xs).2 : Nat) : Int)) ∧ SA w' lo hi g (grp 0 xs).1 (if (grp 0 xs).1 = 0 then xs else []) ∧ Tr (fun b => b = g) w w' := by
  obtain ⟨ke, kn, hk⟩ : ∃ ke kn, grp 0 xs = (ke, kn) := ⟨_, _, rfl⟩
  rw [hk]
  show Calls Try.prog 175 _ w fun r w' => r = .returned (.int .i64 ((kn : Nat) : Int)) ∧ SA w' lo hi g ke (if ke = 0 then xs else []) ∧ _
  have f3 := Lib.hid (fail_at 3 h)
  have f4 := Lib.hid (fail_at 4 h)
  have H0 := Lib.hid h
  obtain ⟨-, -, -, hx, hL, v, hs, hv⟩ := h
  have c0 : w.cell? ⟨g, 0, none⟩ = some v := hs.cell 0
  clear hs
  rcases hv with ⟨rfl, rfl⟩ | ⟨b, o, c, -, -, -, rfl, hc, hcell⟩
  · obtain ⟨rfl, rfl⟩ : 3 = ke ∧ 0 = kn := by
      have : grp 0 [] = (3, 0) := rfl
      rw [this] at hk
      injection hk with h1 h2
      exact ⟨h1, h2⟩
    clear hk hx hL
    go_enter Try.func175, Try.ntmps175
    go_wp2_with fail
    go_loopg [13] 0 (fun gg s13 wr => s13 = .int .i64 0 ∧ wr = w)
    case atStart => exact ⟨rfl, rfl⟩
    case round =>
      obtain ⟨rfl, rfl⟩ := hrel
      go_wp2_with fail
      refine f3.out.mono ?_
      rintro r w' ⟨⟨u, rfl⟩, hs, ht⟩
      have H := Lib.hid (show SA w' lo hi g 3 [] ∧ _ from ⟨by simpa using hs, ht⟩)
      clear hs ht f3 f4
      go_wp2_with fail
      go_ret
      exact ⟨rfl, by simpa using H.out.1, H.out.2⟩
  · obtain ⟨m, hm⟩ : ∃ m, xs.length = m := ⟨_, rfl⟩
    rw [hm] at c0 hc hL
    have hf : Hid (∀ i : Nat, i < m → ∃ y : Int, xs[i]? = some y ∧ xs.drop i = y :: xs.drop (i + 1) ∧ 0 ≤ y ∧ y < 256 ∧ w.cell? ⟨b, o + i, none⟩ = some (.int .u8 y)) := Lib.hid fun i hi => by
      have h1 : xs[i]? = some (xs[i]'(by omega)) := List.getElem?_eq_getElem (by omega)
      exact ⟨_, h1, List.drop_eq_getElem_cons (by omega), (hx _ (List.getElem_mem _)).1, (hx _ (List.getElem_mem _)).2, hcell i _ h1⟩
    have hd : Hid (xs.drop m = []) := Lib.hid (List.drop_eq_nil_of_le (by omega))
    have hk0 := Lib.hid (show grp 0 (xs.drop 0) = (ke, kn) from hk)
    clear hk hx hcell hm
    go_enter Try.func175, Try.ntmps175
    go_wp2_with fail
    go_loopg [13] m (fun gg s13 wr => ∃ i : Nat, i + gg = m ∧ i ≤ 9 ∧ s13 = .int .i64 (i : Int) ∧ wr = w ∧ Hid (grp i (xs.drop i) = (ke, kn)))
    case atStart => exact ⟨0, by omega, by omega, rfl, rfl, hk0⟩
    case round =>
      obtain ⟨i, hik, hi9, rfl, rfl, hk⟩ := hrel
      by_cases him : i < m
      · obtain ⟨y, -, hdr, hy0, hy1, cy⟩ := hf.out i him
        have hk2 := hk.out
        rw [hdr] at hk2
        unfold grp at hk2
        have hlt : (i : Int) < (m : Int) := by omega
        by_cases h9 : i = 9
        · rw [if_pos h9] at hk2
          injection hk2 with e1 e2
          subst e1; subst e2; subst h9
          clear hdr hk hk0
          go_wp2_with fail
          refine f4.out.mono ?_
          rintro r w' ⟨⟨u, rfl⟩, hs, ht⟩
          have H := Lib.hid (show SA w' lo hi g 4 [] ∧ _ from ⟨by simpa using hs, ht⟩)
          clear hs ht f3 f4
          go_wp2_with fail
          go_ret
          exact ⟨rfl, by simpa using H.out.1, H.out.2⟩
        · rw [if_neg h9] at hk2
          have h9' : ¬ (i : Int) = 9 := by omega
          by_cases hc1 : 128 ≤ y
          · rw [if_pos hc1] at hk2
            have hn := Lib.hid hk2
            have wi : IntKind.i64.wrap ((i : Int) + 1) = (i : Int) + 1 := by rw [IntKind.wrap_i64]; omega
            clear hk2 hdr hk hk0
            go_wp2_with fail
            go_roundg (gk - 1)
            case measure => omega
            case rel => exact ⟨i + 1, by omega, by omega, by go_num, rfl, hn⟩
          · rw [if_neg hc1] at hk2
            have hc2 : y < 128 := by omega
            by_cases h0 : y = 0 ∧ 0 < i
            · rw [if_pos h0] at hk2
              injection hk2 with e1 e2
              subst e1; subst e2
              obtain ⟨rfl, h0⟩ := h0
              have hp : (0 : Int) < (i : Int) := by omega
              clear hdr hk hk0
              go_wp2_with fail
              refine f4.out.mono ?_
              rintro r w' ⟨⟨u, rfl⟩, hs, ht⟩
              have H := Lib.hid (show SA w' lo hi g 4 [] ∧ _ from ⟨by simpa using hs, ht⟩)
              clear hs ht f3 f4
              go_wp2_with fail
              go_ret
              exact ⟨rfl, by simpa using H.out.1, H.out.2⟩
            · rw [if_neg h0] at hk2
              injection hk2 with e1 e2
              subst e1; subst e2
              have wi : IntKind.i64.wrap ((i : Int) + 1) = (i : Int) + 1 := by rw [IntKind.wrap_i64]; omega
              clear hdr hk hk0
              by_cases hy : y = 0
              · subst hy
                obtain rfl : i = 0 := by omega
                rw [Nat.add_zero] at cy
                clear wi h0 hc1 hc2 h9 h9' hlt
                have hlt : (0 : Int) < (m : Int) := by omega
                go_wp2_with fail
                go_ret
                exact ⟨by simp, by simpa using H0.out, Tr.refl _ _⟩
              · have hq : (y == 0) = false := by rw [beq_eq_false_iff_ne]; exact hy
                clear h0
                go_wp2_with fail
                go_ret
                exact ⟨by simp, by simpa using H0.out, Tr.refl _ _⟩
      · obtain rfl : i = m := by omega
        have hk2 := hk.out
        rw [hd.out] at hk2
        have e : grp i [] = (3, 0) := rfl
        rw [e] at hk2
        injection hk2 with e1 e2
        subst e1; subst e2
        clear hk hk0 e hi9
        go_wp2_with fail
        refine f3.out.mono ?_
        rintro r w' ⟨⟨u, rfl⟩, hs, ht⟩
        have H := Lib.hid (show SA w' lo hi g 3 [] ∧ _ from ⟨by simpa using hs, ht⟩)
        clear hs ht f3 f4
        go_wp2_with fail
        go_ret
        exact ⟨rfl, by simpa using H.out.1, H.out.2⟩
/-! ### Var -/
def svE (most e : Int) (xs : List Int) : Int := if e = 0 then (if (grp 0 xs).1 = 0 then (if most < (gval (xs.take (grp 0 xs).2) : Int) then 5 else 0) else (grp 0 xs).1) else e
def svN (most e : Int) (xs : List Int) : Nat := if svE most e xs = 0 then gval (xs.take (grp 0 xs).2) else 0
def svR (most e : Int) (xs : List Int) : List Int := if svE most e xs = 0 then xs.drop (grp 0 xs).2 else []
def Varred (w : World) (lo hi g : Nat) (most e : Int) (xs : List Int) (r : Ending) (w' : World) : Prop := r = .returned (.int .i64 ((svN most e xs : Nat) : Int)) ∧ SA w' lo hi g (svE most e xs) (svR most e xs) ∧ Tr (fun b => b = g) w w'
theorem and127 {y : Int} (h0 : 0 ≤ y) (h1 : y < 256) : bits .and .u8 y 127 = (((y % 128).toNat : Nat) : Int) := by
  rw [u8_and y 127 h0 h1 (by decide) (by decide)]
  have : y.toNat &&& (127 : Int).toNat = (y % 128).toNat := by
    show y.toNat &&& 127 = _
    rw [nat_mask7]; omega
  rw [this]
theorem i64_or_nat (a b : Nat) (ha : a < 9223372036854775808) (hb : b < 9223372036854775808) : bits .or .i64 (a : Int) (b : Int) = ((a ||| b : Nat) : Int) := by
  simp only [bits]
  show IntKind.i64.wrap ((BitVec.ofInt 64 (a : Int) ||| BitVec.ofInt 64 (b : Int)).toNat : Int) = _
  rw [BitVec.toNat_or, ofInt_u64 a (by omega), ofInt_u64 b (by omega), IntKind.wrap_i64]
  have : a ||| b < 2 ^ 63 := Nat.or_lt_two_pow ha hb
  omega
theorem shl7 (z i s : Nat) (hs : z * 128 ^ i = s) (hlt : s < 9223372036854775808) : wrap64 ((z : Int) * 2 ^ (7 * i)) = (s : Int) := by
  have e2 : (z : Int) * 2 ^ (7 * i) = (s : Int) := by
    have h1 : (128 : Nat) ^ i = 2 ^ (7 * i) := by rw [Nat.pow_mul]
    rw [← hs, h1, Int.natCast_mul, Int.natCast_pow]; rfl
  rw [e2]
  unfold wrap64
  omega
theorem or_step (n z i s : Nat) (hs : z * 128 ^ i = s) (hn : n < 128 ^ i) (hlt : n + s < 9223372036854775808) : bits .or .i64 (n : Int) (s : Int) = ((n + s : Nat) : Int) := by
  rw [i64_or_nat n s (by omega) (by omega), Nat.or_comm]
  have h128 : (128 : Nat) ^ i = 2 ^ (7 * i) := by rw [Nat.pow_mul]
  rw [nat_join (7 * i) s n (by rw [← hs, h128]; exact Nat.mul_mod_left _ _) (by rw [← h128]; exact hn), Nat.add_comm]
set_option maxRecDepth 100000 in
set_option maxHeartbeats 8000000 in
theorem svar_at {w : World} {lo hi g : Nat} {e : Int} {xs : List Int} (most : Int) (h : SA w lo hi g e xs) : Calls Try.prog 60 #[.pointer (some ⟨g, 0, none⟩), .int .i64 most] w (Varred w lo hi g most e xs) := by
  have ok := Lib.hid (ok_at h)
  by_cases he : e = 0
  · subst he
    rw [decide_eq_true rfl] at ok
    have gr := group_at h
    have hsp := grp_spec xs 0 (by omega)
    have H : ∀ r w', (r = Ending.returned (.int .i64 ((svN most 0 xs : Nat) : Int)) ∧ SA w' lo hi g (svE most 0 xs) (svR most 0 xs) ∧ Tr (fun b => b = g) w w') → Varred w lo hi g most 0 xs r w' := fun _ _ h => h
    unfold svN svR svE at H
    obtain ⟨ke, kn, hk⟩ : ∃ ke kn, grp 0 xs = (ke, kn) := ⟨_, _, rfl⟩
    rw [hk] at gr hsp
    simp only [hk] at H
    simp only at gr hsp
    have ok2 : ke ≠ 0 ∨ ke = 0 := by omega
    rcases ok2 with h1 | h1
    · obtain rfl : kn = 0 := by rcases hsp with ⟨h2, -⟩ | ⟨-, h2⟩; exact absurd h2 h1; exact h2
      have HH := Lib.hid (fun r w' => H r w')
      simp only [if_pos, if_neg h1] at HH
      have gg := Lib.hid gr
      have hke := Lib.hid h1
      clear gr hsp H hk h
      go_enter Try.func60, Try.ntmps60
      go_wp2_with fail
      refine ok.out.mono ?_
      rintro r w' ⟨rfl, rfl⟩
      clear ok
      go_wp2_with fail
      refine gg.out.mono ?_
      rintro r w2 ⟨rfl, hs, ht⟩
      have HS := Lib.hid (show SA w2 lo hi g ke [] ∧ _ from ⟨by simpa [hke.out] using hs, ht⟩)
      clear gg hs ht
      go_wp2_with fail
      go_ret
      refine HH.out _ _ ⟨rfl, HS.out.1, HS.out.2⟩
    · subst h1
      obtain ⟨h2, h3, h4⟩ : 0 < kn ∧ kn ≤ 9 ∧ kn ≤ xs.length := by rcases hsp with ⟨-, a, b, c⟩ | ⟨a, -⟩; exact ⟨a, b, by omega⟩; exact absurd a (by decide)
      have hlt := gval_63 (xs := xs.take kn) (by rw [List.length_take]; omega)
      have hstep : ∀ i, i < kn → ∃ y : Int, xs[i]? = some y ∧ 0 ≤ y ∧ y < 256 ∧ gval (xs.take (i + 1)) = gval (xs.take i) + (y % 128).toNat * 128 ^ i ∧ gval (xs.take i) < 128 ^ i ∧ gval (xs.take (i + 1)) < 9223372036854775808 := fun i hi => by
        have hx := h.2.2.2.1
        have hi2 : i < xs.length := by omega
        refine ⟨xs[i], List.getElem?_eq_getElem hi2, (hx _ (List.getElem_mem _)).1, (hx _ (List.getElem_mem _)).2, ?_, ?_, gval_63 (by rw [List.length_take]; omega)⟩
        · rw [List.take_succ_eq_append_getElem hi2, gval_snoc, List.length_take, Nat.min_eq_left (by omega)]
        · have := gval_lt (xs.take i)
          rwa [List.length_take, Nat.min_eq_left (by omega)] at this
      have hg0 : gval (xs.take 0) = 0 := rfl
      have HH := Lib.hid (fun r w' => H r w')
      simp only [if_pos] at HH
      have gg := Lib.hid gr
      have hst := Lib.hid hstep
      have hkn : ((kn : Int) == 0) = false := by rw [beq_eq_false_iff_ne]; omega
      have hkn' : ¬ (kn : Int) = 0 := by omega
      obtain ⟨G, hG⟩ : ∃ G, gval (xs.take kn) = G := ⟨_, rfl⟩
      rw [hG] at HH hlt
      have h4' := Lib.hid h4
      have hGg := Lib.hid hG
      clear gr hsp H hk hG hstep h h4
      go_enter Try.func60, Try.ntmps60
      go_wp2_with fail
      refine ok.out.mono ?_
      rintro r w' ⟨rfl, rfl⟩
      clear ok
      go_wp2_with fail
      refine gg.out.mono ?_
      rintro r w2 ⟨rfl, hs, ht⟩
      replace hs : SA w2 lo hi g 0 xs := by simpa using hs
      have ff := Lib.hid (fail_at 5 hs)
      have tk := Lib.hid (take_at kn hs)
      have HS := Lib.hid (show _ ∧ _ from ⟨hs, ht⟩)
      clear gg ht
      obtain ⟨-, -, -, -, hL, v, hs, hv⟩ := hs
      have c0 : w2.cell? ⟨g, 0, none⟩ = some v := hs.cell 0
      clear hs
      rcases hv with ⟨-, rfl⟩ | ⟨b, o, c, -, -, -, rfl, hc, hcell⟩
      · exact absurd h4'.out (by simp; omega)
      · have hk1 : (kn : Int) ≤ (c : Int) := by have := h4'.out; omega
        have hcl := Lib.hid hcell
        clear hcell hc hL
        go_wp2_with fail
        go_loopg [6, 23] kn (fun gg s6 s23 wr => ∃ i n : Nat, i + gg = kn ∧ s6 = .int .i64 (n : Int) ∧ s23 = .int .i64 (i : Int) ∧ wr = w2 ∧ Hid (gval (xs.take i) = n))
        case atStart => exact ⟨0, 0, by omega, rfl, rfl, rfl, Lib.hid rfl⟩
        case round =>
          obtain ⟨i, n, hin, rfl, rfl, rfl, hn⟩ := hrel
          by_cases hik : i < kn
          · obtain ⟨y, hy, hy0, hy1, e1, e2, e3⟩ := hst.out i hik
            have cy := hcl.out i y hy
            rw [hn.out] at e1 e2
            obtain ⟨z, hz⟩ : ∃ z, (y % 128).toNat = z := ⟨_, rfl⟩
            obtain ⟨s, hs⟩ : ∃ s, z * 128 ^ i = s := ⟨_, rfl⟩
            rw [hz, hs] at e1
            rw [e1] at e3
            have hand := and127 hy0 hy1
            rw [hz] at hand
            have hor := Lib.hid (or_step n z i s hs e2 e3)
            have hw64 := Lib.hid (shl7 z i s hs (by omega))
            have hn2 := Lib.hid e1
            have hzl : z < 128 := by omega
            have wz : IntKind.i64.wrap (z : Int) = (z : Int) := by rw [IntKind.wrap_i64]; omega
            have w7 : IntKind.i64.wrap (7 * (i : Int)) = 7 * (i : Int) := by rw [IntKind.wrap_i64]; omega
            have hlt9 : (i : Int) < (kn : Int) := by omega
            clear hy hz hs e1 e2 e3 hy0 hy1
            go_wp2_with fail
            go_roundg (gk - 1)
            case measure => omega
            case rel => exact ⟨i + 1, n + s, by omega, by rw [hw64.out, hor.out], by go_num, rfl, hn2⟩
          · obtain rfl : i = kn := by omega
            obtain rfl : n = G := hn.out.symm.trans hGg.out
            by_cases hm : most < (n : Int)
            · have HH2 := Lib.hid HH.out
              simp only [if_pos hm] at HH2
              clear HH hst
              go_wp2_with fail
              refine ff.out.mono ?_
              rintro r w3 ⟨⟨u, rfl⟩, hs, ht⟩
              have H3 := Lib.hid (show SA w3 lo hi g 5 [] ∧ _ from ⟨by simpa using hs, ht⟩)
              clear ff hs ht
              go_wp2_with fail
              go_ret
              exact HH2.out _ _ ⟨rfl, H3.out.1, HS.out.2.trans H3.out.2⟩
            · have HH2 := Lib.hid HH.out
              simp only [if_neg hm] at HH2
              clear HH hst
              have hm2 : (n : Int) ≤ most := by omega
              go_wp2_with fail
              refine tk.out.mono ?_
              rintro r w3 ⟨u, rfl, -, -, hs, ht⟩
              unfold tkE tkR at hs
              rw [if_pos rfl, if_pos rfl, if_pos h4'.out, if_pos h4'.out] at hs
              have H3 := Lib.hid (show _ ∧ _ from ⟨hs, ht⟩)
              clear tk hs ht
              go_wp2_with fail
              go_ret
              exact HH2.out _ _ ⟨rfl, H3.out.1, HS.out.2.trans H3.out.2⟩
  · rw [decide_eq_false he] at ok
    have hE : svE most e xs = e := by unfold svE; rw [if_neg he]
    have H := Lib.hid (show Varred w lo hi g most e xs (.returned (.int .i64 0)) w from ⟨by unfold svN; rw [hE, if_neg he]; rfl, by rw [hE]; unfold svR; rw [hE, if_neg he]; rw [h.2.2.1 he] at h; exact h, Tr.refl _ _⟩)
    clear h hE
    go_enter Try.func60, Try.ntmps60
    go_wp2_with fail
    refine ok.out.mono ?_
    rintro r w' ⟨rfl, rfl⟩
    clear ok
    go_wp2_with fail
    go_ret
    exact H.out
end Go.Proofs.Ytpdenhmkpiafiaa
