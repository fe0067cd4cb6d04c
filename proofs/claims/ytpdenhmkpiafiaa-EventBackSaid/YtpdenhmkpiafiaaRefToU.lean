/-
  tallageref01.ToU (172), told (162): digits as four words, if they are few enough.
-/
import Derived.Test.YtpdenhmkpiafiaaRefMinus
namespace Go.Proofs.Ytpdenhmkpiafiaa
open Go Go.RowKit K6 Ref

/-- a number, if it is one of four words -/
def capN (n : Nat) : Nat := if n < M then n else 0
theorem capN_lt (n : Nat) : capN n < M := by unfold capN; split; assumption; exact M_pos
theorem len_cap {n : Nat} : (digs n).length ≤ 8 ↔ n < M := by
  rw [M_B]
  constructor
  · intro h
    have h1 := val_lt (dig_digs n)
    rw [val_digs] at h1
    exact Nat.lt_of_lt_of_le h1 (Nat.pow_le_pow_right (by decide) h)
  · exact digs_len
/-- a digit laid into a number's word -/
theorem put_dig (n d i : Nat) (hd : d < 2 ^ 32) (hn : n < 2 ^ (32 * i)) :
    upd (wordsOf n) (i / 2) (bits .or .u64 (wordsOf n (i / 2)) (IntKind.u64.wrap ((d : Int) * 2 ^ (32 * (i % 2))))) = wordsOf (n + 2 ^ (32 * i) * d) := by
  have hor : n + 2 ^ (32 * i) * d = n ||| 2 ^ (32 * i) * d := by
    rw [Nat.add_comm, Nat.two_pow_add_eq_or_of_lt hn, Nat.or_comm]
  have hw : ∀ q, (n + 2 ^ (32 * i) * d) / 2 ^ (64 * q) % 2 ^ 64 = n / 2 ^ (64 * q) % 2 ^ 64 ||| (2 ^ (32 * i) * d) / 2 ^ (64 * q) % 2 ^ 64 := fun q => by
    rw [hor, Nat.or_div_two_pow, Nat.or_mod_two_pow]
  have hlt : d * 2 ^ (32 * (i % 2)) < 2 ^ 64 := by
    have h2 : 2 ^ (32 * (i % 2)) ≤ 2 ^ 32 := Nat.pow_le_pow_right (by decide) (by omega)
    have h3 : d * 2 ^ (32 * (i % 2)) ≤ (2 ^ 32 - 1) * 2 ^ 32 := Nat.mul_le_mul (by omega) h2
    omega
  have hat : (2 ^ (32 * i) * d) / 2 ^ (64 * (i / 2)) % 2 ^ 64 = d * 2 ^ (32 * (i % 2)) := by
    have e : 32 * i = 32 * (i % 2) + 64 * (i / 2) := by omega
    have h1 : 2 ^ (32 * i) * d = d * 2 ^ (32 * (i % 2)) * 2 ^ (64 * (i / 2)) := by rw [Nat.mul_assoc, ← Nat.pow_add, ← e, Nat.mul_comm]
    rw [h1, Nat.mul_div_cancel _ (Nat.pow_pos (by decide))]
    exact Nat.mod_eq_of_lt hlt
  have hne : ∀ q, q ≠ i / 2 → (2 ^ (32 * i) * d) / 2 ^ (64 * q) % 2 ^ 64 = 0 := fun q hq => by
    rcases Nat.lt_or_ge (i / 2) q with h | h
    · have h1 : 2 ^ (32 * i + 32) ≤ 2 ^ (64 * q) := Nat.pow_le_pow_right (by decide) (by omega)
      have h2 : 2 ^ (32 * i) * d < 2 ^ (32 * i + 32) := by rw [Nat.pow_add]; exact Nat.mul_lt_mul_of_pos_left hd (Nat.pow_pos (by decide))
      rw [Nat.div_eq_of_lt (by omega)]
    · have e : 32 * i = (32 * i - 64 * (q + 1)) + 64 + 64 * q := by omega
      rw [e, Nat.pow_add, Nat.pow_add, Nat.mul_right_comm, Nat.mul_div_cancel _ (Nat.pow_pos (by decide)), Nat.mul_right_comm, Nat.mul_mod_left]
  funext q
  unfold upd
  by_cases e : q = i / 2
  · rw [if_pos e, e]
    unfold wordsOf
    rw [hw, hat]
    have hc : IntKind.u64.wrap ((d : Int) * 2 ^ (32 * (i % 2))) = ((d * 2 ^ (32 * (i % 2)) : Nat) : Int) := by
      rw [IntKind.wrap_u64]
      have : ((d : Int) * 2 ^ (32 * (i % 2))) = ((d * 2 ^ (32 * (i % 2)) : Nat) : Int) := by rw [Int.natCast_mul, Int.natCast_pow]; rfl
      rw [this]
      omega
    rw [hc, u64_or_nat _ _ (Nat.mod_lt _ (by decide)) hlt]
  · rw [if_neg e]
    unfold wordsOf
    rw [hw, hne q e, Nat.or_zero]

set_option maxRecDepth 100000 in
set_option maxHeartbeats 8000000 in
theorem tou_any (v : Value) (xs : List Nat) (w : World) (hx : Dig xs) (sv : Sl w v xs) (lx : xs.length < 1000000000) :
    Calls Try.prog 172 #[v] w (Ret w (.tuple #[.agg (W4 (capN (val xs))), .bool (decide (val xs < M))])) := by
  have HT := Lib.hid fun wx sx => trim_any v xs wx hx sx (by omega)
  obtain ⟨a, ha⟩ : ∃ a, val xs = a := ⟨_, rfl⟩
  rw [ha] at HT ⊢
  clear hx ha lx
  have SV := Lib.hid sv
  clear sv
  go_enter Try.func172, Try.ntmps172
  go_wp2_with fail
  refine (HT.out _ (SV.out.below (by go_grown))).mono ?_
  rintro e w1 ⟨rfl, v1, rfl, s1⟩
  clear HT SV
  go_upto_region 2 with (fail)
  refine wp_abs (fun wx => Below w.heap.size w wx ∧ w.heap.size < wx.heap.size ∧ Row wx w.heap.size 31 (arr .u64 (fun _ => 0) 4) ∧ Sl wx v1 (digs a)) ⟨by go_grown, by simp, Row.new_at rfl, s1⟩ ?_
  clear s1
  rintro w1 ⟨hl, hsz, rr, s1⟩
  have dx := dig_digs a
  have va := val_digs a
  have hlen := len_cap (n := a)
  generalize digs a = p at *
  obtain ⟨r1, c1, rfl, k1, -, -⟩ := id s1
  obtain ⟨n, hn⟩ : ∃ n, p.length = n := ⟨_, rfl⟩
  rw [hn] at k1 hlen ⊢
  by_cases h8 : n ≤ 8
  · have hM : a < M := hlen.1 h8
    have hcap : capN a = a := if_pos hM
    have hq := Lib.hid (show capN a = a ∧ decide (a < M) = true from ⟨hcap, decide_eq_true hM⟩)
    have h8' : ¬ (8 : Int) < (n : Int) := by omega
    have S := Lib.hid (show _ ∧ _ ∧ _ ∧ _ from ⟨dx, va, s1, hM⟩)
    clear dx va s1 hlen hcap hM
    go_wp2_with fail
    go_loopg [15] n (fun gg s15 wr => ∃ (i : Nat), i + gg = n ∧ s15 = .int .i64 ((i : Nat) : Int) ∧ Below w1.heap.size w1 wr ∧ Row wr w1.heap.size 31 (arr .u64 (wordsOf (val (p.take i))) 4))
    case atStart =>
      refine ⟨0, by omega, rfl, by go_grown, ?_⟩
      rw [show val (p.take 0) = 0 from rfl, wordsOf_zero]
      exact Row.new_at rfl
    case round =>
      obtain ⟨i, hi, rfl, hlr, ro⟩ := hrel
      by_cases hlt : i < n
      · obtain ⟨g, o, rfl⟩ := S.out.2.2.1.addr' (by omega)
        have cx := S.out.2.2.1.cell (i := i) (by omega)
        replace cx := ((bcell hlr).1 g (o + i) cx.1).trans cx.2
        have hix : (i : Int) < (n : Int) := by omega
        have hdl := dg_lt S.out.1 i
        have hnl := take_lt S.out.1 i (by omega)
        have hts := take_succ p i
        obtain ⟨d, hd⟩ : ∃ d, dg p i = d := ⟨_, rfl⟩
        rw [hd] at cx hdl hts
        have hdl' : d < 4294967296 := hdl
        have wd : IntKind.u64.wrap ((d : Nat) : Int) = ((d : Nat) : Int) := by rw [IntKind.wrap_u64]; omega
        have t1 : ((i : Int)).tdiv 2 = (i : Int) / 2 := Int.tdiv_eq_ediv_of_nonneg (by omega)
        have t2 : ((i : Int)).tmod 2 = (i : Int) % 2 := Int.tmod_eq_emod_of_nonneg (by omega)
        have t5 : (i : Int) / 2 < 4 := by omega
        have t6 : 0 ≤ (i : Int) / 2 := by omega
        have t7 : 0 ≤ (i : Int) % 2 := by omega
        have t8 : (i : Int) % 2 < 2 := by omega
        have t9 : ((i : Int) / 2).toNat = i / 2 := by omega
        have t10 : (32 * ((i : Int) % 2)).toNat = 32 * (i % 2) := by omega
        obtain ⟨N, hN⟩ : ∃ N, val (p.take i) = N := ⟨_, rfl⟩
        rw [hN] at ro hnl hts
        have hp := put_dig N d i hdl (by rw [Nat.pow_mul]; exact hnl)
        have co := ro.at_ (i / 2) (by omega)
        have fo := ro.frozen (i / 2)
        have H := Lib.hid (show _ ∧ _ ∧ _ from ⟨ro, hp, hts⟩)
        clear ro hp hts hnl hdl hd hN hdl'
        go_wp2_with fail
        go_roundg (gk - 1)
        case measure => omega
        case rel =>
          obtain ⟨ro, hp, hts⟩ := H.out
          refine ⟨i + 1, by omega, by go_num, by go_grown, ?_⟩
          refine (ro.put (i / 2) (by omega) _).congr ?_
          rw [hp, hts, show B ^ i = 2 ^ (32 * i) by rw [Nat.pow_mul]]
      · obtain rfl : i = n := by omega
        have hix : ¬ (i : Int) < (i : Int) := by omega
        have hv : val (p.take i) = a := by rw [← hn, List.take_length]; exact S.out.2.1
        rw [hv] at ro
        clear hv hlt
        have d0 := ro.at_ 0 (by omega)
        have d1 := ro.at_ 1 (by omega)
        have d2 := ro.at_ 2 (by omega)
        have d3 := ro.at_ 3 (by omega)
        have rr' : Row wr w.heap.size 31 (arr .u64 (fun _ => 0) 4) := rr.below hlr hsz
        have e0 := rr'.at_ 0 (by omega)
        have e1 := rr'.at_ 1 (by omega)
        have e2 := rr'.at_ 2 (by omega)
        have e3 := rr'.at_ 3 (by omega)
        have f0 := rr'.frozen 0
        have f1 := rr'.frozen 1
        have f2 := rr'.frozen 2
        have f3 := rr'.frozen 3
        have H := Lib.hid (show _ ∧ _ from ⟨rr', hl.trans (hlr.mono (Nat.le_of_lt hsz |> fun _ => hl.size))⟩)
        clear rr rr' ro
        go_wp2
        refine bodyPost_ret (results_ct rfl aggT31 rfl (H.out.1.store4 rfl _ _ _ _) rfl) rfl ?_
        exact ⟨by rw [hq.out.1, hq.out.2]; rfl, by have := H.out.2; go_grown⟩
  · have hM : ¬ a < M := fun h => h8 (hlen.2 h)
    have hcap : capN a = 0 := if_neg hM
    have hq := Lib.hid (show capN a = 0 ∧ decide (a < M) = false from ⟨hcap, decide_eq_false hM⟩)
    have h8' : (8 : Int) < (n : Int) := by omega
    clear dx va s1 hlen hcap hM
    have e0 := rr.at_ 0 (by omega)
    have e1 := rr.at_ 1 (by omega)
    have e2 := rr.at_ 2 (by omega)
    have e3 := rr.at_ 3 (by omega)
    have f0 := rr.frozen 0
    have f1 := rr.frozen 1
    have f2 := rr.frozen 2
    have f3 := rr.frozen 3
    have H := Lib.hid rr
    clear rr
    go_wp2_with fail
    refine bodyPost_ret (results_ct rfl aggT31 rfl (H.out.store4 rfl _ _ _ _) rfl) rfl ?_
    exact ⟨by rw [hq.out.1, hq.out.2, ← W4_zero]; rfl, by go_grown⟩

set_option maxRecDepth 100000 in
set_option maxHeartbeats 8000000 in
theorem told_any (v : Value) (xs : List Nat) (w : World) (hx : Dig xs) (sv : Sl w v xs) (lx : xs.length < 1000000000) :
    Calls Try.prog 162 #[v] w (Ret w (.tuple #[.agg (W4 (capN (val xs))), .bool (decide (val xs < M))])) := by
  have HT := Lib.hid fun wx sx => tou_any v xs wx hx sx lx
  have SV := Lib.hid sv
  clear sv hx lx
  obtain ⟨q, hq⟩ : ∃ q, capN (val xs) = q := ⟨_, rfl⟩
  obtain ⟨ok, hok⟩ : ∃ ok, decide (val xs < M) = ok := ⟨_, rfl⟩
  rw [hq, hok] at HT ⊢
  clear hq hok
  go_enter Try.func162, Try.ntmps162
  apply wp_seq_eq
  focus
    intro J hJ
    go_wp2_with fail
    exact hJ
  refine wp_abs (fun wx => Below w.heap.size w wx ∧ Row wx w.heap.size 31 (arr .u64 (fun _ => 0) 4) ∧ Sl wx v xs) ⟨by go_grown, Row.new_at rfl, SV.out.below (by go_grown)⟩ ?_
  clear SV
  rintro w0 ⟨hl, rr, sv⟩
  go_upto_region 1 with (fail)
  let L : List Sp := [sV 1 [] [] (fun u => u = .tuple #[.agg (W4 q), .bool ok]), sO 4 (w.heap.size) 31 [2] (fun g => aggOf g 2)]
  refine wp_region_six0 (shs L) (look6 L) (fun c => c = w.heap.size) (by kernel_rfl) (by kernel_rfl) (mk_St L [4] [4] (by kernel_rfl) (by kernel_rfl) ⟨ok_V ⟨_, rfl⟩, ok_O aggOf_congr rr.lt (rfl), trivial⟩ (by simp)) ?_
  intro QQ hQ
  -- 0: t0
  refine stepK rfl (by kernel_rfl) (fun K hK => ?_); go_simp
  apply Exists.intro; apply And.intro; (focus (intro wk hk; go_simp; exact ⟨rfl, rfl⟩)); refine hK _ _ ?_; clear hK K
  -- 1: call F172(t4)
  refine stepS _ rfl (by kernel_rfl) (fun K hK => ?_); go_simp
  refine ⟨?_, ?_⟩
  · intro wk hk hg hu; go_simp; refine upon_enter ((HT.out _ (sv.below hk.below)).mono ?_); rintro e w' ⟨rfl, hb⟩; exact ⟨_, rfl, left_V (p := fun u => u = .tuple #[.agg (W4 q), .bool ok]) rfl (hb) rfl⟩
  rintro ⟨v1, lo1, hi1⟩ - - (rfl : v1 = _)
  refine hK _ _ ?_; clear hK K
  -- 2: extract t5 #0
  refine stepK rfl (by kernel_rfl) (fun K hK => ?_); go_simp
  apply Exists.intro; apply And.intro; (focus (intro wk hk; go_simp; exact ⟨rfl, rfl⟩)); refine hK _ _ ?_; clear hK K
  -- 3: extract t5 #1
  refine stepK rfl (by kernel_rfl) (fun K hK => ?_); go_simp
  apply Exists.intro; apply And.intro; (focus (intro wk hk; go_simp; exact ⟨rfl, rfl⟩)); refine hK _ _ ?_; clear hK K
  -- 4: store<31> *t2 = t6
  refine stepS _ rfl (by kernel_rfl) (fun K hK => ?_); go_simp
  refine ⟨?_, ?_⟩
  · exact sStoreO rfl rfl rfl rfl rfl rfl rr id (by kernel_rfl) rfl (by kernel_rfl) (by decide) aggOf_congr
  rintro ⟨v4, lo4, hi4⟩ - - (rfl : v4 = undef)
  refine hK _ _ ?_; clear hK K
  -- 5: assign t7
  refine stepKz rfl (fun K hK => ?_); go_simp
  apply Exists.intro; apply And.intro; (focus (intro wk hk; go_simp; exact ⟨rfl, rfl⟩)); refine hK _ _ ?_; clear hK K
  refine stepN ?_
  refine hQ _ _ ?_
  intro w9 hT hG hF
  have hT' := hT
  have x2 : Row w9 (w.heap.size) 31 (W4 q) := hF 4 _ rfl rfl (by decide)
  have hl9 : Below w.heap.size w w9 := hl.trans (hT'.below_of hl.size (by intro c hc; omega))
  clear hT hT' hG hF hQ QQ L
  go_wp2_with fail
  refine bodyPost_ret (results_ct rfl aggT31 rfl x2 rfl) rfl ?_
  exact ⟨rfl, hl9⟩
end Go.Proofs.Ytpdenhmkpiafiaa
