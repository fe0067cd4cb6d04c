/-
  tallageref01: Bytes (100), Text (101).
-/
import Derived.Test.YtpdenhmkpiafiaaRefMulDiv
import Derived.Test.YtpdenhmkpiafiaaBackPlain
namespace Go.Proofs.Ytpdenhmkpiafiaa
open Go Go.RowKit K6 Ref

/-- the first i bytes of a number of 32 bytes, the greatest first -/
def bL (a i : Nat) : List Value := (List.range i).map fun j => .int .u8 ((byN a (31 - j) : Nat) : Int)
theorem bL_succ (a i : Nat) : bL a (i + 1) = bL a i ++ [.int .u8 ((byN a (31 - i) : Nat) : Int)] := by
  unfold bL
  rw [List.range_succ, List.map_append]; rfl
theorem sel_words (a q : Nat) (h : q < 4) : sel4 (wordsOf a 0) (wordsOf a 1) (wordsOf a 2) (wordsOf a 3) q = wordsOf a q := by
  have : q = 0 ∨ q = 1 ∨ q = 2 ∨ q = 3 := by omega
  rcases this with rfl | rfl | rfl | rfl <;> rfl
theorem byte_of {a k : Nat} (ha : a < M) (hk : k / 8 < 4) : IntKind.u8.wrap (wordsOf a (k / 8) / 2 ^ (8 * (k % 8))) = ((byN a k : Nat) : Int) := by
  rw [← byte_word (wordsOf_isW a ha) hk, sel_words a _ hk]
theorem W4_at {w : World} {g t a : Nat} (h : Row w g t (W4 a)) (q : Nat) (hq : q < 4) : w.cell? ⟨g, q, none⟩ = some (.int .u64 (wordsOf a q)) :=
  Row.at_ (k := .u64) (f := wordsOf a) (L := 4) (Row.congr h rfl) q hq
set_option maxRecDepth 100000 in
set_option maxHeartbeats 8000000 in
theorem refBytes_any (a : Nat) (ha : a < M) (w : World) : Calls Try.prog 100 #[.agg (W4 a)] w fun e w' => ∃ v, e = .returned v ∧ w'.ownsRow (w.heap.size + 1) 5 1 v 32 (bL a 32) ∧ Below w.heap.size w w' := by
  go_enter Try.func100, Try.ntmps100
  go_wp2_with fail
  go_loopg [3, 4] 32 (fun gg s3 s4 wr => ∃ i, i + gg = 32 ∧ s4 = .int .i64 ((gg : Int) - 1) ∧ Below w.heap.size w wr ∧ Row wr w.heap.size 31 (W4 a) ∧ wr.ownsRow (w.heap.size + 1) 5 1 s3 i (bL a i))
  case atStart => exact ⟨0, rfl, by go_num, by go_grown, Row.new_at rfl, by simp [bL, World.ownsRow]⟩
  case round =>
    obtain ⟨i, hi, rfl, hl, r0, ho⟩ := hrel
    by_cases hlt : i < 32
    · obtain ⟨k, rfl⟩ : ∃ k, gk = k + 1 := ⟨gk - 1, by omega⟩
      have e0 : ((k : Int) + 1) - 1 = (k : Int) := by omega
      have t1 : ((k : Int)).tdiv 8 = (k : Int) / 8 := Int.tdiv_eq_ediv_of_nonneg (by omega)
      have t2 : ((k : Int)).tmod 8 = (k : Int) % 8 := Int.tmod_eq_emod_of_nonneg (by omega)
      have t5 : (k : Int) / 8 < 4 := by omega
      have t6 : 0 ≤ (k : Int) / 8 := by omega
      have t7 : 0 ≤ (k : Int) % 8 := by omega
      have t8 : (k : Int) % 8 < 8 := by omega
      have t9 : ((k : Int) / 8).toNat = k / 8 := by omega
      have t10 : (8 * ((k : Int) % 8)).toNat = 8 * (k % 8) := by omega
      have t11 : IntKind.u64.wrap (8 * ((k : Int) % 8)) = 8 * ((k : Int) % 8) := by rw [IntKind.wrap_u64]; omega
      have t12 : IntKind.i64.wrap ((k : Int) / 8) = (k : Int) / 8 := by rw [IntKind.wrap_i64]; omega
      have t13 : IntKind.i64.wrap ((k : Int) % 8) = (k : Int) % 8 := by rw [IntKind.wrap_i64]; omega
      have t14 : IntKind.i64.wrap (8 * ((k : Int) % 8)) = 8 * ((k : Int) % 8) := by rw [IntKind.wrap_i64]; omega
      have hby := byte_of (k := k) ha (by omega)
      rw [show k = 31 - i by omega] at hby
      have H := Lib.hid (show _ ∧ _ ∧ _ ∧ _ from ⟨hl, r0, ho, hby⟩)
      clear hl r0 ho hby
      go_upto_region 5 with (fail)
      obtain ⟨hl, r0, ho, hby⟩ := H.out
      refine wp_abs (fun w5 => Below w.heap.size w w5 ∧ Row w5 w.heap.size 31 (W4 a) ∧ w5.ownsRow (w.heap.size + 1) 5 1 u3 i (bL a i)) ⟨hl, r0, ho⟩ ?_
      clear hl r0 ho H
      rintro w5 ⟨hl, r0, ho⟩
      rw [show 31 - i = k by omega] at hby
      have hown : ∀ b, u3.ownBlock = some b → u3.ownBlock = some b ∧ b < w5.heap.size := fun b hb => ⟨hb, (ho.lt b hb).2⟩
      let L : List Sp := [sL 11 5 [] 1 #[.int .u8 ((byN a k : Nat) : Int)], sP 12 [11] [11] (w.heap.size + 1) 5 u3 (i + 1) (bL a (i + 1))]
      refine wp_region_six0 (shs L) (look6 L) (fun b => u3.ownBlock = some b) (by kernel_rfl) (by kernel_rfl) (mk_St L [12] [12] (by kernel_rfl) (by kernel_rfl) ⟨ok_L, ok_P hown, trivial⟩ (by simp)) ?_
      intro QQ hQ
      -- 0: t3
      refine stepK rfl (by kernel_rfl) (fun K hK => ?_); go_simp
      apply Exists.intro; apply And.intro; (focus (intro wk hk; go_simp; exact ⟨rfl, rfl⟩)); refine hK _ _ ?_; clear hK K
      -- 1: t4
      refine stepK rfl (by kernel_rfl) (fun K hK => ?_); go_simp
      apply Exists.intro; apply And.intro; (focus (intro wk hk; go_simp; exact ⟨rfl, rfl⟩)); refine hK _ _ ?_; clear hK K
      -- 2: quo<3> t10, 8
      refine stepK rfl (by kernel_rfl) (fun K hK => ?_); go_simp
      apply Exists.intro; apply And.intro; (focus (intro wk hk; go_simp; exact ⟨rfl, rfl⟩)); refine hK _ _ ?_; clear hK K
      -- 3: indexAddr<31> t1[t11]
      refine stepK rfl (by kernel_rfl) (fun K hK => ?_); go_simp
      apply Exists.intro; apply And.intro; (focus (intro wk hk; go_simp; exact ⟨rfl, rfl⟩)); refine hK _ _ ?_; clear hK K
      -- 4: load<29> *t12
      refine stepK rfl (by kernel_rfl) (fun K hK => ?_); go_simp
      apply Exists.intro; apply And.intro; (focus (intro wk hk; have cc := W4_at (K6.Row.tr r0 hk id) (k / 8) (by omega); go_simp; exact ⟨rfl, rfl⟩)); refine hK _ _ ?_; clear hK K
      -- 5: t4
      refine stepK rfl (by kernel_rfl) (fun K hK => ?_); go_simp
      apply Exists.intro; apply And.intro; (focus (intro wk hk; go_simp; exact ⟨rfl, rfl⟩)); refine hK _ _ ?_; clear hK K
      -- 6: rem<3> t14, 8
      refine stepK rfl (by kernel_rfl) (fun K hK => ?_); go_simp
      apply Exists.intro; apply And.intro; (focus (intro wk hk; go_simp; exact ⟨rfl, rfl⟩)); refine hK _ _ ?_; clear hK K
      -- 7: mul<3> 8, t15
      refine stepK rfl (by kernel_rfl) (fun K hK => ?_); go_simp
      apply Exists.intro; apply And.intro; (focus (intro wk hk; go_simp; exact ⟨rfl, rfl⟩)); refine hK _ _ ?_; clear hK K
      -- 8: convert<3->136> t16
      refine stepK rfl (by kernel_rfl) (fun K hK => ?_); go_simp
      apply Exists.intro; apply And.intro; (focus (intro wk hk; go_simp; exact ⟨rfl, rfl⟩)); refine hK _ _ ?_; clear hK K
      -- 9: shr<29> t13, t17 <136>
      refine stepK rfl (by kernel_rfl) (fun K hK => ?_); go_simp
      apply Exists.intro; apply And.intro; (focus (intro wk hk; go_simp; exact ⟨rfl, rfl⟩)); refine hK _ _ ?_; clear hK K
      -- 10: convert<29->5> t18
      refine stepK rfl (by kernel_rfl) (fun K hK => ?_); go_simp
      apply Exists.intro; apply And.intro; (focus (intro wk hk; go_simp; exact ⟨rfl, rfl⟩)); refine hK _ _ ?_; clear hK K
      -- 11: buildSlice<33> len 1 0:t19
      refine stepS _ rfl (by kernel_rfl) (fun K hK => ?_); go_simp
      refine ⟨?_, ?_⟩
      · intro wk hk hg hu; go_simp; exact left_L rfl rfl
      rintro ⟨v11, lo11, hi11⟩ hlo11 hhi11 ⟨e11, f11⟩
      replace e11 : v11 = .slice (some ⟨lo11, 0, none⟩) 1 1 := e11; replace f11 : hi11 = lo11 + 1 := f11; replace hlo11 : _ ≤ lo11 := hlo11; subst e11; subst f11
      refine hK _ _ ?_; clear hK K
      -- 12: call builtin append<33,33>(t9, t20)
      refine stepS _ rfl (by kernel_rfl) (fun K hK => ?_); go_simp
      refine ⟨?_, ?_⟩
      · intro wk hk hg hu; have u11 := hu 11 (show 11 ∈ [11] by decide); have r11 : Row wk lo11 5 #[.int .u8 ((byN a k : Nat) : Int)] := u11.2; have how := own_tr ho hk (fun _ _ => id); obtain ⟨v2, w2, hrun, ho2, hgb, -, hw2⟩ := run_append_own_at (P := Try.prog) wk (w.heap.size + 1) 33 33 5 _ _ 1 1 rfl rfl rfl rfl rfl rfl (by decide) u3 i (bL a i) how ⟨lo11, 0, none⟩ 1 1 [.int .u8 ((byN a k : Nat) : Int)] rfl (by intro j u hj; match j, hj with | 0, hj => (cases hj; exact r11.cell 0)) (by simp [Value.oneCell']) (by simp only [maxLen]; omega) (by omega) (by have h1 := r0.lt; have h2 := hk.size; omega); rw [run_append_op rfl rfl rfl hrun]; exact left_P rfl rfl hgb (by rw [bL_succ, show 31 - i = k by omega]; exact ho2) hw2
      rintro ⟨v12, lo12, hi12⟩ - - hG12
      refine hK _ _ ?_; clear hK K
      -- 13: assign t21
      refine stepKz rfl (fun K hK => ?_); go_simp
      apply Exists.intro; apply And.intro; (focus (intro wk hk; go_simp; exact ⟨rfl, rfl⟩)); refine hK _ _ ?_; clear hK K
      refine stepN ?_
      refine hQ _ _ ?_
      intro w6 hT hG hF
      have hO : w6.ownsRow (w.heap.size + 1) 5 1 v12 (i + 1) (bL a (i + 1)) := (hF 12 _ rfl rfl (by decide)).2
      have hT2 := hT
      have hl6 : Below w.heap.size w w6 := hl.trans (hT2.below_of hl.size (by intro c hc; have := (ho.lt c hc).1; omega))
      have r6 : Row w6 w.heap.size 31 (W4 a) := K6.Row.tr r0 hT2 (fun hc => by have := (ho.lt _ hc).1; omega)
      have H := Lib.hid (show _ ∧ _ ∧ _ from ⟨hl6, r6, hO⟩)
      clear hT hT2 hG hF hQ QQ L hO hl6 r6 hl r0 ho hown hG12 hby
      go_wp2_with fail
      go_roundg k
      case measure => omega
      case rel => exact ⟨i + 1, by omega, by go_num, H.out.1, H.out.2.1, H.out.2.2⟩
    · obtain rfl : i = 32 := by omega
      obtain rfl : gk = 0 := by omega
      have H := Lib.hid (show _ ∧ _ from ⟨hl, ho⟩)
      clear hl r0 ho hlt
      go_wp2_with fail
      go_ret
      exact ⟨_, rfl, H.out.2, H.out.1⟩
theorem conv_own {w : World} {base n : Nat} {v : Value} {xs : List Int} (h : w.ownsRow base 5 1 v n (xs.map (Value.int .u8))) (hn : n = xs.length) (h0 : n ≠ 0) : (convert 33 9 v).run Try.prog w = .ok (.string (strOfNums xs)) w := by
  subst hn
  rcases h.2 with ⟨rfl, h1⟩ | ⟨g, cap, cur, rfl, hb, hg, h1, h2, h3, h4⟩
  · exact absurd h1 h0
  · have := run_convert_bytes_arg (P := Try.prog) w 33 5 Try.underlying33 Try.underlying5 g 0 xs.length cap xs rfl (fun i hi => by
      have h5 := h.cells (g := g) rfl i (.int .u8 (xs.getD i 0)) (by rw [List.getElem?_map, List.getElem?_eq_getElem hi]; simp [List.getD_eq_getElem?_getD, hi])
      have hadd : (⟨g, 0, none⟩ : Addr).add i = ⟨g, 0 + i, none⟩ := by unfold Addr.add; split <;> simp_all
      rw [hadd] at h5
      exact h5) 9 Try.underlying9
    exact this
/-! ### Text -/
theorem sl_single {w : World} {b x : Nat} (h : Row w b 181 #[.int .u32 ((x : Nat) : Int)]) : Sl w (.slice (some ⟨b, 0, none⟩) 1 1) [x] := by
  refine ⟨_, _, rfl, Nat.le_refl _, (fun h => (by cases h)), fun a ha => ?_⟩
  cases ha
  refine ⟨b, 0, rfl, h.lt, fun i hi => ?_⟩
  have h0 : i = 0 := by have : i < 1 := hi; omega
  subst h0
  exact h.cell 0
theorem digs_ten {r : Nat} (h : r < 10) : digs r = if r = 0 then [] else [r] := by
  split
  · rename_i h0; rw [h0, digs_zero]
  · rename_i h0
    rw [digs_pos h0, show r % B = r from Nat.mod_eq_of_lt (by simp only [B]; omega), show r / B = 0 from Nat.div_eq_of_lt (by simp only [B]; omega), digs_zero]
theorem quo10 {a : Nat} (ha : a < M) : ∀ wx v u, Sl wx v (digs a) → Sl wx u [10] → Calls Try.prog 171 #[v, u] wx fun e w' => ∃ q r, e = .returned (.tuple #[q, r]) ∧ Sl w' q (digs (a / 10)) ∧ Sl w' r (digs (a % 10)) ∧ Below wx.heap.size wx w' := fun wx v u s1 s2 => by
  have := quorem_any v u _ _ wx (dig_digs a) (by intro x hx; rw [List.mem_singleton.1 hx]; decide) s1 s2 (len7 (M_MM ha)) (by decide) (by decide)
  rw [val_digs, show val [10] = 10 by decide] at this
  exact this
theorem str_cons (a j : Nat) : strOfNums [((dgN a j : Nat) : Int)] ++ strOfNums (decs a j) = strOfNums (decs a (j + 1)) := by
  have e : decs a (j + 1) = ((dgN a j : Nat) : Int) :: decs a j := by
    unfold decs
    rw [List.range_succ_eq_map, List.map_cons, List.map_map]
    congr 1
    apply List.map_congr_left
    intro i _
    simp only [Function.comp, Nat.succ_eq_add_one]
    congr 2
    omega
  rw [e]
  apply ByteArray.ext
  simp [strOfNums, ByteArray.data_append]
theorem conv_one (w : World) (x : Int) : (convert 33 9 (.slice (some ⟨w.heap.size, 0, none⟩) 1 1)).run Try.prog (w.alloc (.cells #[.int .u8 x] 5)) = .ok (.string (strOfNums [x])) (w.alloc (.cells #[.int .u8 x] 5)) :=
  run_convert_bytes_arg (P := Try.prog) _ 33 5 Try.underlying33 Try.underlying5 w.heap.size 0 1 1 [x] rfl (fun i hi => by
    have h0 : i = 0 := by omega
    subst h0
    exact (Row.new_at (w := w) (cs := #[.int .u8 x]) (t := 5) rfl).cell 0) 9 Try.underlying9
set_option maxRecDepth 100000 in
set_option maxHeartbeats 8000000 in
theorem refText_any (a : Nat) (ha : a < M) (w : World) : Calls Try.prog 101 #[.agg (W4 a)] w (Txt w a) := by
  have HA := Lib.hid ha
  have o1 := Lib.hid fun wx => of164 a ha wx
  clear ha
  go_enter Try.func101, Try.ntmps101
  apply wp_seq_eq
  focus
    intro J hJ
    go_wp2_with fail
    exact hJ
  refine wp_abs (Mem w [(w.heap.size, 31, W4 a)]) ⟨by go_grown, ?_, trivial⟩ ?_
  · repeat (first | (refine Row.new_at ?_; simp; done) | refine Row.alloc ?_ _)
  intro w0 hM
  obtain ⟨hl, ra, -⟩ := hM
  go_upto_region 1 with (fail)
  let L : List Sp := [sF 1 [] [] [] (fun _ => True) (fun x w => Sl w x.v (digs (a)))]
  refine wp_region_six0 (shs L) (look6 L) (None_) (by kernel_rfl) (by kernel_rfl) (mk_St L [] [] (by kernel_rfl) (by kernel_rfl) ⟨ok_F (any_some _) (fun _ _ _ h hb => Sl.below h hb), trivial⟩ (by simp)) ?_
  intro QQ hQ
  -- 0: load<31> *t1
  refine stepK rfl (by kernel_rfl) (fun K hK => ?_); go_simp
  apply Exists.intro; apply And.intro; (focus exact kLoad rfl rfl aggT31 ra rfl id); refine hK _ _ ?_; clear hK K
  -- 1: call F164(t8)
  refine stepS _ rfl (by kernel_rfl) (fun K hK => ?_); go_simp
  refine ⟨?_, ?_⟩
  · intro wk hk hg hu; go_simp; refine upon_enter ((o1.out _).mono ?_); rintro e w' ⟨v, rfl, hv, hb⟩; exact ⟨_, rfl, left_F rfl rfl hb trivial hv⟩
  rintro ⟨v1, lo1, hi1⟩ - - -
  refine hK _ _ ?_; clear hK K
  -- 2: assign t9
  refine stepK rfl (by kernel_rfl) (fun K hK => ?_); go_simp
  apply Exists.intro; apply And.intro; (focus (intro wk hk; go_simp; exact ⟨rfl, rfl⟩)); refine hK _ _ ?_; clear hK K
  refine stepN ?_
  refine hQ _ _ ?_
  intro w1 hT hG hF
  have hb1 := hT.below
  have sy : Sl w1 v1 (digs a) := hF 1 _ rfl rfl (by decide)
  replace hl := hl.trans (hb1.mono hl.size)
  clear hT hG hF hb1 hQ QQ L ra o1
  have S0 := Lib.hid (show _ ∧ _ from ⟨hl, sy⟩)
  clear hl sy
  go_wp2_with fail
  go_loopg [3, 4] 78 (fun gg s3 s4 wr => ∃ j, j + gg = 78 ∧ s4 = .string (strOfNums (decs a j)) ∧ (j = 0 ∨ a / 10 ^ j ≠ 0) ∧ Sl wr s3 (digs (a / 10 ^ j)) ∧ Below w.heap.size w wr)
  case atStart => exact ⟨0, rfl, rfl, Or.inl rfl, by rw [Nat.pow_zero, Nat.div_one]; exact S0.out.2, S0.out.1⟩
  case round =>
    clear S0
    obtain ⟨j, hj, rfl, hnz, sy, hl⟩ := hrel
    have hj78 : j < 78 := by
      rcases Nat.lt_or_ge j 78 with h | h
      · exact h
      · exfalso
        obtain rfl : j = 78 := by omega
        rcases hnz with h1 | h1
        · omega
        · exact h1 (Nat.div_eq_of_lt (Nat.lt_of_lt_of_le HA.out pow77))
    have hnM : a / 10 ^ j < M := Nat.lt_of_le_of_lt (Nat.div_le_self _ _) HA.out
    have hstep : a / 10 ^ j / 10 = a / 10 ^ (j + 1) := by rw [Nat.pow_succ, Nat.div_div_eq_div_mul]
    have hdg : dgN a j = 48 + a / 10 ^ j % 10 := rfl
    have hstr := str_cons a j
    have hnz0 := hnz
    obtain ⟨n, hn⟩ : ∃ n, a / 10 ^ j = n := ⟨_, rfl⟩
    rw [hn] at hnM hstep hdg sy
    have qr := Lib.hid (quo10 hnM)
    have hr10 : n % 10 < 10 := Nat.mod_lt _ (by decide)
    obtain ⟨r, hr⟩ : ∃ r, n % 10 = r := ⟨_, rfl⟩
    rw [hr] at qr hr10 hdg
    rw [hstep] at qr
    rw [hdg] at hstr
    obtain ⟨m, hm⟩ : ∃ m, a / 10 ^ (j + 1) = m := ⟨_, rfl⟩
    rw [hm] at qr
    have HDR := Lib.hid (digs_ten hr10)
    have HJ : Hid (j = 0 ∨ a / 10 ^ j ≠ 0) := Lib.hid hnz0
    clear hnz0
    have H := Lib.hid (show _ ∧ _ ∧ _ ∧ _ from ⟨hl, sy, hstr, hm⟩)
    clear hl sy hstr hm hstep hdg hn hr hnM hnz
    go_upto_region 3 with (fail)
    obtain ⟨hl, sy, hstr, hm⟩ := H.out
    refine wp_abs (fun wx => Below w.heap.size w wx ∧ Sl wx u3 (digs n)) ⟨hl, sy⟩ ?_
    clear hl sy H
    rintro w3 ⟨hl, sy⟩
    let L : List Sp := [sL 1 181 [] 1 #[.int .u32 10], sF 2 [1] [1] [] (fun x => ∃ y z, x.v = .tuple #[y, z]) (fun x w => ∃ y z, x.v = .tuple #[y, z] ∧ Sl w y (digs m) ∧ Sl w z (digs r))]
    refine wp_region_six0 (shs L) (look6 L) (None_) (by kernel_rfl) (by kernel_rfl) (mk_St L [] [] (by kernel_rfl) (by kernel_rfl) ⟨ok_L, ok_F qr_some (fun _ _ _ h hb => let ⟨y, z, e, s, t⟩ := h; ⟨y, z, e, Sl.below s hb, Sl.below t hb⟩), trivial⟩ (by simp)) ?_
    intro QQ hQ
    -- 0: t3
    refine stepK rfl (by kernel_rfl) (fun K hK => ?_); go_simp
    apply Exists.intro; apply And.intro; (focus (intro wk hk; go_simp; exact ⟨rfl, rfl⟩)); refine hK _ _ ?_; clear hK K
    -- 1: buildSlice<153> len 1 0:10u32
    refine stepS _ rfl (by kernel_rfl) (fun K hK => ?_); go_simp
    refine ⟨?_, ?_⟩
    · intro wk hk hg hu; go_simp; exact left_L rfl rfl
    rintro ⟨v1, lo1, hi1⟩ hlo1 hhi1 ⟨e1, f1⟩
    replace e1 : v1 = .slice (some ⟨lo1, 0, none⟩) 1 1 := e1; replace f1 : hi1 = lo1 + 1 := f1; replace hlo1 : _ ≤ lo1 := hlo1; subst e1; subst f1
    refine hK _ _ ?_; clear hK K
    -- 2: call F171(t11, t12)
    refine stepS _ rfl (by kernel_rfl) (fun K hK => ?_); go_simp
    refine ⟨?_, ?_⟩
    · intro wk hk hg hu; have u1 := hu 1 (show 1 ∈ [1] by decide); have r1 : Row wk lo1 181 #[.int .u32 10] := And.right (a := lo1 + 1 = lo1 + 1) u1; go_simp; refine upon_enter ((qr.out _ _ _ (sy.below hk.below) (sl_single (x := 10) r1)).mono ?_); rintro e w' ⟨y, z, rfl, hy, hz, hb⟩; exact ⟨_, rfl, left_F rfl rfl hb ⟨_, _, rfl⟩ ⟨_, _, rfl, hy, hz⟩⟩
    rintro ⟨v2, lo2, hi2⟩ - - ⟨y2, z2, (rfl : v2 = _)⟩
    refine hK _ _ ?_; clear hK K
    -- 3: t13
    refine stepK rfl (by kernel_rfl) (fun K hK => ?_); go_simp
    apply Exists.intro; apply And.intro; (focus (intro wk hk; go_simp; exact ⟨rfl, rfl⟩)); refine hK _ _ ?_; clear hK K
    -- 4: extract t10 #0
    refine stepK rfl (by kernel_rfl) (fun K hK => ?_); go_simp
    apply Exists.intro; apply And.intro; (focus (intro wk hk; go_simp; exact ⟨rfl, rfl⟩)); refine hK _ _ ?_; clear hK K
    -- 5: extract t10 #1
    refine stepK rfl (by kernel_rfl) (fun K hK => ?_); go_simp
    apply Exists.intro; apply And.intro; (focus (intro wk hk; go_simp; exact ⟨rfl, rfl⟩)); refine hK _ _ ?_; clear hK K
    -- 6: assign t14
    refine stepK rfl (by kernel_rfl) (fun K hK => ?_); go_simp
    apply Exists.intro; apply And.intro; (focus (intro wk hk; go_simp; exact ⟨rfl, rfl⟩)); refine hK _ _ ?_; clear hK K
    -- 7: assign t15
    refine stepK rfl (by kernel_rfl) (fun K hK => ?_); go_simp
    apply Exists.intro; apply And.intro; (focus (intro wk hk; go_simp; exact ⟨rfl, rfl⟩)); refine hK _ _ ?_; clear hK K
    refine stepN ?_
    refine hQ _ _ ?_
    intro w4 hT hG hF
    have hb4 := hT.below
    obtain ⟨y, z, ey, sq, sz⟩ : ∃ u t, (Value.tuple #[y2, z2]) = .tuple #[u, t] ∧ Sl w4 u (digs m) ∧ Sl w4 t (digs r) := hF 2 _ rfl rfl (by decide)
    cases ey
    replace hl := hl.trans (hb4.mono hl.size)
    clear hT hG hF hb4 hQ QQ L qr sy
    have cv := conv_one w4 (48 + (r : Int))
    have sz2 : (strOfNums (decs a j)).size = j := str_size a j
    have wr48 : IntKind.u8.wrap (48 + (r : Int)) = 48 + (r : Int) := by rw [IntKind.wrap_u8]; omega
    have wr8 : IntKind.u8.wrap (r : Int) = (r : Int) := by rw [IntKind.wrap_u8]; omega
    rw [show ((48 + r : Nat) : Int) = 48 + (r : Int) by omega] at hstr
    obtain ⟨rq, cq, eq2, kq, -, -⟩ := id sq
    subst eq2
    obtain ⟨nq, hnq⟩ : ∃ n, (digs m).length = n := ⟨_, rfl⟩
    have hmq : m = 0 ↔ nq = 0 := by
      rw [← hnq]
      constructor
      · intro h; rw [h, digs_zero]; rfl
      · intro h
        rcases Nat.eq_zero_or_pos m with h1 | h1
        · exact h1
        · have := digs_ne (n := m) (by omega); omega
    rw [hnq] at sq kq ⊢
    obtain ⟨rz, cz, ez, kz, -, -⟩ := id sz
    subst ez
    have HH := Lib.hid (show _ ∧ _ ∧ _ ∧ _ ∧ _ from ⟨hl, sq, hstr, hm, hmq⟩)
    clear hl sq hstr hm hmq hnq
    have fin : Hid (nq = 0 → ∀ wx, Below w4.heap.size w4 wx → Txt w a (.returned (.string (strOfNums [48 + (r : Int)] ++ strOfNums (decs a j)))) wx) := Lib.hid fun h0 wx hb => by
      obtain ⟨hl, sq, hstr, hm, hmq⟩ := HH.out
      refine ⟨j + 1, by omega, by omega, by rw [hm]; exact hmq.2 h0, ?_, by rw [hstr], hl.trans (hb.mono hl.size)⟩
      rcases HJ.out with h | h
      · exact Or.inl (by omega)
      · exact Or.inr h
    have nxt : Hid (nq ≠ 0 → ∀ wx, Below w4.heap.size w4 wx → (j + 1 + (gk - 1) = 78) ∧ (Value.string (strOfNums [48 + (r : Int)] ++ strOfNums (decs a j))) = .string (strOfNums (decs a (j + 1))) ∧ (j + 1 = 0 ∨ a / 10 ^ (j + 1) ≠ 0) ∧ Sl wx (.slice rq nq cq) (digs (a / 10 ^ (j + 1))) ∧ Below w.heap.size w wx) := Lib.hid fun h0 wx hb => by
      obtain ⟨hl, sq, hstr, hm, hmq⟩ := HH.out
      exact ⟨by omega, by rw [hstr], Or.inr (by rw [hm]; exact fun e => h0 (hmq.1 e)), by rw [hm]; exact sq.below hb, hl.trans (hb.mono hl.size)⟩
    clear HH
    by_cases hr0 : r = 0
    · have hl0 : (digs r).length = 0 := by rw [hr0, digs_zero]; rfl
      rw [hl0] at kz ⊢
      subst hr0
      clear hl0 sz kz HDR wr8
      rw [show (48 + ((0 : Nat) : Int)) = 48 by omega] at cv fin nxt
      have sz1 : (strOfNums [(48 : Int)]).size = 1 := strOfNums_size _
      by_cases hq0 : nq = 0
      · subst hq0
        go_wp2_with fail
        go_ret
        exact fin.out (by simp) _ (by go_grown)
      · go_wp2_with fail
        go_roundg (gk - 1)
        case measure => omega
        case rel => exact ⟨j + 1, nxt.out hq0 _ (by go_grown)⟩
    · have hd1 : digs r = [r] := by rw [HDR.out, if_neg hr0]
      have hl1 : (digs r).length = 1 := by rw [hd1]; rfl
      rw [hd1] at sz
      rw [hl1] at kz ⊢
      obtain ⟨gz, oz, ez⟩ := sz.addr' (by simp)
      subst ez
      have cz0 := (sz.cell (i := 0) (by simp)).2
      rw [show dg [r] 0 = r from rfl, Nat.add_zero] at cz0
      clear hl1 hd1 HDR hr0 sz
      have sz1 : (strOfNums [48 + (r : Int)]).size = 1 := strOfNums_size _
      by_cases hq0 : nq = 0
      · subst hq0
        go_wp2_with fail
        go_ret
        exact fin.out (by simp) _ (by go_grown)
      · go_wp2_with fail
        go_roundg (gk - 1)
        case measure => omega
        case rel => exact ⟨j + 1, nxt.out hq0 _ (by go_grown)⟩
end Go.Proofs.Ytpdenhmkpiafiaa
