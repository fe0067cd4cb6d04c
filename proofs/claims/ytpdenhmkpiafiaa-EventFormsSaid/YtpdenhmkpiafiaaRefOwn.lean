/-
  As trim and Minus, and whose block the slice lies in.
-/
import Derived.Test.YtpdenhmkpiafiaaRefMinus
namespace Go.Proofs.Ytpdenhmkpiafiaa
open Go Go.RowKit K6 Ref

set_option maxRecDepth 100000 in
set_option maxHeartbeats 2000000 in
theorem trim_own (v : Value) (xs : List Nat) (w : World) (hD : Dig xs) (hs : Sl w v xs) (hL : xs.length < 1099511627776) :
    Calls Try.prog 197 #[v] w fun e w' => w' = w ∧ ∃ u, e = .returned u ∧ Sl w u (digs (val xs)) ∧ u.ownBlock = v.ownBlock := by
  have hs' := hs
  obtain ⟨r, c, rfl, hc, hr0, hr⟩ := hs'
  obtain ⟨n, hn⟩ : ∃ n, xs.length = n := ⟨_, rfl⟩
  rw [hn] at hc hr hL hs ⊢
  have HS := Lib.hid hs
  clear hs
  go_enter Try.func197, Try.ntmps197
  go_wp2_with fail
  go_loopg [3] n (fun gg s3 wr => gg ≤ n ∧ s3 = .int .i64 (gg : Int) ∧ wr = w ∧ val (xs.take gg) = val xs)
  case atStart => exact ⟨Nat.le_refl _, rfl, rfl, by rw [← hn, List.take_length]⟩
  case round =>
    obtain ⟨hk, rfl, rfl, hv⟩ := hrel
    rcases Nat.eq_zero_or_pos gk with h0 | h0
    · subst h0
      have HV := Lib.hid hv
      clear hv hr
      go_wp2_with fail
      go_ret
      refine ⟨rfl, _, rfl, ?_, by first | rfl | (cases r <;> rfl)⟩
      rw [← trim_end hD (by omega) HV.out (Or.inl rfl)]
      exact HS.out.cut (Nat.zero_le _)
    · obtain ⟨g, o, ha, hg, hcell⟩ : ∃ g o, r = some ⟨g, o, none⟩ ∧ g < wr.heap.size ∧ ∀ i, i < n → wr.cell? ⟨g, o + i, none⟩ = some (.int .u32 ((dg xs i : Nat) : Int)) := by
        cases r with
        | none => exfalso; have := hr0 rfl; omega
        | some a => obtain ⟨g, o, e, h⟩ := hr a rfl; exact ⟨g, o, by rw [e], h⟩
      subst ha
      obtain ⟨j, rfl⟩ : ∃ j, gk = j + 1 := ⟨gk - 1, by omega⟩
      have cj := hcell j (by omega)
      have e1 : ((j : Int) + 1) - 1 = (j : Int) := by omega
      clear hr hcell hr0
      have hds := dg_some (xs := xs) (i := j) (by omega)
      obtain ⟨y, hy⟩ : ∃ y, dg xs j = y := ⟨_, rfl⟩
      rw [hy] at cj hds
      have HV := Lib.hid hv
      clear hv hy
      by_cases hz : y = 0
      · subst hz
        have HY := Lib.hid hds
        clear hds
        go_wp2_with fail
        go_roundg j
        case measure => omega
        case rel => exact ⟨by omega, rfl, rfl, by rw [← HV.out]; exact (take_val HY.out).symm⟩
      · have hz' : ((y : Int) == 0) = false := by simp; omega
        have HZ := Lib.hid hz
        have HY := Lib.hid hds
        clear hds hz
        go_wp2_with fail
        go_ret
        refine ⟨rfl, _, rfl, ?_, by first | rfl | (cases r <;> rfl)⟩
        rw [← trim_end hD (by omega) HV.out (Or.inr (by rw [show j + 1 - 1 = j by omega, HY.out]; intro h; exact HZ.out (Option.some.inj h)))]
        exact HS.out.cut hk
set_option maxRecDepth 100000 in
set_option maxHeartbeats 16000000 in
theorem minus_own (v u : Value) (xs ys : List Nat) (w : World) (hx : Dig xs) (hy : Dig ys) (sv : Sl w v xs) (su : Sl w u ys) (lx : xs.length < 1000000000) (ly : ys.length < 1000000000) :
    Calls Try.prog 166 #[v, u] w fun e w' => ∃ r, e = .returned (.tuple #[r, .bool (subB (val xs) (val ys))]) ∧ Sl w' r (digs (val xs - val ys)) ∧ Below w.heap.size w w' ∧ ∀ b, r.ownBlock = some b → w.heap.size ≤ b := by
  have HC := Lib.hid (natcmp_any v u xs ys w hx hy sv su (by omega) (by omega))
  obtain ⟨r1, c1, rfl, k1, -, -⟩ := id sv
  obtain ⟨r2, c2, rfl, k2, -, -⟩ := id su
  obtain ⟨n, hn⟩ : ∃ n, xs.length = n := ⟨_, rfl⟩
  obtain ⟨m, hm⟩ : ∃ m, ys.length = m := ⟨_, rfl⟩
  rw [hn] at lx k1 HC ⊢
  rw [hm] at ly k2 HC ⊢
  have S0 := Lib.hid (show _ ∧ _ ∧ _ ∧ _ from ⟨hx, hy, sv, su⟩)
  clear hx hy sv su
  obtain ⟨cc, hcc⟩ : ∃ cc, cmpN (val xs) (val ys) = cc := ⟨_, rfl⟩
  rw [hcc] at HC
  by_cases hle : val ys ≤ val xs
  · have hc0 : ¬ cc < 0 := by rw [← hcc]; unfold cmpN; split <;> (try split) <;> omega
    have hsb : subB (val xs) (val ys) = true := decide_eq_true hle
    rw [hsb]
    clear hsb hcc
    have HLE := Lib.hid hle
    clear hle
    go_enter Try.func166, Try.ntmps166
    go_wp2_with fail
    refine HC.out.mono ?_
    rintro e w1 ⟨rfl, hl1⟩
    have S := Lib.hid (show _ ∧ _ ∧ _ ∧ _ from ⟨S0.out.1, S0.out.2.1, S0.out.2.2.1.below hl1, S0.out.2.2.2.below hl1⟩)
    clear HC S0
    go_wp2_with fail
    go_loopg [6, 7, 8] n (fun gg s6 s7 s8 wr => ∃ (i : Nat) (zs : List Nat) (b : Nat), i + gg = n ∧ s7 = .int .u64 ((b : Nat) : Int) ∧ s8 = .int .i64 ((i : Nat) : Int) ∧ Below w1.heap.size w1 wr ∧ wr.ownsRow w1.heap.size 181 1 s6 i (dV zs) ∧ zs.length = i ∧ Dig zs ∧ b ≤ 1 ∧ val zs + val (ys.take i) = val (xs.take i) + B ^ i * b)
    case atStart => exact ⟨0, [], 0, by omega, rfl, rfl, Below.refl _ _, by simp [dV, World.ownsRow], rfl, (fun _ h => (by cases h)), by omega, by simp [val]⟩
    case round =>
      obtain ⟨i, zs, b, hi, rfl, rfl, hl, ho, hz, hD, hb, hv⟩ := hrel
      by_cases hin : i < n
      · obtain ⟨g, o, rfl⟩ := S.out.2.2.1.addr' (by omega)
        have cx := S.out.2.2.1.cell (i := i) (by omega)
        replace cx := ((bcell hl).1 g (o + i) cx.1).trans cx.2
        have hix : (i : Int) < (n : Int) := by omega
        have hxl := dg_lt S.out.1 i
        have hyl := dg_lt S.out.2.1 i
        obtain ⟨x, hx⟩ : ∃ x, dg xs i = x := ⟨_, rfl⟩
        obtain ⟨y, hy⟩ : ∃ y, dg ys i = y := ⟨_, rfl⟩
        rw [hx] at hxl cx
        rw [hy] at hyl
        simp only [B] at hxl hyl
        have wx : IntKind.u64.wrap ((x : Nat) : Int) = ((x : Nat) : Int) := by rw [IntKind.wrap_u64]; omega
        obtain ⟨s, hs⟩ : ∃ s, s = b + y := ⟨_, rfl⟩
        by_cases him : i < m
        · obtain ⟨g', o', rfl⟩ := S.out.2.2.2.addr' (by omega)
          have cy := S.out.2.2.2.cell (i := i) (by omega)
          replace cy := ((bcell hl).1 g' (o' + i) cy.1).trans cy.2
          rw [hy] at cy
          by_cases hls : x < s
          · have hle : i ≤ n := by omega
            have hiy : (i : Int) < (m : Int) := by omega
            have wy : IntKind.u64.wrap ((y : Nat) : Int) = ((y : Nat) : Int) := by rw [IntKind.wrap_u64]; omega
            have a1 : IntKind.u64.wrap ((b : Int) + (y : Int)) = (s : Int) := by rw [IntKind.wrap_u64]; omega
            have hl2 : (x : Int) < (s : Int) := by omega
            obtain ⟨x2, hx2⟩ : ∃ x2, x2 = x + 4294967296 := ⟨_, rfl⟩
            have a2 : IntKind.u64.wrap ((x : Int) + 4294967296) = (x2 : Int) := by rw [IntKind.wrap_u64]; omega
            obtain ⟨d, hd⟩ : ∃ d, d = x2 - s := ⟨_, rfl⟩
            have a3 : IntKind.u64.wrap ((x2 : Int) - (s : Int)) = (d : Int) := by rw [IntKind.wrap_u64]; omega
            have a4 : IntKind.u32.wrap (d : Int) = (d : Int) := by rw [IntKind.wrap_u32]; omega
            have hdl : d < B := by simp only [B]; omega
            have hst := minus_step (d := d) (b' := 1) hz hv (by rw [hx, hy]; simp only [B]; omega)
            have HH := Lib.hid (show _ ∧ _ ∧ _ ∧ _ from ⟨hst, hdl, hz, hD⟩)
            clear hst hdl hx hy hd hz hD hv hs hx2 hxl hyl
            have HO := Lib.hid ho
            clear ho
            go_upto_region 16 with (fail)
            have ho := HO.out
            refine wp_abs (fun w5 => Below w1.heap.size w1 w5 ∧ w5.ownsRow w1.heap.size 181 1 u6 i (dV zs)) ⟨hl, ho⟩ ?_
            clear hl ho HO cx cy
            rintro w5 ⟨hl, ho⟩
            have hown : ∀ b, u6.ownBlock = some b → u6.ownBlock = some b ∧ b < w5.heap.size := fun b hb => ⟨hb, (ho.lt b hb).2⟩
            let L : List Sp := [sL 5 181 [] 1 #[.int .u32 ((d : Nat) : Int)], sP 6 [5] [5] (w1.heap.size) 181 u6 (i + 1) (dV (zs ++ [d]))]
            refine wp_region_six0 (shs L) (look6 L) (fun b => u6.ownBlock = some b) (by kernel_rfl) (by kernel_rfl) (mk_St L [6] [6] (by kernel_rfl) (by kernel_rfl) ⟨ok_L, ok_P hown, trivial⟩ (by simp)) ?_
            intro QQ hQ
            -- 0: t6
            refine stepK rfl (by kernel_rfl) (fun K hK => ?_); go_simp
            apply Exists.intro; apply And.intro; (focus (intro wk hk; go_simp; exact ⟨rfl, rfl⟩)); refine hK _ _ ?_; clear hK K
            -- 1: t10
            refine stepK rfl (by kernel_rfl) (fun K hK => ?_); go_simp
            apply Exists.intro; apply And.intro; (focus (intro wk hk; go_simp; exact ⟨rfl, rfl⟩)); refine hK _ _ ?_; clear hK K
            -- 2: t9
            refine stepK rfl (by kernel_rfl) (fun K hK => ?_); go_simp
            apply Exists.intro; apply And.intro; (focus (intro wk hk; go_simp; exact ⟨rfl, rfl⟩)); refine hK _ _ ?_; clear hK K
            -- 3: sub<29> t44, t45
            refine stepK rfl (by kernel_rfl) (fun K hK => ?_); go_simp
            apply Exists.intro; apply And.intro; (focus (intro wk hk; go_simp; exact ⟨rfl, rfl⟩)); refine hK _ _ ?_; clear hK K
            -- 4: convert<29->181> t46
            refine stepK rfl (by kernel_rfl) (fun K hK => ?_); go_simp
            apply Exists.intro; apply And.intro; (focus (intro wk hk; go_simp; exact ⟨rfl, rfl⟩)); refine hK _ _ ?_; clear hK K
            -- 5: buildSlice<153> len 1 0:t47
            refine stepS _ rfl (by kernel_rfl) (fun K hK => ?_); go_simp
            refine ⟨?_, ?_⟩
            · intro wk hk hg hu; go_simp; exact left_L rfl rfl
            rintro ⟨v5, lo5, hi5⟩ hlo5 hhi5 ⟨e5, f5⟩
            replace e5 : v5 = .slice (some ⟨lo5, 0, none⟩) 1 1 := e5; replace f5 : hi5 = lo5 + 1 := f5; replace hlo5 : _ ≤ lo5 := hlo5; subst e5; subst f5
            refine hK _ _ ?_; clear hK K
            -- 6: call builtin append<153,153>(t43, t48)
            refine stepS _ rfl (by kernel_rfl) (fun K hK => ?_); go_simp
            refine ⟨?_, ?_⟩
            · intro wk hk hg hu; have u5 := hu 5 (show 5 ∈ [5] by decide); have r5 : Row wk lo5 181 #[.int .u32 ((d : Nat) : Int)] := u5.2; have how := own_tr ho hk (fun _ _ => id); obtain ⟨v2, w2, hrun, ho2, hgb, -, hw2⟩ := run_append_own_at (P := Try.prog) wk (w1.heap.size) 153 153 181 _ _ 1 4 rfl rfl rfl rfl rfl rfl (by decide) u6 i (dV zs) how ⟨lo5, 0, none⟩ 1 1 [.int .u32 ((d : Nat) : Int)] rfl (by intro j u hj; match j, hj with | 0, hj => (cases hj; exact r5.cell 0)) (by simp [Value.oneCell']) (by simp only [maxLen]; omega) (by omega) (by have h1 := hl.size; have h2 := hk.size; omega); rw [run_append_op rfl rfl rfl hrun]; exact left_P rfl rfl hgb (by rw [dV_snoc]; exact ho2) hw2
            rintro ⟨v6, lo6, hi6⟩ - - hG6
            refine hK _ _ ?_; clear hK K
            -- 7: assign t49
            refine stepKz rfl (fun K hK => ?_); go_simp
            apply Exists.intro; apply And.intro; (focus (intro wk hk; go_simp; exact ⟨rfl, rfl⟩)); refine hK _ _ ?_; clear hK K
            refine stepN ?_
            refine hQ _ _ ?_
            intro w6 hT hG hF
            have hO : w6.ownsRow w1.heap.size 181 1 v6 (i + 1) (dV (zs ++ [d])) := (hF 6 _ rfl rfl (by decide)).2
            have hT2 := hT
            have hl6 : Below w1.heap.size w1 w6 := hl.trans (hT2.below_of hl.size (by intro c hc; have := (ho.lt c hc).1; omega))
            have H := Lib.hid (show _ ∧ _ from ⟨hl6, hO⟩)
            clear hT hT2 hG hF hQ QQ L hO hl6 hl ho hown hG6
            go_wp2_with fail
            go_roundg (gk - 1)
            case measure => omega
            case rel => exact ⟨i + 1, zs ++ [d], 1, by omega, rfl, by go_num, H.out.1, H.out.2, by rw [List.length_append, HH.out.2.2.1]; rfl, dig_snoc HH.out.2.2.2 HH.out.2.1, by omega, HH.out.1⟩
          · have hle : i ≤ n := by omega
            have hiy : (i : Int) < (m : Int) := by omega
            have wy : IntKind.u64.wrap ((y : Nat) : Int) = ((y : Nat) : Int) := by rw [IntKind.wrap_u64]; omega
            have a1 : IntKind.u64.wrap ((b : Int) + (y : Int)) = (s : Int) := by rw [IntKind.wrap_u64]; omega
            have hl2 : ¬ (x : Int) < (s : Int) := by omega
            obtain ⟨d, hd⟩ : ∃ d, d = x - s := ⟨_, rfl⟩
            have a3 : IntKind.u64.wrap ((x : Int) - (s : Int)) = (d : Int) := by rw [IntKind.wrap_u64]; omega
            have a4 : IntKind.u32.wrap (d : Int) = (d : Int) := by rw [IntKind.wrap_u32]; omega
            have hdl : d < B := by simp only [B]; omega
            have hst := minus_step (d := d) (b' := 0) hz hv (by rw [hx, hy]; simp only [B]; omega)
            have HH := Lib.hid (show _ ∧ _ ∧ _ ∧ _ from ⟨hst, hdl, hz, hD⟩)
            clear hst hdl hx hy hd hz hD hv hs hxl hyl
            have HO := Lib.hid ho
            clear ho
            go_upto_region 16 with (fail)
            have ho := HO.out
            refine wp_abs (fun w5 => Below w1.heap.size w1 w5 ∧ w5.ownsRow w1.heap.size 181 1 u6 i (dV zs)) ⟨hl, ho⟩ ?_
            clear hl ho HO cx cy
            rintro w5 ⟨hl, ho⟩
            have hown : ∀ b, u6.ownBlock = some b → u6.ownBlock = some b ∧ b < w5.heap.size := fun b hb => ⟨hb, (ho.lt b hb).2⟩
            let L : List Sp := [sL 5 181 [] 1 #[.int .u32 ((d : Nat) : Int)], sP 6 [5] [5] (w1.heap.size) 181 u6 (i + 1) (dV (zs ++ [d]))]
            refine wp_region_six0 (shs L) (look6 L) (fun b => u6.ownBlock = some b) (by kernel_rfl) (by kernel_rfl) (mk_St L [6] [6] (by kernel_rfl) (by kernel_rfl) ⟨ok_L, ok_P hown, trivial⟩ (by simp)) ?_
            intro QQ hQ
            -- 0: t6
            refine stepK rfl (by kernel_rfl) (fun K hK => ?_); go_simp
            apply Exists.intro; apply And.intro; (focus (intro wk hk; go_simp; exact ⟨rfl, rfl⟩)); refine hK _ _ ?_; clear hK K
            -- 1: t10
            refine stepK rfl (by kernel_rfl) (fun K hK => ?_); go_simp
            apply Exists.intro; apply And.intro; (focus (intro wk hk; go_simp; exact ⟨rfl, rfl⟩)); refine hK _ _ ?_; clear hK K
            -- 2: t9
            refine stepK rfl (by kernel_rfl) (fun K hK => ?_); go_simp
            apply Exists.intro; apply And.intro; (focus (intro wk hk; go_simp; exact ⟨rfl, rfl⟩)); refine hK _ _ ?_; clear hK K
            -- 3: sub<29> t44, t45
            refine stepK rfl (by kernel_rfl) (fun K hK => ?_); go_simp
            apply Exists.intro; apply And.intro; (focus (intro wk hk; go_simp; exact ⟨rfl, rfl⟩)); refine hK _ _ ?_; clear hK K
            -- 4: convert<29->181> t46
            refine stepK rfl (by kernel_rfl) (fun K hK => ?_); go_simp
            apply Exists.intro; apply And.intro; (focus (intro wk hk; go_simp; exact ⟨rfl, rfl⟩)); refine hK _ _ ?_; clear hK K
            -- 5: buildSlice<153> len 1 0:t47
            refine stepS _ rfl (by kernel_rfl) (fun K hK => ?_); go_simp
            refine ⟨?_, ?_⟩
            · intro wk hk hg hu; go_simp; exact left_L rfl rfl
            rintro ⟨v5, lo5, hi5⟩ hlo5 hhi5 ⟨e5, f5⟩
            replace e5 : v5 = .slice (some ⟨lo5, 0, none⟩) 1 1 := e5; replace f5 : hi5 = lo5 + 1 := f5; replace hlo5 : _ ≤ lo5 := hlo5; subst e5; subst f5
            refine hK _ _ ?_; clear hK K
            -- 6: call builtin append<153,153>(t43, t48)
            refine stepS _ rfl (by kernel_rfl) (fun K hK => ?_); go_simp
            refine ⟨?_, ?_⟩
            · intro wk hk hg hu; have u5 := hu 5 (show 5 ∈ [5] by decide); have r5 : Row wk lo5 181 #[.int .u32 ((d : Nat) : Int)] := u5.2; have how := own_tr ho hk (fun _ _ => id); obtain ⟨v2, w2, hrun, ho2, hgb, -, hw2⟩ := run_append_own_at (P := Try.prog) wk (w1.heap.size) 153 153 181 _ _ 1 4 rfl rfl rfl rfl rfl rfl (by decide) u6 i (dV zs) how ⟨lo5, 0, none⟩ 1 1 [.int .u32 ((d : Nat) : Int)] rfl (by intro j u hj; match j, hj with | 0, hj => (cases hj; exact r5.cell 0)) (by simp [Value.oneCell']) (by simp only [maxLen]; omega) (by omega) (by have h1 := hl.size; have h2 := hk.size; omega); rw [run_append_op rfl rfl rfl hrun]; exact left_P rfl rfl hgb (by rw [dV_snoc]; exact ho2) hw2
            rintro ⟨v6, lo6, hi6⟩ - - hG6
            refine hK _ _ ?_; clear hK K
            -- 7: assign t49
            refine stepKz rfl (fun K hK => ?_); go_simp
            apply Exists.intro; apply And.intro; (focus (intro wk hk; go_simp; exact ⟨rfl, rfl⟩)); refine hK _ _ ?_; clear hK K
            refine stepN ?_
            refine hQ _ _ ?_
            intro w6 hT hG hF
            have hO : w6.ownsRow w1.heap.size 181 1 v6 (i + 1) (dV (zs ++ [d])) := (hF 6 _ rfl rfl (by decide)).2
            have hT2 := hT
            have hl6 : Below w1.heap.size w1 w6 := hl.trans (hT2.below_of hl.size (by intro c hc; have := (ho.lt c hc).1; omega))
            have H := Lib.hid (show _ ∧ _ from ⟨hl6, hO⟩)
            clear hT hT2 hG hF hQ QQ L hO hl6 hl ho hown hG6
            go_wp2_with fail
            go_roundg (gk - 1)
            case measure => omega
            case rel => exact ⟨i + 1, zs ++ [d], 0, by omega, rfl, by go_num, H.out.1, H.out.2, by rw [List.length_append, HH.out.2.2.1]; rfl, dig_snoc HH.out.2.2.2 HH.out.2.1, by omega, HH.out.1⟩
        · have zy := dg_out (xs := ys) (i := i) (by omega)
          rw [hy] at zy
          by_cases hls : x < s
          · have hle : i ≤ n := by omega
            have hiy : ¬ (i : Int) < (m : Int) := by omega
            subst zy
            obtain rfl : s = b := by omega
            have hl2 : (x : Int) < (s : Int) := by omega
            obtain ⟨x2, hx2⟩ : ∃ x2, x2 = x + 4294967296 := ⟨_, rfl⟩
            have a2 : IntKind.u64.wrap ((x : Int) + 4294967296) = (x2 : Int) := by rw [IntKind.wrap_u64]; omega
            obtain ⟨d, hd⟩ : ∃ d, d = x2 - s := ⟨_, rfl⟩
            have a3 : IntKind.u64.wrap ((x2 : Int) - (s : Int)) = (d : Int) := by rw [IntKind.wrap_u64]; omega
            have a4 : IntKind.u32.wrap (d : Int) = (d : Int) := by rw [IntKind.wrap_u32]; omega
            have hdl : d < B := by simp only [B]; omega
            have hst := minus_step (d := d) (b' := 1) hz hv (by rw [hx, hy]; simp only [B]; omega)
            have HH := Lib.hid (show _ ∧ _ ∧ _ ∧ _ from ⟨hst, hdl, hz, hD⟩)
            clear hst hdl hx hy hd hz hD hv hs hx2 hxl hyl
            have HO := Lib.hid ho
            clear ho
            go_upto_region 16 with (fail)
            have ho := HO.out
            refine wp_abs (fun w5 => Below w1.heap.size w1 w5 ∧ w5.ownsRow w1.heap.size 181 1 u6 i (dV zs)) ⟨hl, ho⟩ ?_
            clear hl ho HO cx 
            rintro w5 ⟨hl, ho⟩
            have hown : ∀ b, u6.ownBlock = some b → u6.ownBlock = some b ∧ b < w5.heap.size := fun b hb => ⟨hb, (ho.lt b hb).2⟩
            let L : List Sp := [sL 5 181 [] 1 #[.int .u32 ((d : Nat) : Int)], sP 6 [5] [5] (w1.heap.size) 181 u6 (i + 1) (dV (zs ++ [d]))]
            refine wp_region_six0 (shs L) (look6 L) (fun b => u6.ownBlock = some b) (by kernel_rfl) (by kernel_rfl) (mk_St L [6] [6] (by kernel_rfl) (by kernel_rfl) ⟨ok_L, ok_P hown, trivial⟩ (by simp)) ?_
            intro QQ hQ
            -- 0: t6
            refine stepK rfl (by kernel_rfl) (fun K hK => ?_); go_simp
            apply Exists.intro; apply And.intro; (focus (intro wk hk; go_simp; exact ⟨rfl, rfl⟩)); refine hK _ _ ?_; clear hK K
            -- 1: t10
            refine stepK rfl (by kernel_rfl) (fun K hK => ?_); go_simp
            apply Exists.intro; apply And.intro; (focus (intro wk hk; go_simp; exact ⟨rfl, rfl⟩)); refine hK _ _ ?_; clear hK K
            -- 2: t9
            refine stepK rfl (by kernel_rfl) (fun K hK => ?_); go_simp
            apply Exists.intro; apply And.intro; (focus (intro wk hk; go_simp; exact ⟨rfl, rfl⟩)); refine hK _ _ ?_; clear hK K
            -- 3: sub<29> t44, t45
            refine stepK rfl (by kernel_rfl) (fun K hK => ?_); go_simp
            apply Exists.intro; apply And.intro; (focus (intro wk hk; go_simp; exact ⟨rfl, rfl⟩)); refine hK _ _ ?_; clear hK K
            -- 4: convert<29->181> t46
            refine stepK rfl (by kernel_rfl) (fun K hK => ?_); go_simp
            apply Exists.intro; apply And.intro; (focus (intro wk hk; go_simp; exact ⟨rfl, rfl⟩)); refine hK _ _ ?_; clear hK K
            -- 5: buildSlice<153> len 1 0:t47
            refine stepS _ rfl (by kernel_rfl) (fun K hK => ?_); go_simp
            refine ⟨?_, ?_⟩
            · intro wk hk hg hu; go_simp; exact left_L rfl rfl
            rintro ⟨v5, lo5, hi5⟩ hlo5 hhi5 ⟨e5, f5⟩
            replace e5 : v5 = .slice (some ⟨lo5, 0, none⟩) 1 1 := e5; replace f5 : hi5 = lo5 + 1 := f5; replace hlo5 : _ ≤ lo5 := hlo5; subst e5; subst f5
            refine hK _ _ ?_; clear hK K
            -- 6: call builtin append<153,153>(t43, t48)
            refine stepS _ rfl (by kernel_rfl) (fun K hK => ?_); go_simp
            refine ⟨?_, ?_⟩
            · intro wk hk hg hu; have u5 := hu 5 (show 5 ∈ [5] by decide); have r5 : Row wk lo5 181 #[.int .u32 ((d : Nat) : Int)] := u5.2; have how := own_tr ho hk (fun _ _ => id); obtain ⟨v2, w2, hrun, ho2, hgb, -, hw2⟩ := run_append_own_at (P := Try.prog) wk (w1.heap.size) 153 153 181 _ _ 1 4 rfl rfl rfl rfl rfl rfl (by decide) u6 i (dV zs) how ⟨lo5, 0, none⟩ 1 1 [.int .u32 ((d : Nat) : Int)] rfl (by intro j u hj; match j, hj with | 0, hj => (cases hj; exact r5.cell 0)) (by simp [Value.oneCell']) (by simp only [maxLen]; omega) (by omega) (by have h1 := hl.size; have h2 := hk.size; omega); rw [run_append_op rfl rfl rfl hrun]; exact left_P rfl rfl hgb (by rw [dV_snoc]; exact ho2) hw2
            rintro ⟨v6, lo6, hi6⟩ - - hG6
            refine hK _ _ ?_; clear hK K
            -- 7: assign t49
            refine stepKz rfl (fun K hK => ?_); go_simp
            apply Exists.intro; apply And.intro; (focus (intro wk hk; go_simp; exact ⟨rfl, rfl⟩)); refine hK _ _ ?_; clear hK K
            refine stepN ?_
            refine hQ _ _ ?_
            intro w6 hT hG hF
            have hO : w6.ownsRow w1.heap.size 181 1 v6 (i + 1) (dV (zs ++ [d])) := (hF 6 _ rfl rfl (by decide)).2
            have hT2 := hT
            have hl6 : Below w1.heap.size w1 w6 := hl.trans (hT2.below_of hl.size (by intro c hc; have := (ho.lt c hc).1; omega))
            have H := Lib.hid (show _ ∧ _ from ⟨hl6, hO⟩)
            clear hT hT2 hG hF hQ QQ L hO hl6 hl ho hown hG6
            go_wp2_with fail
            go_roundg (gk - 1)
            case measure => omega
            case rel => exact ⟨i + 1, zs ++ [d], 1, by omega, rfl, by go_num, H.out.1, H.out.2, by rw [List.length_append, HH.out.2.2.1]; rfl, dig_snoc HH.out.2.2.2 HH.out.2.1, by omega, HH.out.1⟩
          · have hle : i ≤ n := by omega
            have hiy : ¬ (i : Int) < (m : Int) := by omega
            subst zy
            obtain rfl : s = b := by omega
            have hl2 : ¬ (x : Int) < (s : Int) := by omega
            obtain ⟨d, hd⟩ : ∃ d, d = x - s := ⟨_, rfl⟩
            have a3 : IntKind.u64.wrap ((x : Int) - (s : Int)) = (d : Int) := by rw [IntKind.wrap_u64]; omega
            have a4 : IntKind.u32.wrap (d : Int) = (d : Int) := by rw [IntKind.wrap_u32]; omega
            have hdl : d < B := by simp only [B]; omega
            have hst := minus_step (d := d) (b' := 0) hz hv (by rw [hx, hy]; simp only [B]; omega)
            have HH := Lib.hid (show _ ∧ _ ∧ _ ∧ _ from ⟨hst, hdl, hz, hD⟩)
            clear hst hdl hx hy hd hz hD hv hs hxl hyl
            have HO := Lib.hid ho
            clear ho
            go_upto_region 16 with (fail)
            have ho := HO.out
            refine wp_abs (fun w5 => Below w1.heap.size w1 w5 ∧ w5.ownsRow w1.heap.size 181 1 u6 i (dV zs)) ⟨hl, ho⟩ ?_
            clear hl ho HO cx 
            rintro w5 ⟨hl, ho⟩
            have hown : ∀ b, u6.ownBlock = some b → u6.ownBlock = some b ∧ b < w5.heap.size := fun b hb => ⟨hb, (ho.lt b hb).2⟩
            let L : List Sp := [sL 5 181 [] 1 #[.int .u32 ((d : Nat) : Int)], sP 6 [5] [5] (w1.heap.size) 181 u6 (i + 1) (dV (zs ++ [d]))]
            refine wp_region_six0 (shs L) (look6 L) (fun b => u6.ownBlock = some b) (by kernel_rfl) (by kernel_rfl) (mk_St L [6] [6] (by kernel_rfl) (by kernel_rfl) ⟨ok_L, ok_P hown, trivial⟩ (by simp)) ?_
            intro QQ hQ
            -- 0: t6
            refine stepK rfl (by kernel_rfl) (fun K hK => ?_); go_simp
            apply Exists.intro; apply And.intro; (focus (intro wk hk; go_simp; exact ⟨rfl, rfl⟩)); refine hK _ _ ?_; clear hK K
            -- 1: t10
            refine stepK rfl (by kernel_rfl) (fun K hK => ?_); go_simp
            apply Exists.intro; apply And.intro; (focus (intro wk hk; go_simp; exact ⟨rfl, rfl⟩)); refine hK _ _ ?_; clear hK K
            -- 2: t9
            refine stepK rfl (by kernel_rfl) (fun K hK => ?_); go_simp
            apply Exists.intro; apply And.intro; (focus (intro wk hk; go_simp; exact ⟨rfl, rfl⟩)); refine hK _ _ ?_; clear hK K
            -- 3: sub<29> t44, t45
            refine stepK rfl (by kernel_rfl) (fun K hK => ?_); go_simp
            apply Exists.intro; apply And.intro; (focus (intro wk hk; go_simp; exact ⟨rfl, rfl⟩)); refine hK _ _ ?_; clear hK K
            -- 4: convert<29->181> t46
            refine stepK rfl (by kernel_rfl) (fun K hK => ?_); go_simp
            apply Exists.intro; apply And.intro; (focus (intro wk hk; go_simp; exact ⟨rfl, rfl⟩)); refine hK _ _ ?_; clear hK K
            -- 5: buildSlice<153> len 1 0:t47
            refine stepS _ rfl (by kernel_rfl) (fun K hK => ?_); go_simp
            refine ⟨?_, ?_⟩
            · intro wk hk hg hu; go_simp; exact left_L rfl rfl
            rintro ⟨v5, lo5, hi5⟩ hlo5 hhi5 ⟨e5, f5⟩
            replace e5 : v5 = .slice (some ⟨lo5, 0, none⟩) 1 1 := e5; replace f5 : hi5 = lo5 + 1 := f5; replace hlo5 : _ ≤ lo5 := hlo5; subst e5; subst f5
            refine hK _ _ ?_; clear hK K
            -- 6: call builtin append<153,153>(t43, t48)
            refine stepS _ rfl (by kernel_rfl) (fun K hK => ?_); go_simp
            refine ⟨?_, ?_⟩
            · intro wk hk hg hu; have u5 := hu 5 (show 5 ∈ [5] by decide); have r5 : Row wk lo5 181 #[.int .u32 ((d : Nat) : Int)] := u5.2; have how := own_tr ho hk (fun _ _ => id); obtain ⟨v2, w2, hrun, ho2, hgb, -, hw2⟩ := run_append_own_at (P := Try.prog) wk (w1.heap.size) 153 153 181 _ _ 1 4 rfl rfl rfl rfl rfl rfl (by decide) u6 i (dV zs) how ⟨lo5, 0, none⟩ 1 1 [.int .u32 ((d : Nat) : Int)] rfl (by intro j u hj; match j, hj with | 0, hj => (cases hj; exact r5.cell 0)) (by simp [Value.oneCell']) (by simp only [maxLen]; omega) (by omega) (by have h1 := hl.size; have h2 := hk.size; omega); rw [run_append_op rfl rfl rfl hrun]; exact left_P rfl rfl hgb (by rw [dV_snoc]; exact ho2) hw2
            rintro ⟨v6, lo6, hi6⟩ - - hG6
            refine hK _ _ ?_; clear hK K
            -- 7: assign t49
            refine stepKz rfl (fun K hK => ?_); go_simp
            apply Exists.intro; apply And.intro; (focus (intro wk hk; go_simp; exact ⟨rfl, rfl⟩)); refine hK _ _ ?_; clear hK K
            refine stepN ?_
            refine hQ _ _ ?_
            intro w6 hT hG hF
            have hO : w6.ownsRow w1.heap.size 181 1 v6 (i + 1) (dV (zs ++ [d])) := (hF 6 _ rfl rfl (by decide)).2
            have hT2 := hT
            have hl6 : Below w1.heap.size w1 w6 := hl.trans (hT2.below_of hl.size (by intro c hc; have := (ho.lt c hc).1; omega))
            have H := Lib.hid (show _ ∧ _ from ⟨hl6, hO⟩)
            clear hT hT2 hG hF hQ QQ L hO hl6 hl ho hown hG6
            go_wp2_with fail
            go_roundg (gk - 1)
            case measure => omega
            case rel => exact ⟨i + 1, zs ++ [d], 0, by omega, rfl, by go_num, H.out.1, H.out.2, by rw [List.length_append, HH.out.2.2.1]; rfl, dig_snoc HH.out.2.2.2 HH.out.2.1, by omega, HH.out.1⟩
      · obtain rfl : i = n := by omega
        have hix : ¬ (i : Int) < (i : Int) := by omega
        have hS : Sl wr u6 zs := Sl_own ho hz.symm
        have HB := Lib.hid ho
        have hT := trim_own u6 zs wr hD hS (by omega)
        have e : val zs = val xs - val ys := minus_end (hz.trans hn.symm) hD S.out.1 (by rw [hn]; exact hv) HLE.out
        rw [e] at hT
        have HT := Lib.hid hT
        clear hS hT ho hv e hD hz
        go_wp2_with fail
        refine HT.out.mono ?_
        rintro e w' ⟨rfl, u, rfl, hu, hob⟩
        go_wp2_with fail
        go_ret2
        exact ⟨_, rfl, hu, hl1.trans (hl.mono hl1.size), fun b hb => Nat.le_trans hl1.size (HB.out.lt b (hob ▸ hb)).1⟩
  · have hc0 : cc < 0 := by rw [← hcc]; unfold cmpN; rw [if_pos (by omega)]; omega
    have hsb : subB (val xs) (val ys) = false := decide_eq_false hle
    rw [hsb, show val xs - val ys = 0 by omega, digs_zero]
    clear hsb hcc hle
    go_enter Try.func166, Try.ntmps166
    go_wp2_with fail
    refine HC.out.mono ?_
    rintro e w1 ⟨rfl, hl1⟩
    clear HC
    go_wp2_with fail
    go_ret2
    exact ⟨_, rfl, ⟨none, 0, rfl, Nat.le_refl _, fun _ => rfl, fun a ha => (by cases ha)⟩, hl1, fun b hb => (by cases hb)⟩
end Go.Proofs.Ytpdenhmkpiafiaa
