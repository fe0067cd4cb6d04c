/-
  tallageref01.Plus (163): the sum of two rows of digits.
-/
import Derived.Test.YtpdenhmkpiafiaaRefCmp
namespace Go.Proofs.Ytpdenhmkpiafiaa
open Go Go.RowKit K6 Ref

/-- digits as values -/
def dV (zs : List Nat) : List Value := zs.map fun x => .int .u32 ((x : Nat) : Int)
theorem dV_snoc (zs : List Nat) (r : Nat) : dV (zs ++ [r]) = dV zs ++ [.int .u32 ((r : Nat) : Int)] := by unfold dV; rw [List.map_append]; rfl
namespace Ref
theorem dg_out {xs : List Nat} {i : Nat} (h : xs.length ≤ i) : dg xs i = 0 := by
  unfold dg
  rw [List.getD_eq_getElem?_getD, List.getElem?_eq_none h]; rfl
theorem dg_lt {xs : List Nat} (h : Dig xs) (i : Nat) : dg xs i < B := by
  rcases Nat.lt_or_ge i xs.length with h1 | h1
  · have := dg_some h1
    exact h _ (List.mem_of_getElem? this)
  · rw [dg_out h1]; decide
theorem take_succ (xs : List Nat) (i : Nat) : val (xs.take (i + 1)) = val (xs.take i) + B ^ i * dg xs i := by
  rcases Nat.lt_or_ge i xs.length with h | h
  · rw [List.take_add_one, dg_some h, val_append, List.length_take, Nat.min_eq_left (Nat.le_of_lt h)]
    simp [val]
  · rw [List.take_of_length_le (by omega), List.take_of_length_le h, dg_out h, Nat.mul_zero, Nat.add_zero]
theorem dig_snoc {zs : List Nat} {r : Nat} (h : Dig zs) (hr : r < B) : Dig (zs ++ [r]) := by
  intro x hx
  rcases List.mem_append.1 hx with h1 | h1
  · exact h x h1
  · rw [List.mem_singleton.1 h1]; exact hr
theorem val_snoc (zs : List Nat) (r : Nat) : val (zs ++ [r]) = val zs + B ^ zs.length * r := by
  rw [val_append]; simp [val]
/-- one round of the sum -/
theorem plus_step {zs xs ys : List Nat} {i c : Nat} (hz : zs.length = i) (hv : val zs + B ^ i * c = val (xs.take i) + val (ys.take i)) :
    val (zs ++ [(c + dg xs i + dg ys i) % B]) + B ^ (i + 1) * ((c + dg xs i + dg ys i) / B) = val (xs.take (i + 1)) + val (ys.take (i + 1)) := by
  rw [val_snoc, hz, take_succ, take_succ, Nat.pow_succ]
  have e : B ^ i * ((c + dg xs i + dg ys i) % B) + B ^ i * B * ((c + dg xs i + dg ys i) / B) = B ^ i * (c + dg xs i + dg ys i) := by
    rw [Nat.mul_assoc, ← Nat.mul_add, Nat.mod_add_div]
  rw [Nat.add_assoc, e, Nat.mul_add, Nat.mul_add]
  omega
end Ref

set_option maxRecDepth 100000 in
set_option maxHeartbeats 16000000 in
theorem plus_any (v u : Value) (xs ys : List Nat) (w : World) (hx : Dig xs) (hy : Dig ys) (sv : Sl w v xs) (su : Sl w u ys) (lx : xs.length < 1000000000) (ly : ys.length < 1000000000) :
    Calls Try.prog 163 #[v, u] w fun e w' => ∃ r, e = .returned r ∧ Sl w' r (digs (val xs + val ys)) ∧ Below w.heap.size w w' := by
  obtain ⟨r1, c1, rfl, k1, -, -⟩ := id sv
  obtain ⟨r2, c2, rfl, k2, -, -⟩ := id su
  obtain ⟨n, hn⟩ : ∃ n, xs.length = n := ⟨_, rfl⟩
  obtain ⟨m, hm⟩ : ∃ m, ys.length = m := ⟨_, rfl⟩
  rw [hn] at lx k1 ⊢
  rw [hm] at ly k2 ⊢
  have S := Lib.hid (show _ ∧ _ ∧ _ ∧ _ from ⟨hx, hy, sv, su⟩)
  clear hx hy sv su
  go_enter Try.func163, Try.ntmps163
  go_wp2_with fail
  go_loopg [5, 6, 7] (n + m + 2) (fun gg s5 s6 s7 wr => ∃ (i : Nat) (zs : List Nat) (c : Nat), i + gg = n + m + 2 ∧ s6 = .int .u64 ((c : Nat) : Int) ∧ s7 = .int .i64 ((i : Nat) : Int) ∧ Below w.heap.size w wr ∧ wr.ownsRow w.heap.size 181 1 s5 i (dV zs) ∧ zs.length = i ∧ Dig zs ∧ c ≤ 1 ∧ val zs + B ^ i * c = val (xs.take i) + val (ys.take i) ∧ (i = n + m + 1 → c = 0) ∧ i ≤ n + m + 1)
  case atStart => exact ⟨0, [], 0, by omega, rfl, rfl, Below.refl _ _, by simp [dV, World.ownsRow], rfl, (fun _ h => (by cases h)), by omega, by simp [val], by omega, by omega⟩
  case round =>
    obtain ⟨i, zs, c, hi, rfl, rfl, hl, ho, hz, hD, hc, hv, hK0, hK⟩ := hrel
    by_cases hin : i < n
    · by_cases him : i < m
      · have hle : i ≤ n + m := by omega
        obtain ⟨g, o, rfl⟩ := S.out.2.2.1.addr' (by omega)
        have cx := S.out.2.2.1.cell (i := i) (by omega)
        replace cx := ((bcell hl).1 g (o + i) cx.1).trans cx.2
        have hix : (i : Int) < (n : Int) := by omega
        obtain ⟨g', o', rfl⟩ := S.out.2.2.2.addr' (by omega)
        have cy := S.out.2.2.2.cell (i := i) (by omega)
        replace cy := ((bcell hl).1 g' (o' + i) cy.1).trans cy.2
        have hiy : (i : Int) < (m : Int) := by omega
        have hst := plus_step hz hv
        have hxl := dg_lt S.out.1 i
        have hyl := dg_lt S.out.2.1 i
        obtain ⟨x, hx⟩ : ∃ x, dg xs i = x := ⟨_, rfl⟩
        obtain ⟨y, hy⟩ : ∃ y, dg ys i = y := ⟨_, rfl⟩
        obtain ⟨r, hr⟩ : ∃ r, r = (c + x + y) % B := ⟨_, rfl⟩
        obtain ⟨q, hq⟩ : ∃ q, q = (c + x + y) / B := ⟨_, rfl⟩
        rw [hx, hy, ← hr, ← hq] at hst
        rw [hx] at hxl cx
        rw [hy] at hyl cy
        simp only [B] at hr hq hxl hyl
        have wx : IntKind.u64.wrap ((x : Nat) : Int) = ((x : Nat) : Int) := by rw [IntKind.wrap_u64]; omega
        have wy : IntKind.u64.wrap ((y : Nat) : Int) = ((y : Nat) : Int) := by rw [IntKind.wrap_u64]; omega
        obtain ⟨s, hs⟩ : ∃ s, s = c + x + y := ⟨_, rfl⟩
        obtain ⟨s1, hs1⟩ : ∃ s1, s1 = c + x := ⟨_, rfl⟩
        have a1 : IntKind.u64.wrap ((c : Int) + (x : Int)) = (s1 : Int) := by rw [IntKind.wrap_u64]; omega
        have a2 : IntKind.u64.wrap ((s1 : Int) + (y : Int)) = (s : Int) := by rw [IntKind.wrap_u64]; omega
        have a3 : IntKind.u32.wrap (s : Int) = (r : Int) := by rw [IntKind.wrap_u32]; omega
        have a4 : (s : Int) / 4294967296 = (q : Int) := by omega
        have fin : q ≤ 1 ∧ r < B ∧ (i = n + m → q = 0) := by simp only [B]; omega
        have HH := Lib.hid (show _ ∧ _ ∧ _ ∧ _ ∧ _ from ⟨hst, fin, hz, hD, hv⟩)
        clear hst fin hx hy hr hq hs hs1 hz hD hv hK0 hxl hyl
        have HO := Lib.hid ho
        clear ho
        go_upto_region 11 with (fail)
        have ho := HO.out
        refine wp_abs (fun w5 => Below w.heap.size w w5 ∧ w5.ownsRow w.heap.size 181 1 u5 i (dV zs)) ⟨hl, ho⟩ ?_
        clear hl ho HO cx cy
        rintro w5 ⟨hl, ho⟩
        have hown : ∀ b, u5.ownBlock = some b → u5.ownBlock = some b ∧ b < w5.heap.size := fun b hb => ⟨hb, (ho.lt b hb).2⟩
        let L : List Sp := [sL 3 181 [] 1 #[.int .u32 ((r : Nat) : Int)], sP 4 [3] [3] (w.heap.size) 181 u5 (i + 1) (dV (zs ++ [r]))]
        refine wp_region_six0 (shs L) (look6 L) (fun b => u5.ownBlock = some b) (by kernel_rfl) (by kernel_rfl) (mk_St L [4] [4] (by kernel_rfl) (by kernel_rfl) ⟨ok_L, ok_P hown, trivial⟩ (by simp)) ?_
        intro QQ hQ
        -- 0: t5
        refine stepK rfl (by kernel_rfl) (fun K hK => ?_); go_simp
        apply Exists.intro; apply And.intro; (focus (intro wk hk; go_simp; exact ⟨rfl, rfl⟩)); refine hK _ _ ?_; clear hK K
        -- 1: t8
        refine stepK rfl (by kernel_rfl) (fun K hK => ?_); go_simp
        apply Exists.intro; apply And.intro; (focus (intro wk hk; go_simp; exact ⟨rfl, rfl⟩)); refine hK _ _ ?_; clear hK K
        -- 2: convert<29->181> t49
        refine stepK rfl (by kernel_rfl) (fun K hK => ?_); go_simp
        apply Exists.intro; apply And.intro; (focus (intro wk hk; go_simp; exact ⟨rfl, rfl⟩)); refine hK _ _ ?_; clear hK K
        -- 3: buildSlice<153> len 1 0:t50
        refine stepS _ rfl (by kernel_rfl) (fun K hK => ?_); go_simp
        refine ⟨?_, ?_⟩
        · intro wk hk hg hu; go_simp; exact left_L rfl rfl
        rintro ⟨v3, lo3, hi3⟩ hlo3 hhi3 ⟨e3, f3⟩
        replace e3 : v3 = .slice (some ⟨lo3, 0, none⟩) 1 1 := e3; replace f3 : hi3 = lo3 + 1 := f3; replace hlo3 : _ ≤ lo3 := hlo3; subst e3; subst f3
        refine hK _ _ ?_; clear hK K
        -- 4: call builtin append<153,153>(t48, t51)
        refine stepS _ rfl (by kernel_rfl) (fun K hK => ?_); go_simp
        refine ⟨?_, ?_⟩
        · intro wk hk hg hu; have u3 := hu 3 (show 3 ∈ [3] by decide); have r3 : Row wk lo3 181 #[.int .u32 ((r : Nat) : Int)] := u3.2; have how := own_tr ho hk (fun _ _ => id); obtain ⟨v2, w2, hrun, ho2, hgb, -, hw2⟩ := run_append_own_at (P := Try.prog) wk (w.heap.size) 153 153 181 _ _ 1 4 rfl rfl rfl rfl rfl rfl (by decide) u5 i (dV zs) how ⟨lo3, 0, none⟩ 1 1 [.int .u32 ((r : Nat) : Int)] rfl (by intro j u hj; match j, hj with | 0, hj => (cases hj; exact r3.cell 0)) (by simp [Value.oneCell']) (by simp only [maxLen]; omega) (by omega) (by have h1 := hl.size; have h2 := hk.size; omega); rw [run_append_op rfl rfl rfl hrun]; exact left_P rfl rfl hgb (by rw [dV_snoc]; exact ho2) hw2
        rintro ⟨v4, lo4, hi4⟩ - - hG4
        refine hK _ _ ?_; clear hK K
        -- 5: assign t52
        refine stepKz rfl (fun K hK => ?_); go_simp
        apply Exists.intro; apply And.intro; (focus (intro wk hk; go_simp; exact ⟨rfl, rfl⟩)); refine hK _ _ ?_; clear hK K
        refine stepN ?_
        refine hQ _ _ ?_
        intro w6 hT hG hF
        have hO : w6.ownsRow w.heap.size 181 1 v4 (i + 1) (dV (zs ++ [r])) := (hF 4 _ rfl rfl (by decide)).2
        have hT2 := hT
        have hl6 : Below w.heap.size w w6 := hl.trans (hT2.below_of hl.size (by intro c hc; have := (ho.lt c hc).1; omega))
        have H := Lib.hid (show _ ∧ _ from ⟨hl6, hO⟩)
        clear hT hT2 hG hF hQ QQ L hO hl6 hl ho hown hG4
        go_wp2_with fail
        go_roundg (gk - 1)
        case measure => omega
        case rel => exact ⟨i + 1, zs ++ [r], q, by omega, rfl, by go_num, H.out.1, H.out.2, by rw [List.length_append, HH.out.2.2.1]; rfl, dig_snoc HH.out.2.2.2.1 HH.out.2.1.2.1, HH.out.2.1.1, HH.out.1, fun h => HH.out.2.1.2.2 (by omega), by omega⟩
      · have hle : i ≤ n + m := by omega
        obtain ⟨g, o, rfl⟩ := S.out.2.2.1.addr' (by omega)
        have cx := S.out.2.2.1.cell (i := i) (by omega)
        replace cx := ((bcell hl).1 g (o + i) cx.1).trans cx.2
        have hix : (i : Int) < (n : Int) := by omega
        have hiy : ¬ (i : Int) < (m : Int) := by omega
        have zy := dg_out (xs := ys) (i := i) (by omega)
        have hst := plus_step hz hv
        have hxl := dg_lt S.out.1 i
        have hyl := dg_lt S.out.2.1 i
        obtain ⟨x, hx⟩ : ∃ x, dg xs i = x := ⟨_, rfl⟩
        obtain ⟨y, hy⟩ : ∃ y, dg ys i = y := ⟨_, rfl⟩
        obtain ⟨r, hr⟩ : ∃ r, r = (c + x + y) % B := ⟨_, rfl⟩
        obtain ⟨q, hq⟩ : ∃ q, q = (c + x + y) / B := ⟨_, rfl⟩
        rw [hx, hy, ← hr, ← hq] at hst
        rw [hx] at hxl cx
        rw [hy] at hyl zy
        simp only [B] at hr hq hxl hyl
        subst zy
        have wx : IntKind.u64.wrap ((x : Nat) : Int) = ((x : Nat) : Int) := by rw [IntKind.wrap_u64]; omega
        obtain ⟨s, hs⟩ : ∃ s, s = c + x + 0 := ⟨_, rfl⟩
        have a1 : IntKind.u64.wrap ((c : Int) + (x : Int)) = (s : Int) := by rw [IntKind.wrap_u64]; omega
        have a3 : IntKind.u32.wrap (s : Int) = (r : Int) := by rw [IntKind.wrap_u32]; omega
        have a4 : (s : Int) / 4294967296 = (q : Int) := by omega
        have fin : q ≤ 1 ∧ r < B ∧ (i = n + m → q = 0) := by simp only [B]; omega
        have HH := Lib.hid (show _ ∧ _ ∧ _ ∧ _ ∧ _ from ⟨hst, fin, hz, hD, hv⟩)
        clear hst fin hx hy hr hq hs hz hD hv hK0 hxl 
        have HO := Lib.hid ho
        clear ho
        go_upto_region 11 with (fail)
        have ho := HO.out
        refine wp_abs (fun w5 => Below w.heap.size w w5 ∧ w5.ownsRow w.heap.size 181 1 u5 i (dV zs)) ⟨hl, ho⟩ ?_
        clear hl ho HO cx 
        rintro w5 ⟨hl, ho⟩
        have hown : ∀ b, u5.ownBlock = some b → u5.ownBlock = some b ∧ b < w5.heap.size := fun b hb => ⟨hb, (ho.lt b hb).2⟩
        let L : List Sp := [sL 3 181 [] 1 #[.int .u32 ((r : Nat) : Int)], sP 4 [3] [3] (w.heap.size) 181 u5 (i + 1) (dV (zs ++ [r]))]
        refine wp_region_six0 (shs L) (look6 L) (fun b => u5.ownBlock = some b) (by kernel_rfl) (by kernel_rfl) (mk_St L [4] [4] (by kernel_rfl) (by kernel_rfl) ⟨ok_L, ok_P hown, trivial⟩ (by simp)) ?_
        intro QQ hQ
        -- 0: t5
        refine stepK rfl (by kernel_rfl) (fun K hK => ?_); go_simp
        apply Exists.intro; apply And.intro; (focus (intro wk hk; go_simp; exact ⟨rfl, rfl⟩)); refine hK _ _ ?_; clear hK K
        -- 1: t8
        refine stepK rfl (by kernel_rfl) (fun K hK => ?_); go_simp
        apply Exists.intro; apply And.intro; (focus (intro wk hk; go_simp; exact ⟨rfl, rfl⟩)); refine hK _ _ ?_; clear hK K
        -- 2: convert<29->181> t49
        refine stepK rfl (by kernel_rfl) (fun K hK => ?_); go_simp
        apply Exists.intro; apply And.intro; (focus (intro wk hk; go_simp; exact ⟨rfl, rfl⟩)); refine hK _ _ ?_; clear hK K
        -- 3: buildSlice<153> len 1 0:t50
        refine stepS _ rfl (by kernel_rfl) (fun K hK => ?_); go_simp
        refine ⟨?_, ?_⟩
        · intro wk hk hg hu; go_simp; exact left_L rfl rfl
        rintro ⟨v3, lo3, hi3⟩ hlo3 hhi3 ⟨e3, f3⟩
        replace e3 : v3 = .slice (some ⟨lo3, 0, none⟩) 1 1 := e3; replace f3 : hi3 = lo3 + 1 := f3; replace hlo3 : _ ≤ lo3 := hlo3; subst e3; subst f3
        refine hK _ _ ?_; clear hK K
        -- 4: call builtin append<153,153>(t48, t51)
        refine stepS _ rfl (by kernel_rfl) (fun K hK => ?_); go_simp
        refine ⟨?_, ?_⟩
        · intro wk hk hg hu; have u3 := hu 3 (show 3 ∈ [3] by decide); have r3 : Row wk lo3 181 #[.int .u32 ((r : Nat) : Int)] := u3.2; have how := own_tr ho hk (fun _ _ => id); obtain ⟨v2, w2, hrun, ho2, hgb, -, hw2⟩ := run_append_own_at (P := Try.prog) wk (w.heap.size) 153 153 181 _ _ 1 4 rfl rfl rfl rfl rfl rfl (by decide) u5 i (dV zs) how ⟨lo3, 0, none⟩ 1 1 [.int .u32 ((r : Nat) : Int)] rfl (by intro j u hj; match j, hj with | 0, hj => (cases hj; exact r3.cell 0)) (by simp [Value.oneCell']) (by simp only [maxLen]; omega) (by omega) (by have h1 := hl.size; have h2 := hk.size; omega); rw [run_append_op rfl rfl rfl hrun]; exact left_P rfl rfl hgb (by rw [dV_snoc]; exact ho2) hw2
        rintro ⟨v4, lo4, hi4⟩ - - hG4
        refine hK _ _ ?_; clear hK K
        -- 5: assign t52
        refine stepKz rfl (fun K hK => ?_); go_simp
        apply Exists.intro; apply And.intro; (focus (intro wk hk; go_simp; exact ⟨rfl, rfl⟩)); refine hK _ _ ?_; clear hK K
        refine stepN ?_
        refine hQ _ _ ?_
        intro w6 hT hG hF
        have hO : w6.ownsRow w.heap.size 181 1 v4 (i + 1) (dV (zs ++ [r])) := (hF 4 _ rfl rfl (by decide)).2
        have hT2 := hT
        have hl6 : Below w.heap.size w w6 := hl.trans (hT2.below_of hl.size (by intro c hc; have := (ho.lt c hc).1; omega))
        have H := Lib.hid (show _ ∧ _ from ⟨hl6, hO⟩)
        clear hT hT2 hG hF hQ QQ L hO hl6 hl ho hown hG4
        go_wp2_with fail
        go_roundg (gk - 1)
        case measure => omega
        case rel => exact ⟨i + 1, zs ++ [r], q, by omega, rfl, by go_num, H.out.1, H.out.2, by rw [List.length_append, HH.out.2.2.1]; rfl, dig_snoc HH.out.2.2.2.1 HH.out.2.1.2.1, HH.out.2.1.1, HH.out.1, fun h => HH.out.2.1.2.2 (by omega), by omega⟩
    · by_cases him : i < m
      · have hle : i ≤ n + m := by omega
        have hix : ¬ (i : Int) < (n : Int) := by omega
        have zx := dg_out (xs := xs) (i := i) (by omega)
        obtain ⟨g', o', rfl⟩ := S.out.2.2.2.addr' (by omega)
        have cy := S.out.2.2.2.cell (i := i) (by omega)
        replace cy := ((bcell hl).1 g' (o' + i) cy.1).trans cy.2
        have hiy : (i : Int) < (m : Int) := by omega
        have hst := plus_step hz hv
        have hxl := dg_lt S.out.1 i
        have hyl := dg_lt S.out.2.1 i
        obtain ⟨x, hx⟩ : ∃ x, dg xs i = x := ⟨_, rfl⟩
        obtain ⟨y, hy⟩ : ∃ y, dg ys i = y := ⟨_, rfl⟩
        obtain ⟨r, hr⟩ : ∃ r, r = (c + x + y) % B := ⟨_, rfl⟩
        obtain ⟨q, hq⟩ : ∃ q, q = (c + x + y) / B := ⟨_, rfl⟩
        rw [hx, hy, ← hr, ← hq] at hst
        rw [hx] at hxl zx
        rw [hy] at hyl cy
        simp only [B] at hr hq hxl hyl
        subst zx
        have wy : IntKind.u64.wrap ((y : Nat) : Int) = ((y : Nat) : Int) := by rw [IntKind.wrap_u64]; omega
        obtain ⟨s, hs⟩ : ∃ s, s = c + 0 + y := ⟨_, rfl⟩
        have a1 : IntKind.u64.wrap ((c : Int) + (y : Int)) = (s : Int) := by rw [IntKind.wrap_u64]; omega
        have a3 : IntKind.u32.wrap (s : Int) = (r : Int) := by rw [IntKind.wrap_u32]; omega
        have a4 : (s : Int) / 4294967296 = (q : Int) := by omega
        have fin : q ≤ 1 ∧ r < B ∧ (i = n + m → q = 0) := by simp only [B]; omega
        have HH := Lib.hid (show _ ∧ _ ∧ _ ∧ _ ∧ _ from ⟨hst, fin, hz, hD, hv⟩)
        clear hst fin hx hy hr hq hs hz hD hv hK0  hyl
        have HO := Lib.hid ho
        clear ho
        go_upto_region 11 with (fail)
        have ho := HO.out
        refine wp_abs (fun w5 => Below w.heap.size w w5 ∧ w5.ownsRow w.heap.size 181 1 u5 i (dV zs)) ⟨hl, ho⟩ ?_
        clear hl ho HO  cy
        rintro w5 ⟨hl, ho⟩
        have hown : ∀ b, u5.ownBlock = some b → u5.ownBlock = some b ∧ b < w5.heap.size := fun b hb => ⟨hb, (ho.lt b hb).2⟩
        let L : List Sp := [sL 3 181 [] 1 #[.int .u32 ((r : Nat) : Int)], sP 4 [3] [3] (w.heap.size) 181 u5 (i + 1) (dV (zs ++ [r]))]
        refine wp_region_six0 (shs L) (look6 L) (fun b => u5.ownBlock = some b) (by kernel_rfl) (by kernel_rfl) (mk_St L [4] [4] (by kernel_rfl) (by kernel_rfl) ⟨ok_L, ok_P hown, trivial⟩ (by simp)) ?_
        intro QQ hQ
        -- 0: t5
        refine stepK rfl (by kernel_rfl) (fun K hK => ?_); go_simp
        apply Exists.intro; apply And.intro; (focus (intro wk hk; go_simp; exact ⟨rfl, rfl⟩)); refine hK _ _ ?_; clear hK K
        -- 1: t8
        refine stepK rfl (by kernel_rfl) (fun K hK => ?_); go_simp
        apply Exists.intro; apply And.intro; (focus (intro wk hk; go_simp; exact ⟨rfl, rfl⟩)); refine hK _ _ ?_; clear hK K
        -- 2: convert<29->181> t49
        refine stepK rfl (by kernel_rfl) (fun K hK => ?_); go_simp
        apply Exists.intro; apply And.intro; (focus (intro wk hk; go_simp; exact ⟨rfl, rfl⟩)); refine hK _ _ ?_; clear hK K
        -- 3: buildSlice<153> len 1 0:t50
        refine stepS _ rfl (by kernel_rfl) (fun K hK => ?_); go_simp
        refine ⟨?_, ?_⟩
        · intro wk hk hg hu; go_simp; exact left_L rfl rfl
        rintro ⟨v3, lo3, hi3⟩ hlo3 hhi3 ⟨e3, f3⟩
        replace e3 : v3 = .slice (some ⟨lo3, 0, none⟩) 1 1 := e3; replace f3 : hi3 = lo3 + 1 := f3; replace hlo3 : _ ≤ lo3 := hlo3; subst e3; subst f3
        refine hK _ _ ?_; clear hK K
        -- 4: call builtin append<153,153>(t48, t51)
        refine stepS _ rfl (by kernel_rfl) (fun K hK => ?_); go_simp
        refine ⟨?_, ?_⟩
        · intro wk hk hg hu; have u3 := hu 3 (show 3 ∈ [3] by decide); have r3 : Row wk lo3 181 #[.int .u32 ((r : Nat) : Int)] := u3.2; have how := own_tr ho hk (fun _ _ => id); obtain ⟨v2, w2, hrun, ho2, hgb, -, hw2⟩ := run_append_own_at (P := Try.prog) wk (w.heap.size) 153 153 181 _ _ 1 4 rfl rfl rfl rfl rfl rfl (by decide) u5 i (dV zs) how ⟨lo3, 0, none⟩ 1 1 [.int .u32 ((r : Nat) : Int)] rfl (by intro j u hj; match j, hj with | 0, hj => (cases hj; exact r3.cell 0)) (by simp [Value.oneCell']) (by simp only [maxLen]; omega) (by omega) (by have h1 := hl.size; have h2 := hk.size; omega); rw [run_append_op rfl rfl rfl hrun]; exact left_P rfl rfl hgb (by rw [dV_snoc]; exact ho2) hw2
        rintro ⟨v4, lo4, hi4⟩ - - hG4
        refine hK _ _ ?_; clear hK K
        -- 5: assign t52
        refine stepKz rfl (fun K hK => ?_); go_simp
        apply Exists.intro; apply And.intro; (focus (intro wk hk; go_simp; exact ⟨rfl, rfl⟩)); refine hK _ _ ?_; clear hK K
        refine stepN ?_
        refine hQ _ _ ?_
        intro w6 hT hG hF
        have hO : w6.ownsRow w.heap.size 181 1 v4 (i + 1) (dV (zs ++ [r])) := (hF 4 _ rfl rfl (by decide)).2
        have hT2 := hT
        have hl6 : Below w.heap.size w w6 := hl.trans (hT2.below_of hl.size (by intro c hc; have := (ho.lt c hc).1; omega))
        have H := Lib.hid (show _ ∧ _ from ⟨hl6, hO⟩)
        clear hT hT2 hG hF hQ QQ L hO hl6 hl ho hown hG4
        go_wp2_with fail
        go_roundg (gk - 1)
        case measure => omega
        case rel => exact ⟨i + 1, zs ++ [r], q, by omega, rfl, by go_num, H.out.1, H.out.2, by rw [List.length_append, HH.out.2.2.1]; rfl, dig_snoc HH.out.2.2.2.1 HH.out.2.1.2.1, HH.out.2.1.1, HH.out.1, fun h => HH.out.2.1.2.2 (by omega), by omega⟩
      · by_cases hc0 : c = 0
        · subst hc0
          have hix : ¬ (i : Int) < (n : Int) := by omega
          have hiy : ¬ (i : Int) < (m : Int) := by omega
          have hS : Sl wr u5 zs := Sl_own ho hz.symm
          have hT := trim_any u5 zs wr hD hS (by omega)
          have e : val zs = val xs + val ys := by
            rw [Nat.mul_zero, Nat.add_zero, List.take_of_length_le (by omega), List.take_of_length_le (by omega)] at hv
            exact hv
          rw [e] at hT
          have HT := Lib.hid hT
          clear hS hT ho hv e hD hz
          go_wp2_with fail
          refine HT.out.mono ?_
          rintro e w' ⟨rfl, u, rfl, hu⟩
          go_wp2_with fail
          go_ret
          exact ⟨_, rfl, hu, hl⟩
        · have hle : i ≤ n + m := by omega
          have hix : ¬ (i : Int) < (n : Int) := by omega
          have zx := dg_out (xs := xs) (i := i) (by omega)
          have hiy : ¬ (i : Int) < (m : Int) := by omega
          have zy := dg_out (xs := ys) (i := i) (by omega)
          have hcp : (0 : Int) < (c : Int) := by omega
          have hst := plus_step hz hv
          have hxl := dg_lt S.out.1 i
          have hyl := dg_lt S.out.2.1 i
          obtain ⟨x, hx⟩ : ∃ x, dg xs i = x := ⟨_, rfl⟩
          obtain ⟨y, hy⟩ : ∃ y, dg ys i = y := ⟨_, rfl⟩
          obtain ⟨r, hr⟩ : ∃ r, r = (c + x + y) % B := ⟨_, rfl⟩
          obtain ⟨q, hq⟩ : ∃ q, q = (c + x + y) / B := ⟨_, rfl⟩
          rw [hx, hy, ← hr, ← hq] at hst
          rw [hx] at hxl zx
          rw [hy] at hyl zy
          simp only [B] at hr hq hxl hyl
          subst zx
          subst zy
          obtain ⟨s, hs⟩ : ∃ s, s = c + 0 + 0 := ⟨_, rfl⟩
          obtain rfl : s = c := by omega
          have a3 : IntKind.u32.wrap (s : Int) = (r : Int) := by rw [IntKind.wrap_u32]; omega
          have a4 : (s : Int) / 4294967296 = (q : Int) := by omega
          have fin : q ≤ 1 ∧ r < B ∧ (i = n + m → q = 0) := by simp only [B]; omega
          have HH := Lib.hid (show _ ∧ _ ∧ _ ∧ _ ∧ _ from ⟨hst, fin, hz, hD, hv⟩)
          clear hst fin hx hy hr hq hs hz hD hv hK0  
          have HO := Lib.hid ho
          clear ho
          go_upto_region 11 with (fail)
          have ho := HO.out
          refine wp_abs (fun w5 => Below w.heap.size w w5 ∧ w5.ownsRow w.heap.size 181 1 u5 i (dV zs)) ⟨hl, ho⟩ ?_
          clear hl ho HO  
          rintro w5 ⟨hl, ho⟩
          have hown : ∀ b, u5.ownBlock = some b → u5.ownBlock = some b ∧ b < w5.heap.size := fun b hb => ⟨hb, (ho.lt b hb).2⟩
          let L : List Sp := [sL 3 181 [] 1 #[.int .u32 ((r : Nat) : Int)], sP 4 [3] [3] (w.heap.size) 181 u5 (i + 1) (dV (zs ++ [r]))]
          refine wp_region_six0 (shs L) (look6 L) (fun b => u5.ownBlock = some b) (by kernel_rfl) (by kernel_rfl) (mk_St L [4] [4] (by kernel_rfl) (by kernel_rfl) ⟨ok_L, ok_P hown, trivial⟩ (by simp)) ?_
          intro QQ hQ
          -- 0: t5
          refine stepK rfl (by kernel_rfl) (fun K hK => ?_); go_simp
          apply Exists.intro; apply And.intro; (focus (intro wk hk; go_simp; exact ⟨rfl, rfl⟩)); refine hK _ _ ?_; clear hK K
          -- 1: t8
          refine stepK rfl (by kernel_rfl) (fun K hK => ?_); go_simp
          apply Exists.intro; apply And.intro; (focus (intro wk hk; go_simp; exact ⟨rfl, rfl⟩)); refine hK _ _ ?_; clear hK K
          -- 2: convert<29->181> t49
          refine stepK rfl (by kernel_rfl) (fun K hK => ?_); go_simp
          apply Exists.intro; apply And.intro; (focus (intro wk hk; go_simp; exact ⟨rfl, rfl⟩)); refine hK _ _ ?_; clear hK K
          -- 3: buildSlice<153> len 1 0:t50
          refine stepS _ rfl (by kernel_rfl) (fun K hK => ?_); go_simp
          refine ⟨?_, ?_⟩
          · intro wk hk hg hu; go_simp; exact left_L rfl rfl
          rintro ⟨v3, lo3, hi3⟩ hlo3 hhi3 ⟨e3, f3⟩
          replace e3 : v3 = .slice (some ⟨lo3, 0, none⟩) 1 1 := e3; replace f3 : hi3 = lo3 + 1 := f3; replace hlo3 : _ ≤ lo3 := hlo3; subst e3; subst f3
          refine hK _ _ ?_; clear hK K
          -- 4: call builtin append<153,153>(t48, t51)
          refine stepS _ rfl (by kernel_rfl) (fun K hK => ?_); go_simp
          refine ⟨?_, ?_⟩
          · intro wk hk hg hu; have u3 := hu 3 (show 3 ∈ [3] by decide); have r3 : Row wk lo3 181 #[.int .u32 ((r : Nat) : Int)] := u3.2; have how := own_tr ho hk (fun _ _ => id); obtain ⟨v2, w2, hrun, ho2, hgb, -, hw2⟩ := run_append_own_at (P := Try.prog) wk (w.heap.size) 153 153 181 _ _ 1 4 rfl rfl rfl rfl rfl rfl (by decide) u5 i (dV zs) how ⟨lo3, 0, none⟩ 1 1 [.int .u32 ((r : Nat) : Int)] rfl (by intro j u hj; match j, hj with | 0, hj => (cases hj; exact r3.cell 0)) (by simp [Value.oneCell']) (by simp only [maxLen]; omega) (by omega) (by have h1 := hl.size; have h2 := hk.size; omega); rw [run_append_op rfl rfl rfl hrun]; exact left_P rfl rfl hgb (by rw [dV_snoc]; exact ho2) hw2
          rintro ⟨v4, lo4, hi4⟩ - - hG4
          refine hK _ _ ?_; clear hK K
          -- 5: assign t52
          refine stepKz rfl (fun K hK => ?_); go_simp
          apply Exists.intro; apply And.intro; (focus (intro wk hk; go_simp; exact ⟨rfl, rfl⟩)); refine hK _ _ ?_; clear hK K
          refine stepN ?_
          refine hQ _ _ ?_
          intro w6 hT hG hF
          have hO : w6.ownsRow w.heap.size 181 1 v4 (i + 1) (dV (zs ++ [r])) := (hF 4 _ rfl rfl (by decide)).2
          have hT2 := hT
          have hl6 : Below w.heap.size w w6 := hl.trans (hT2.below_of hl.size (by intro c hc; have := (ho.lt c hc).1; omega))
          have H := Lib.hid (show _ ∧ _ from ⟨hl6, hO⟩)
          clear hT hT2 hG hF hQ QQ L hO hl6 hl ho hown hG4
          go_wp2_with fail
          go_roundg (gk - 1)
          case measure => omega
          case rel => exact ⟨i + 1, zs ++ [r], q, by omega, rfl, by go_num, H.out.1, H.out.2, by rw [List.length_append, HH.out.2.2.1]; rfl, dig_snoc HH.out.2.2.2.1 HH.out.2.1.2.1, HH.out.2.1.1, HH.out.1, fun h => HH.out.2.1.2.2 (by omega), by omega⟩
end Go.Proofs.Ytpdenhmkpiafiaa
