/-
  tallageref01.NatCmp (173), Cmp (57): how two rows of digits stand.
-/
import Derived.Test.YtpdenhmkpiafiaaRefOf
namespace Go.Proofs.Ytpdenhmkpiafiaa
open Go Go.RowKit K6 Ref

namespace Ref
theorem len_lt {a b : Nat} (h : (digs a).length < (digs b).length) : a < b := by
  have h1 : a < B ^ (digs a).length := by
    have := val_lt (dig_digs a)
    rwa [val_digs] at this
  refine Nat.lt_of_not_le fun h2 => ?_
  have := digs_len (Nat.lt_of_le_of_lt h2 h1)
  omega
theorem val_split {xs : List Nat} {j : Nat} (h : j < xs.length) : val xs = val (xs.take j) + B ^ j * (dg xs j + B * val (xs.drop (j + 1))) := by
  conv => lhs; rw [← List.take_append_drop j xs, List.drop_eq_getElem_cons h]
  rw [val_append, List.length_take, Nat.min_eq_left (Nat.le_of_lt h)]
  congr 2
  show xs[j] + _ = _
  congr 1
  have := dg_some h
  rw [List.getElem?_eq_getElem h] at this
  exact Option.some.inj this
theorem take_lt {xs : List Nat} (h : Dig xs) (j : Nat) (hj : j ≤ xs.length) : val (xs.take j) < B ^ j := by
  have := val_lt (xs := xs.take j) (fun x hx => h x (List.mem_of_mem_take hx))
  rwa [List.length_take, Nat.min_eq_left hj] at this
/-- the first digit from above that differs decides -/
theorem dig_lt {xs ys : List Nat} {j : Nat} (hx : Dig xs) (hjx : j < xs.length) (hjy : j < ys.length) (hd : xs.drop (j + 1) = ys.drop (j + 1)) (hl : dg xs j < dg ys j) : val xs < val ys := by
  rw [val_split hjx, val_split hjy, hd]
  have h1 := take_lt hx j (Nat.le_of_lt hjx)
  have h2 : B ^ j * (dg xs j + B * val (ys.drop (j + 1)) + 1) ≤ B ^ j * (dg ys j + B * val (ys.drop (j + 1))) := Nat.mul_le_mul_left _ (by omega)
  rw [Nat.mul_add, Nat.mul_one] at h2
  omega
theorem drop_step {xs ys : List Nat} {j : Nat} (hjx : j < xs.length) (hjy : j < ys.length) (hd : xs.drop (j + 1) = ys.drop (j + 1)) (he : dg xs j = dg ys j) : xs.drop j = ys.drop j := by
  have h1 := dg_some hjx
  have h2 := dg_some hjy
  rw [List.getElem?_eq_getElem hjx] at h1
  rw [List.getElem?_eq_getElem hjy] at h2
  rw [List.drop_eq_getElem_cons hjx, List.drop_eq_getElem_cons hjy, hd, Option.some.inj h1, Option.some.inj h2, he]
end Ref

theorem Sl.cell {w : World} {g o n c : Nat} {xs : List Nat} (h : Sl w (.slice (some ⟨g, o, none⟩) n c) xs) {i : Nat} (hi : i < xs.length) : g < w.heap.size ∧ w.cell? ⟨g, o + i, none⟩ = some (.int .u32 ((dg xs i : Nat) : Int)) := by
  obtain ⟨r, c', e, hc, h0, h1⟩ := h
  cases e
  obtain ⟨g', o', e', hg, hi'⟩ := h1 _ rfl
  cases e'
  exact ⟨hg, hi' i hi⟩
theorem Sl.addr {w : World} {v : Value} {xs : List Nat} (h : Sl w v xs) (h0 : 0 < xs.length) : ∃ g o c, v = .slice (some ⟨g, o, none⟩) xs.length c := by
  obtain ⟨r, c, rfl, hc, hr, h1⟩ := h
  cases r with
  | none => exfalso; have := hr rfl; omega
  | some a => obtain ⟨g, o, rfl, _⟩ := h1 a rfl; exact ⟨g, o, c, rfl⟩
theorem Sl.addr' {w : World} {r : Option Addr} {n c : Nat} {xs : List Nat} (h : Sl w (.slice r n c) xs) (h0 : 0 < xs.length) : ∃ g o, r = some ⟨g, o, none⟩ := by
  obtain ⟨g, o, c', e⟩ := h.addr h0
  exact ⟨g, o, by cases e; rfl⟩

set_option maxRecDepth 100000 in
set_option maxHeartbeats 4000000 in
theorem natcmp_any (v u : Value) (xs ys : List Nat) (w : World) (hx : Dig xs) (hy : Dig ys) (sv : Sl w v xs) (su : Sl w u ys) (lx : xs.length < 1099511627776) (ly : ys.length < 1099511627776) :
    Calls Try.prog 173 #[v, u] w fun e w' => e = .returned (.int .i64 (cmpN (val xs) (val ys))) ∧ Below w.heap.size w w' := by
  have lp : (digs (val xs)).length < 1099511627776 := Nat.lt_of_le_of_lt (digs_len (val_lt hx)) lx
  have lq : (digs (val ys)).length < 1099511627776 := Nat.lt_of_le_of_lt (digs_len (val_lt hy)) ly
  have HT := trim_any v xs w hx sv lx
  have HU := trim_any u ys w hy su ly
  clear sv su lx ly hx hy
  obtain ⟨a, ha⟩ : ∃ a, a = val xs := ⟨_, rfl⟩
  obtain ⟨b, hb⟩ : ∃ b, b = val ys := ⟨_, rfl⟩
  rw [← ha] at HT lp ⊢
  rw [← hb] at HU lq ⊢
  clear ha hb
  replace HT := Lib.hid HT
  replace HU := Lib.hid HU
  go_enter Try.func173, Try.ntmps173
  go_wp2_with fail
  refine HT.out.mono ?_
  rintro e w1 ⟨rfl, v1, rfl, s1⟩
  go_wp2_with fail
  refine HU.out.mono ?_
  rintro e w2 ⟨rfl, u1, rfl, s2⟩
  clear HT HU
  obtain ⟨r1, c1, e1, k1, -, -⟩ := id s1
  obtain ⟨r2, c2, e2, k2, -, -⟩ := id s2
  have dx := dig_digs a
  have dy := dig_digs b
  have va := val_digs a
  have vb := val_digs b
  have lt1 := @len_lt a b
  have lt2 := @len_lt b a
  generalize digs a = p at *
  generalize digs b = q at *
  subst e1
  subst e2
  obtain ⟨n, hn⟩ : ∃ n, p.length = n := ⟨_, rfl⟩
  obtain ⟨m, hm⟩ : ∃ m, q.length = m := ⟨_, rfl⟩
  rw [hn] at s1 lp k1 lt1 lt2 ⊢
  rw [hm] at s2 lq k2 lt1 lt2 ⊢
  by_cases hl1 : n < m
  · have hv : cmpN a b = -1 := by unfold cmpN; rw [if_pos (lt1 hl1)]
    replace hv := Lib.hid hv
    have g1 : ((n : Int) != (m : Int)) = true := by simp; omega
    have g2 : ((n : Int) < (m : Int)) := by omega
    clear va vb dx dy lt1 lt2 s1 s2
    go_wp2_with fail
    go_ret
    exact ⟨by rw [hv.out]; rfl, Below.refl _ _⟩
  by_cases hl2 : m < n
  · have hv : cmpN a b = 1 := by have := lt2 hl2; unfold cmpN; rw [if_neg (by omega), if_pos this]
    replace hv := Lib.hid hv
    have g1 : ((n : Int) != (m : Int)) = true := by simp; omega
    have g2 : ¬ ((n : Int) < (m : Int)) := by omega
    clear va vb dx dy lt1 lt2 s1 s2
    go_wp2_with fail
    go_ret
    exact ⟨by rw [hv.out]; rfl, Below.refl _ _⟩
  obtain rfl : m = n := by omega
  have S := Lib.hid (show _ ∧ _ ∧ _ ∧ _ ∧ _ ∧ _ from ⟨dx, dy, va, vb, s1, s2⟩)
  clear dx dy va vb s1 s2 lt1 lt2
  go_wp2_with fail
  go_loopg [5] m (fun gg s5 wr => gg ≤ m ∧ s5 = .int .i64 ((gg : Int) - 1) ∧ Below w2.heap.size w2 wr ∧ p.drop gg = q.drop gg)
  case atStart => exact ⟨Nat.le_refl _, rfl, Below.refl _ _, by rw [List.drop_eq_nil_of_le (by omega), List.drop_eq_nil_of_le (by omega)]⟩
  case round =>
    obtain ⟨hk, rfl, hl, hd⟩ := hrel
    rcases Nat.eq_zero_or_pos gk with h0 | h0
    · subst h0
      have hv : cmpN a b = 0 := by
        have e : p = q := by simpa using hd
        have : a = b := by rw [← S.out.2.2.1, ← S.out.2.2.2.1, e]
        unfold cmpN; rw [if_neg (by omega), if_neg (by omega)]
      replace hv := Lib.hid hv
      clear hd
      go_wp2_with fail
      go_ret
      exact ⟨by rw [hv.out]; rfl, hl⟩
    · obtain ⟨g, o, rfl⟩ := S.out.2.2.2.2.1.addr' (by omega)
      obtain ⟨g', o', rfl⟩ := S.out.2.2.2.2.2.addr' (by omega)
      obtain ⟨j, rfl⟩ : ∃ j, gk = j + 1 := ⟨gk - 1, by omega⟩
      have c1j := S.out.2.2.2.2.1.cell (i := j) (by omega)
      have c2j := S.out.2.2.2.2.2.cell (i := j) (by omega)
      have e1 : ((j : Int) + 1) - 1 = (j : Int) := by omega
      have hI : (j : Int) < (m : Int) := by omega
      have HD := Lib.hid hd
      clear hd
      obtain ⟨x, hx⟩ : ∃ x, dg p j = x := ⟨_, rfl⟩
      obtain ⟨y, hy⟩ : ∃ y, dg q j = y := ⟨_, rfl⟩
      rw [hx] at c1j
      rw [hy] at c2j
      replace c1j := And.intro c1j.1 (((bcell hl).1 g (o + j) c1j.1).trans c1j.2)
      replace c2j := And.intro c2j.1 (((bcell hl).1 g' (o' + j) c2j.1).trans c2j.2)
      have hg1 : g < wr.heap.size := Nat.lt_of_lt_of_le c1j.1 hl.size
      have hg2 : g' < wr.heap.size := Nat.lt_of_lt_of_le c2j.1 hl.size
      replace c1j := c1j.2
      replace c2j := c2j.2
      have fin : (x = y → p.drop j = q.drop j) ∧ (x < y → cmpN a b = -1) ∧ (y < x → cmpN a b = 1) := by
        refine ⟨fun h => drop_step (by omega) (by omega) HD.out (by rw [hx, hy, h]), fun h => ?_, fun h => ?_⟩
        · have := dig_lt S.out.1 (by omega) (by omega) HD.out (by rw [hx, hy]; exact h)
          rw [S.out.2.2.1, S.out.2.2.2.1] at this
          unfold cmpN; rw [if_pos this]
        · have := dig_lt S.out.2.1 (by omega) (by omega) HD.out.symm (by rw [hx, hy]; exact h)
          rw [S.out.2.2.1, S.out.2.2.2.1] at this
          unfold cmpN; rw [if_neg (by omega), if_pos this]
      have HF := Lib.hid fin
      clear fin hx hy HD
      go_upto_region 9 with (fail)
      refine wp_abs (fun w5 => Below w2.heap.size w2 w5 ∧ g < w5.heap.size ∧ g' < w5.heap.size ∧ w5.cell? ⟨g, o + j, none⟩ = some (.int .u32 ((x : Nat) : Int)) ∧ w5.cell? ⟨g', o' + j, none⟩ = some (.int .u32 ((y : Nat) : Int))) ⟨hl, hg1, hg2, c1j, c2j⟩ ?_
      clear hl hg1 hg2 c1j c2j
      rintro w5 ⟨hl, hg1, hg2, c1j, c2j⟩
      let L : List Sp := []
      refine wp_region_six (shs L) (look6 L) (None_) (by kernel_rfl) (by kernel_rfl) (mk_St L [] [] (by kernel_rfl) (by kernel_rfl) trivial (by simp)) ?_
      intro QQ hQ
      -- 0: t0
      refine stepK rfl (by kernel_rfl) (fun K hK => ?_); go_simp
      apply Exists.intro; apply And.intro; (focus (intro wk hk; go_simp; exact ⟨rfl, rfl⟩)); refine hK _ _ ?_; clear hK K
      -- 1: t5
      refine stepK rfl (by kernel_rfl) (fun K hK => ?_); go_simp
      apply Exists.intro; apply And.intro; (focus (intro wk hk; go_simp; exact ⟨rfl, rfl⟩)); refine hK _ _ ?_; clear hK K
      -- 2: indexAddr<153> t27[t28]
      refine stepK rfl (by kernel_rfl) (fun K hK => ?_); go_simp
      apply Exists.intro; apply And.intro; (focus (intro wk hk; go_simp; exact ⟨rfl, rfl⟩)); refine hK _ _ ?_; clear hK K
      -- 3: load<181> *t29
      refine stepK rfl (by kernel_rfl) (fun K hK => ?_); go_simp
      apply Exists.intro; apply And.intro; (focus (intro wk hk; have cc := ((bcell hk.undrew.below).1 g (o + j) hg1).trans c1j; go_simp; exact ⟨rfl, rfl⟩)); refine hK _ _ ?_; clear hK K
      -- 4: t1
      refine stepK rfl (by kernel_rfl) (fun K hK => ?_); go_simp
      apply Exists.intro; apply And.intro; (focus (intro wk hk; go_simp; exact ⟨rfl, rfl⟩)); refine hK _ _ ?_; clear hK K
      -- 5: t5
      refine stepK rfl (by kernel_rfl) (fun K hK => ?_); go_simp
      apply Exists.intro; apply And.intro; (focus (intro wk hk; go_simp; exact ⟨rfl, rfl⟩)); refine hK _ _ ?_; clear hK K
      -- 6: indexAddr<153> t31[t32]
      refine stepK rfl (by kernel_rfl) (fun K hK => ?_); go_simp
      apply Exists.intro; apply And.intro; (focus (intro wk hk; go_simp; exact ⟨rfl, rfl⟩)); refine hK _ _ ?_; clear hK K
      -- 7: load<181> *t33
      refine stepK rfl (by kernel_rfl) (fun K hK => ?_); go_simp
      apply Exists.intro; apply And.intro; (focus (intro wk hk; have cc := ((bcell hk.undrew.below).1 g' (o' + j) hg2).trans c2j; go_simp; exact ⟨rfl, rfl⟩)); refine hK _ _ ?_; clear hK K
      -- 8: neq<181> t30, t34
      refine stepK rfl (by kernel_rfl) (fun K hK => ?_); go_simp
      apply Exists.intro; apply And.intro; (focus (intro wk hk; go_simp; exact ⟨rfl, rfl⟩)); refine hK _ _ ?_; clear hK K
      refine stepN ?_
      refine hQ _ _ ?_
      intro w6 hT hG hF
      have hb6 := hT.undrew.below
      replace c1j := ((bcell hb6).1 g (o + j) hg1).trans c1j
      replace c2j := ((bcell hb6).1 g' (o' + j) hg2).trans c2j
      replace hg1 := Nat.lt_of_lt_of_le hg1 hb6.size
      replace hg2 := Nat.lt_of_lt_of_le hg2 hb6.size
      replace hl := hl.trans (hb6.mono hl.size)
      clear hT hG hF hQ QQ L hb6
      by_cases hz : x = y
      · have hF := HF.out.1 hz
        subst hz
        have HG := Lib.hid hF
        clear hF HF
        go_wp2_with fail
        go_roundg j
        case measure => omega
        case rel => exact ⟨by omega, rfl, hl, HG.out⟩
      · have hz' : ((x : Int) != (y : Int)) = true := by simp; omega
        go_upto_region 10 with (fail)
        let L : List Sp := []
        refine wp_region_six (shs L) (look6 L) (None_) (by kernel_rfl) (by kernel_rfl) (mk_St L [] [] (by kernel_rfl) (by kernel_rfl) trivial (by simp)) ?_
        intro QQ hQ
        -- 0: t0
        refine stepK rfl (by kernel_rfl) (fun K hK => ?_); go_simp
        apply Exists.intro; apply And.intro; (focus (intro wk hk; go_simp; exact ⟨rfl, rfl⟩)); refine hK _ _ ?_; clear hK K
        -- 1: t5
        refine stepK rfl (by kernel_rfl) (fun K hK => ?_); go_simp
        apply Exists.intro; apply And.intro; (focus (intro wk hk; go_simp; exact ⟨rfl, rfl⟩)); refine hK _ _ ?_; clear hK K
        -- 2: indexAddr<153> t36[t37]
        refine stepK rfl (by kernel_rfl) (fun K hK => ?_); go_simp
        apply Exists.intro; apply And.intro; (focus (intro wk hk; go_simp; exact ⟨rfl, rfl⟩)); refine hK _ _ ?_; clear hK K
        -- 3: load<181> *t38
        refine stepK rfl (by kernel_rfl) (fun K hK => ?_); go_simp
        apply Exists.intro; apply And.intro; (focus (intro wk hk; have cc := ((bcell hk.undrew.below).1 g (o + j) hg1).trans c1j; go_simp; exact ⟨rfl, rfl⟩)); refine hK _ _ ?_; clear hK K
        -- 4: t1
        refine stepK rfl (by kernel_rfl) (fun K hK => ?_); go_simp
        apply Exists.intro; apply And.intro; (focus (intro wk hk; go_simp; exact ⟨rfl, rfl⟩)); refine hK _ _ ?_; clear hK K
        -- 5: t5
        refine stepK rfl (by kernel_rfl) (fun K hK => ?_); go_simp
        apply Exists.intro; apply And.intro; (focus (intro wk hk; go_simp; exact ⟨rfl, rfl⟩)); refine hK _ _ ?_; clear hK K
        -- 6: indexAddr<153> t40[t41]
        refine stepK rfl (by kernel_rfl) (fun K hK => ?_); go_simp
        apply Exists.intro; apply And.intro; (focus (intro wk hk; go_simp; exact ⟨rfl, rfl⟩)); refine hK _ _ ?_; clear hK K
        -- 7: load<181> *t42
        refine stepK rfl (by kernel_rfl) (fun K hK => ?_); go_simp
        apply Exists.intro; apply And.intro; (focus (intro wk hk; have cc := ((bcell hk.undrew.below).1 g' (o' + j) hg2).trans c2j; go_simp; exact ⟨rfl, rfl⟩)); refine hK _ _ ?_; clear hK K
        -- 8: lss<181> t39, t43
        refine stepK rfl (by kernel_rfl) (fun K hK => ?_); go_simp
        apply Exists.intro; apply And.intro; (focus (intro wk hk; go_simp; exact ⟨rfl, rfl⟩)); refine hK _ _ ?_; clear hK K
        refine stepN ?_
        refine hQ _ _ ?_
        intro w7 hT hG hF
        have hb7 := hT.undrew.below
        replace hl := hl.trans (hb7.mono hl.size)
        clear hT hG hF hQ QQ L hb7
        by_cases hlt : x < y
        · have hv := HF.out.2.1 hlt
          replace hv := Lib.hid hv
          have g2 : ((x : Int) < (y : Int)) := by omega
          clear HF
          go_wp2_with fail
          go_ret
          exact ⟨by rw [hv.out]; rfl, hl⟩
        · have hv := HF.out.2.2 (by omega)
          replace hv := Lib.hid hv
          have g2 : ¬ ((x : Int) < (y : Int)) := by omega
          clear HF
          go_wp2_with fail
          go_ret
          exact ⟨by rw [hv.out]; rfl, hl⟩

theorem M_B : M = B ^ 8 := by unfold M; decide
theorem len8 {a : Nat} (ha : a < M) : (digs a).length < 1099511627776 := Nat.lt_of_le_of_lt (digs_len (k := 8) (Nat.lt_of_lt_of_eq ha M_B)) (by omega)
set_option maxRecDepth 100000 in
set_option maxHeartbeats 4000000 in
theorem refcmpU {a b : Nat} (ha : a < M) (hb : b < M) (w : World) : Calls Try.prog 57 #[.agg (W4 a), .agg (W4 b)] w (Ret w (.int .i64 (cmpN a b))) := by
  have hc : ∀ wx v u, Sl wx v (digs a) → Sl wx u (digs b) → Calls Try.prog 173 #[v, u] wx (Ret wx (.int .i64 (cmpN a b))) := fun wx v u s1 s2 => by
    have := natcmp_any v u _ _ wx (dig_digs a) (dig_digs b) s1 s2 (len8 ha) (len8 hb)
    rw [val_digs, val_digs] at this
    exact this
  go_enter Try.func57, Try.ntmps57
  apply wp_seq_eq
  focus
    intro J hJ
    go_wp2_with fail
    exact hJ
  refine wp_abs (Mem w [(w.heap.size, 31, W4 a), (w.heap.size + 1, 31, W4 b)]) ⟨by go_grown, ?_, ?_, trivial⟩ ?_
  · repeat (first | (refine Row.new_at ?_; simp; done) | refine Row.alloc ?_ _)
  · repeat (first | (refine Row.new_at ?_; simp; done) | refine Row.alloc ?_ _)
  intro w0 hM
  obtain ⟨hl, ra, rb, -⟩ := hM
  go_upto_region 1 with (fail)
  let L : List Sp := [sF 1 [] [] [] (fun _ => True) (fun x w => Sl w x.v (digs (a))), sF 3 [] [] [] (fun _ => True) (fun x w => Sl w x.v (digs (b))), sV 4 [1, 3] [1, 3] (fun u => u = .int .i64 (cmpN a b))]
  refine wp_region_six (shs L) (look6 L) (None_) (by kernel_rfl) (by kernel_rfl) (mk_St L [] [] (by kernel_rfl) (by kernel_rfl) ⟨ok_F (any_some _) (fun _ _ _ h hb => Sl.below h hb), ok_F (any_some _) (fun _ _ _ h hb => Sl.below h hb), ok_V ⟨_, rfl⟩, trivial⟩ (by simp)) ?_
  intro QQ hQ
  -- 0: load<31> *t2
  refine stepK rfl (by kernel_rfl) (fun K hK => ?_); go_simp
  apply Exists.intro; apply And.intro; (focus exact kLoad rfl rfl aggT31 ra rfl id); refine hK _ _ ?_; clear hK K
  -- 1: call F164(t5)
  refine stepS _ rfl (by kernel_rfl) (fun K hK => ?_); go_simp
  refine ⟨?_, ?_⟩
  · intro wk hk hg hu; go_simp; refine upon_enter ((of164 a ha _).mono ?_); rintro e w' ⟨v, rfl, hv, hb⟩; exact ⟨_, rfl, left_F rfl rfl hb trivial hv⟩
  rintro ⟨v1, lo1, hi1⟩ - - -
  refine hK _ _ ?_; clear hK K
  -- 2: load<31> *t3
  refine stepK rfl (by kernel_rfl) (fun K hK => ?_); go_simp
  apply Exists.intro; apply And.intro; (focus exact kLoad rfl rfl aggT31 rb rfl id); refine hK _ _ ?_; clear hK K
  -- 3: call F164(t7)
  refine stepS _ rfl (by kernel_rfl) (fun K hK => ?_); go_simp
  refine ⟨?_, ?_⟩
  · intro wk hk hg hu; go_simp; refine upon_enter ((of164 b hb _).mono ?_); rintro e w' ⟨v, rfl, hv, hb⟩; exact ⟨_, rfl, left_F rfl rfl hb trivial hv⟩
  rintro ⟨v3, lo3, hi3⟩ - - -
  refine hK _ _ ?_; clear hK K
  -- 4: call F173(t6, t8)
  refine stepS _ rfl (by kernel_rfl) (fun K hK => ?_); go_simp
  refine ⟨?_, ?_⟩
  · intro wk hk hg hu; have u1 := hu 1 (show 1 ∈ [1, 3] by decide); have u3 := hu 3 (show 3 ∈ [1, 3] by decide); have s1 : Sl wk v1 (digs a) := u1; have s3 : Sl wk v3 (digs b) := u3; go_simp; refine upon_enter ((hc _ v1 v3 s1 s3).mono ?_); rintro e w' ⟨rfl, hb⟩; exact ⟨_, rfl, left_V (p := fun u => u = .int .i64 (cmpN a b)) rfl (hb) rfl⟩
  rintro ⟨v4, lo4, hi4⟩ - - (rfl : v4 = _)
  refine hK _ _ ?_; clear hK K
  -- 5: assign t9
  refine stepK rfl (by kernel_rfl) (fun K hK => ?_); go_simp
  apply Exists.intro; apply And.intro; (focus (intro wk hk; go_simp; exact ⟨rfl, rfl⟩)); refine hK _ _ ?_; clear hK K
  refine stepN ?_
  refine hQ _ _ ?_
  intro w1 hT hG hF
  have hbw1 := hT.undrew.below
  replace hl := hl.trans (hbw1.mono hl.size)
  clear hT hG hF hbw1 hQ QQ L 
  go_wp2_with fail
  go_ret
  exact ⟨rfl, hl⟩
end Go.Proofs.Ytpdenhmkpiafiaa
