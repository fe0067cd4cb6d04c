/-
  tallagelaw04.OctetBack, THE WALK.
-/
import Derived.Test.YtpdenhmkpiafiaaOctRead
import Derived.Test.YtpdenhmkpiafiaaOctLives
import Derived.Test.YtpdenhmkpiafiaaOctKU
import Derived.Test.YtpdenhmkpiafiaaFrameV
namespace Go.Proofs.Ytpdenhmkpiafiaa
open Go Go.RowKit K6

/-! ### the plain law -/
def vput (x : Vl) : List Int := if x.k = 0 then enc x.n.toNat else if x.k = 1 then amtL x.a else enc x.b.length ++ x.b
def putsTo (F : Nat → Vl) : Nat → List Int
  | 0 => []
  | i + 1 => putsTo F i ++ vput (F i)
def rstV (F : Nat → Vl) : Nat → Nat → List Int
  | _, 0 => []
  | i, m + 1 => vput (F i) ++ rstV F (i + 1) m
theorem puts_rst (F : Nat → Vl) : ∀ m i, putsTo F i ++ rstV F i m = putsTo F (i + m)
  | 0, i => by show putsTo F i ++ [] = _; rw [List.append_nil]; rfl
  | m + 1, i => by
    show putsTo F i ++ (vput (F i) ++ rstV F (i + 1) m) = _
    rw [← List.append_assoc, show putsTo F i ++ vput (F i) = putsTo F (i + 1) from rfl, puts_rst F m (i + 1), show i + 1 + m = i + (m + 1) by omega]
theorem vput_len {w : World} {x : Vl} (h : VlOk w x) (hb : x.b.length ≤ 100) : (vput x).length ≤ 120 := by
  have h1 := h.n63
  unfold vput
  split
  · have := enc_len9 (m := x.n.toNat) (by omega); omega
  · split
    · have := nby_le h.aM
      rw [amtL_eq, List.length_cons, amtB_len h.aM]; omega
    · have := enc_len9 (m := x.b.length) (by omega)
      rw [List.length_append]; omega
theorem vput_by {w : World} {x : Vl} (h : VlOk w x) : By (vput x) := by
  unfold vput
  split
  · exact enc_by _
  · split
    · exact amtL_by h.aM
    · exact (enc_by _).app h.by_
theorem putsTo_len {w : World} {F : Nat → Vl} : ∀ i, (∀ j, j < i → VlOk w (F j) ∧ (F j).b.length ≤ 100) → (putsTo F i).length ≤ 120 * i
  | 0, _ => Nat.zero_le _
  | i + 1, h => by
    have h1 := putsTo_len i fun j hj => h j (by omega)
    have h2 := vput_len (h i (by omega)).1 (h i (by omega)).2
    show (putsTo F i ++ vput (F i)).length ≤ _
    rw [List.length_append]; omega
theorem putsTo_by {w : World} {F : Nat → Vl} : ∀ i, (∀ j, j < i → VlOk w (F j)) → By (putsTo F i)
  | 0, _ => By.nil
  | i + 1, h => (putsTo_by i fun j hj => h j (by omega)).app (vput_by (h i (by omega)))
/-- a text that was put is got -/
theorem gX_text {b : List Int} {most : Int} (r : List Int) (hm : b.length < 9223372036854775808) (hle : (b.length : Int) ≤ most) : gX most (0, (enc b.length ++ b) ++ r) = (b, 0, r) := by
  unfold gX
  rw [List.append_assoc, gV_enc (b ++ r) hm hle]
  unfold gT tkO tkE tkR
  simp
theorem kLoadV {P : Program} {w1 : World} {o : Oper} {a : Act} {X : Nat → Prop} {ty : TypeId} {x : Operand} {b off n : Nat} {cs : List Value} (ho : o.op = .load ty x) (hx : a.eval x = .pointer (some ⟨b, off, none⟩)) (T : AggT P ty n) (hr : ∀ j v, cs[j]? = some v → w1.cell? ⟨b, off + j, none⟩ = some v) (hs : cs.length = n) (hb : b < w1.heap.size) (hX : ¬ X b) : kOut P w1 X o a (.agg cs.toArray) := by
  intro w hw
  obtain ⟨⟨d, hu, hd⟩, hi⟩ := T
  have hc : w.rangeAt b off cs := fun j v hv => (World.cell?_of_block (hw.block b hb hX)).trans (hr j v hv)
  have h := run_loadAt_mid (P := P) w b off ty cs d hc hu (by cases d <;> first | rfl | exact Bool.noConfusion hd) (by rw [hi, ← hs])
  unfold execOp
  simp only [ho, hx, Sem.run_bind, Sem.run_pure, Result.andThen_ok, h]
  exact ⟨by simp, rfl⟩
theorem aggT59 : AggT Try.prog 59 7 := ⟨⟨_, Try.underlying59, rfl⟩, by kernel_rfl⟩
theorem vcells_len (x : Vl) : (vcells x).length = 7 := rfl
theorem vcells_one {w : World} {x : Vl} (h : Bs w x.v x.b) : (vcells x).toArray.all (·.oneCell') = true := by
  obtain ⟨q, c, e, -⟩ := h
  unfold vcells
  rw [e]
  kernel_rfl
theorem vcells_amt (x : Vl) : ∀ j v, (W4 x.a)[j]? = some v → (vcells x).toArray[2 + j]? = some v := fun j v hj => by
  have hj4 : j < 4 := (Array.getElem?_eq_some_iff.1 hj).1
  have : j = 0 ∨ j = 1 ∨ j = 2 ∨ j = 3 := by omega
  rcases this with rfl | rfl | rfl | rfl <;> exact hj
theorem end_V {w : World} {lo hi g : Nat} {e : Int} {xs : List Int} {F : Int} (h : SA w lo hi g e xs) (hF : edE e xs = F) : Calls Try.prog 61 #[.pointer (some ⟨g, 0, none⟩)] w fun r w' => r = .returned (.int .i64 F) ∧ SA w' lo hi g F [] ∧ Tr (fun b => b = g) w w' := by
  subst hF
  exact end_at h
theorem Bs.oldT {w : World} {u : Value} {xs : List Int} {g : Nat} (h0 : Bs w u xs) (hg : w.heap.size ≤ g) (w1 w2 : World) (h : Bs w1 u xs) (hT : Tr (fun b => b = g) w1 w2) : Bs w2 u xs := by
  by_cases hx : xs = []
  · obtain ⟨q, c, rfl, hn, h1⟩ := h
    subst hx
    exact ⟨q, c, rfl, hn, fun a ha j v hj => by simp [bv] at hj⟩
  · refine h.keep hT fun b hb e => ?_
    obtain ⟨q, c, rfl, hn, h1⟩ := h0
    cases q with
    | none => exact hx (hn rfl).2
    | some a =>
      obtain ⟨x, ys, rfl⟩ := List.exists_cons_of_ne_nil hx
      have h2 := h1 a rfl 0 _ rfl
      rw [show a.add 0 = a from by unfold Addr.add; rfl] at h2
      have h3 := cell_lt h2
      have h4 : some a.block = some b := hb
      injection h4 with h4
      omega
set_option maxRecDepth 100000 in
set_option maxHeartbeats 64000000 in
theorem back_walk (q : Option Addr) (n c : Nat) (F : Nat → Vl) (w : World) (ha0 : VsV w q n F) :
    Calls Try.prog 8 #[.slice q n c] w (Ret w (.bool true)) := by
  have lv := Lib.hid lives4U
  by_cases h30 : 30 < n
  · have hn1 : (30 : Int) < (n : Int) := by omega
    have hlw := Below.refl w.heap.size w
    clear h30 ha0
    go_enter Try.func8, Try.ntmps8
    go_wp2_with fail
    refine (lv.out _).mono ?_
    rintro e w9 ⟨rfl, hb⟩
    have H9 := Lib.hid (hlw.trans (hb.mono hlw.size))
    clear hb
    go_wp2_with fail
    go_ret
    exact ⟨rfl, H9.out⟩
  have hn1 : (n : Int) ≤ 30 := by omega
  obtain ⟨lo, hlo⟩ : ∃ lo, w.heap.size = lo := ⟨_, rfl⟩
  have ha := Lib.hid ha0
  clear ha0 h30
  go_enter Try.func8, Try.ntmps8
  go_wp2_with fail
  go_loopg [3, 5, 17] n (fun gg s3 s5 s17 wr => ∃ i : Nat, i + gg = n ∧ s17 = .int .i64 (i : Int) ∧ Hid (Ob wr lo s3 (putsTo F i) ∧ Below lo w wr) ∧ Hid (∀ j, j < i → VlOk w (F j) ∧ (F j).b.length ≤ 100))
  case atStart => exact ⟨0, by omega, rfl, Lib.hid ⟨Ob.nil _ _, by rw [← hlo]; exact Below.refl _ _⟩, Lib.hid (fun j hj => absurd hj (by omega))⟩
  case round =>
    obtain ⟨i, hig, rfl, hinv, hall⟩ := hrel
    by_cases him : i < n
    · have hlt : (i : Int) < (n : Int) := by omega
      obtain ⟨ho, hl⟩ := hinv.out
      rw [← hlo] at hl
      have hlen : (putsTo F i).length ≤ 5000 := by have := putsTo_len i hall.out; omega
      obtain ⟨gb, o, rfl, hgb, hcell⟩ := ha.out (by omega)
      obtain ⟨hok, hcs0⟩ := hcell i him
      obtain ⟨x, hxe⟩ : ∃ x, F i = x := ⟨_, rfl⟩
      rw [hxe] at hok hcs0
      have hcs : ∀ jj u, (vcells x)[jj]? = some u → wr.cell? ⟨gb, o + i * 7 + jj, none⟩ = some u := fun jj u hj => (World.cell?_of_block (hl.block gb hgb)).trans (hcs0 jj u hj)
      have hbx := hok.bs.below hl
      have hone := vcells_one hok.bs
      have hgb2 : gb < wr.heap.size := Nat.lt_of_lt_of_le hgb hl.size
      clear hcell hcs0
      go_upto_region 6 with (fail)
      let L : List Sp := [sA 2 59 [3] #[.int .i64 0, .int .i64 0, .int .u64 0, .int .u64 0, .int .u64 0, .int .u64 0, .slice none 0 0], sT 3 2 59 [1] (fun g => aggOf g 1)]
      refine wp_region_six0 (shs L) (look6 L) (None_) (by kernel_rfl) (by kernel_rfl) (mk_St L [] [] (by kernel_rfl) (by kernel_rfl) ⟨ok_A, ok_T aggOf_congr, trivial⟩ (by simp)) ?_
      intro QQ hQ
      -- 0: indexAddr<57> t15[t17]
      refine stepK rfl (by kernel_rfl) (fun K hK => ?_); go_simp
      apply Exists.intro; apply And.intro; (focus (intro wk hk; go_simp; exact ⟨rfl, rfl⟩)); refine hK _ _ ?_; clear hK K
      -- 1: load<59> *t19
      refine stepK rfl (by kernel_rfl) (fun K hK => ?_); go_simp
      apply Exists.intro; apply And.intro; (focus exact kLoadV rfl rfl aggT59 hcs (vcells_len x) hgb2 id); refine hK _ _ ?_; clear hK K
      -- 2: alloc<59>
      refine stepS _ rfl (by kernel_rfl) (fun K hK => ?_); go_simp
      refine ⟨?_, ?_⟩
      · intro wk hk hg hu; go_simp; exact left_A rfl rfl
      rintro ⟨v2, lo2, hi2⟩ hlo2 hhi2 ⟨e2, f2⟩
      replace e2 : v2 = .pointer (some ⟨lo2, 0, none⟩) := e2; replace f2 : hi2 = lo2 + 1 := f2; replace hlo2 : _ ≤ lo2 := hlo2; subst e2; subst f2
      refine hK _ _ ?_; clear hK K
      -- 3: store<59> *t5 = t20
      refine stepS _ rfl (by kernel_rfl) (fun K hK => ?_); go_simp
      refine ⟨?_, ?_⟩
      · exact sStoreT rfl rfl rfl rfl rfl rfl rfl (by kernel_rfl) rfl hone (by decide) aggOf_congr
      rintro ⟨v3, lo3, hi3⟩ - - (rfl : v3 = undef)
      refine hK _ _ ?_; clear hK K
      refine stepN ?_
      refine hQ _ _ ?_
      intro w2 hT hG hF
      have hb2 := hT.below
      have r5 : Row w2 lo2 59 (vcells x).toArray := (hF 3 _ rfl rfl (by decide)).2
      replace hbx := hbx.below hb2
      obtain ⟨cb, rfl⟩ : ∃ x : Nat, x = lo2 := ⟨_, rfl⟩
      replace ho := ho.below hb2
      replace hl := hl.trans (hb2.mono hl.size)
      clear hT hG hF hQ QQ L hb2 hcs hgb2 hgb hhi2 hlo2
      have c0 : w2.cell? ⟨cb, 0, none⟩ = some (.int .i64 x.k) := r5.cell 0
      have c1 : w2.cell? ⟨cb, 1, none⟩ = some (.int .i64 x.n) := r5.cell 1
      have c6 : w2.cell? ⟨cb, 6, none⟩ = some x.v := r5.cell 6
      obtain ⟨q6, cp6, hv6, hn6, hc6⟩ := hbx
      have hbx : Bs w2 x.v x.b := ⟨q6, cp6, hv6, hn6, hc6⟩
      rw [hv6] at c6
      have H := Lib.hid (show _ ∧ _ ∧ _ ∧ _ from ⟨ho, hl, hbx, hok⟩)
      clear ho hl hbx hn6 hc6
      obtain ⟨nb, hnb⟩ : ∃ nb, x.b.length = nb := ⟨_, rfl⟩
      rw [hnb] at c6
      by_cases h100 : 100 < nb
      · have hnb1 : (100 : Int) < (nb : Int) := by omega
        have hl9 := H.out.2.1
        clear H hinv hall r5 c0 c1
        go_wp2_with fail
        refine (lv.out _).mono ?_
        rintro e w9 ⟨rfl, hb⟩
        have H9 := Lib.hid (hl9.trans (hb.mono hl9.size))
        clear hb
        go_wp2_with fail
        go_ret
        exact ⟨rfl, H9.out⟩
      have hnb1 : (nb : Int) ≤ 100 := by omega
      have hall2 := Lib.hid (show ∀ j, j < i + 1 → VlOk w (F j) ∧ (F j).b.length ≤ 100 from fun j hj => by
        rcases Nat.lt_succ_iff_lt_or_eq.1 hj with h | rfl
        · exact hall.out j h
        · rw [hxe]; exact ⟨H.out.2.2.2, by omega⟩)
      have hput : ∀ L, vput x = L → putsTo F i ++ L = putsTo F (i + 1) := fun L hL => by
        show _ = putsTo F i ++ vput (F i)
        rw [hxe, hL]
      obtain ⟨k, hk⟩ : ∃ k, x.k = k := ⟨_, rfl⟩
      rw [hk] at c0
      by_cases hk0 : k = 0
      · subst hk0
        have hp := hput (enc x.n.toNat) (by unfold vput; rw [if_pos hk])
        have k38 := Lib.hid (var_any u3 (putsTo F i) x.n w2 H.out.1.bs (by omega) H.out.2.2.2.n63)
        rw [hp] at k38
        clear hp hput hk hall hinv
        go_wp2_with fail
        refine k38.out.mono ?_
        rintro r w3 ⟨v3, rfl, ho, hb⟩
        have HI := Lib.hid (show Ob w3 lo v3 (putsTo F (i + 1)) ∧ Below lo w w3 from ⟨ho.base (by rw [← hlo]; exact H.out.2.1.size), by rw [← hlo]; exact H.out.2.1.trans (hb.mono H.out.2.1.size)⟩)
        clear k38 ho hb H r5 c0 c1 c6
        go_wp2_with fail
        go_roundg (gk - 1)
        case measure => omega
        case rel => exact ⟨i + 1, by omega, by go_num, HI, hall2⟩
      · have hkq : (k == 0) = false := by rw [beq_eq_false_iff_ne]; exact hk0
        by_cases hk1 : k = 1
        · subst hk1
          have hp := hput (amtL x.a) (by unfold vput; rw [if_neg (by omega), if_pos hk])
          have k40 := Lib.hid (fun wk (h : Bs wk u3 (putsTo F i)) => amt_any u3 (putsTo F i) x.a wk h (by omega) H.out.2.2.2.aM)
          rw [hp] at k40
          have hsub := vcells_amt x
          have hsz := W4_size x.a
          obtain ⟨ho, hl, -⟩ := H.out
          have hl9 : lo ≤ w2.heap.size := by rw [← hlo]; exact hl.size
          clear hp hput hk hall hinv
          go_upto_region 14 with (fail)
          let L : List Sp := [sF 3 [] [] [] (fun _ => True) (fun x w => Ob w lo x.v (putsTo F (i + 1)))]
          refine wp_region_six0 (shs L) (look6 L) (None_) (by kernel_rfl) (by kernel_rfl) (mk_St L [] [] (by kernel_rfl) (by kernel_rfl) ⟨ok_F (any_some _) (fun _ _ _ h hb => Ob.below h hb), trivial⟩ (by simp)) ?_
          intro QQ hQ
          -- 0: t3
          refine stepK rfl (by kernel_rfl) (fun K hK => ?_); go_simp
          apply Exists.intro; apply And.intro; (focus (intro wk hk; go_simp; exact ⟨rfl, rfl⟩)); refine hK _ _ ?_; clear hK K
          -- 1: fieldAddr<59> t5.2
          refine stepK rfl (by kernel_rfl) (fun K hK => ?_); go_simp
          apply Exists.intro; apply And.intro; (focus (intro wk hk; go_simp; exact ⟨rfl, rfl⟩)); refine hK _ _ ?_; clear hK K
          -- 2: load<31> *t41
          refine stepK rfl (by kernel_rfl) (fun K hK => ?_); go_simp
          apply Exists.intro; apply And.intro; (focus exact kLoadMid rfl rfl aggT31 r5 hsub hsz id); refine hK _ _ ?_; clear hK K
          -- 3: call F40(t40, t42)
          refine stepS _ rfl (by kernel_rfl) (fun K hK => ?_); go_simp
          refine ⟨?_, ?_⟩
          · intro wk hk hg hu; go_simp; refine upon_enter ((k40.out _ (ho.bs.below hk.below)).mono ?_); rintro e w' ⟨v, rfl, hv, hb9⟩; exact ⟨_, rfl, left_F rfl rfl hb9 trivial (hv.base (Nat.le_trans hl9 hk.below.size))⟩
          rintro ⟨v3, lo3, hi3⟩ - - -
          refine hK _ _ ?_; clear hK K
          -- 4: assign t43
          refine stepK rfl (by kernel_rfl) (fun K hK => ?_); go_simp
          apply Exists.intro; apply And.intro; (focus (intro wk hk; go_simp; exact ⟨rfl, rfl⟩)); refine hK _ _ ?_; clear hK K
          refine stepN ?_
          refine hQ _ _ ?_
          intro w3 hT hG hF
          have hb9 := hT.below
          have HI := Lib.hid (show Ob w3 lo v3 (putsTo F (i + 1)) ∧ Below lo w w3 from ⟨hF 3 _ rfl rfl (by decide), by rw [← hlo]; exact hl.trans (hb9.mono hl.size)⟩)
          clear hT hG hF hQ QQ L hb9 ho hl H r5 c0 c1 c6 hsub hsz k40
          go_wp2_with fail
          go_roundg (gk - 1)
          case measure => omega
          case rel => exact ⟨i + 1, by omega, by go_num, HI, hall2⟩
        · have hkq1 : (k == 1) = false := by rw [beq_eq_false_iff_ne]; exact hk1
          have hp := hput (enc x.b.length ++ x.b) (by unfold vput; rw [if_neg (by omega), if_neg (by omega)])
          have k44 := Lib.hid (text_put 44 (.inl rfl) u3 x.v (putsTo F i) x.b w2 H.out.1.bs H.out.2.2.1 (by omega) (by omega))
          rw [List.append_assoc, hp, hv6, hnb] at k44
          clear hp hput hk hall hinv
          go_wp2_with fail
          refine k44.out.mono ?_
          rintro r w3 ⟨v3, rfl, ho, hb⟩
          have HI := Lib.hid (show Ob w3 lo v3 (putsTo F (i + 1)) ∧ Below lo w w3 from ⟨ho.base (by rw [← hlo]; exact H.out.2.1.size), by rw [← hlo]; exact H.out.2.1.trans (hb.mono H.out.2.1.size)⟩)
          clear k44 ho hb H r5 c0 c1 c6
          go_wp2_with fail
          go_roundg (gk - 1)
          case measure => omega
          case rel => exact ⟨i + 1, by omega, by go_num, HI, hall2⟩
    · obtain rfl : i = n := by omega
      have hlt : ¬ (i : Int) < (i : Int) := by omega
      obtain ⟨ho, hl⟩ := hinv.out
      have hlen : (putsTo F i).length ≤ 5000 := by have := putsTo_len i hall.out; omega
      have hby := putsTo_by i (fun j hj => (hall.out j hj).1)
      have rd := Lib.hid ((read_any u3 _ wr ho.bs (by omega)).mono fun r w' h => h.sa hby (by omega))
      have hrs := puts_rst F i 0
      rw [Nat.zero_add] at hrs
      rw [← hrs] at rd
      have HL := Lib.hid hl
      have hlosz : lo ≤ wr.heap.size := by rw [← hlo] at hl ⊢; exact hl.size
      clear ho hl hinv hlen hby hrs
      go_wp2_with fail
      refine rd.out.mono ?_
      rintro r w1 ⟨g, rfl, hs, hb1⟩
      have HI := Lib.hid (show SA w1 wr.heap.size w1.heap.size g 0 (rstV F 0 i) ∧ Below lo w w1 from ⟨hs, HL.out.trans (hb1.mono hlosz)⟩)
      obtain ⟨loS, hloS⟩ : ∃ x, wr.heap.size = x := ⟨_, rfl⟩
      obtain ⟨hiS, hhiS⟩ : ∃ x, w1.heap.size = x := ⟨_, rfl⟩
      rw [hloS, hhiS] at HI
      have hg1 := hs.1
      have hg2 := hs.2.1
      rw [hloS] at hg1 hlosz
      rw [hhiS] at hg2
      have hwsz : hiS ≤ w1.heap.size := by omega
      clear hs hb1 HL rd
      go_wp2_with fail
      go_loopg [8, 9, 10, 49] i (fun gg s8 s9 s10 s49 wr => ∃ j : Nat, j + gg = i ∧ s49 = .int .i64 (j : Int) ∧ hiS ≤ wr.heap.size ∧ Hid (SA wr loS hiS g 0 (rstV F j gg) ∧ Below lo w wr))
      case atStart => exact ⟨0, by omega, rfl, hwsz, HI⟩
      case round =>
        obtain ⟨wv, rfl⟩ : ∃ x : World, x = wr := ⟨_, rfl⟩
        obtain ⟨j, hjg, rfl, hwv, hinv⟩ := hrel
        by_cases hji : j < i
        · obtain ⟨gk2, rfl⟩ : ∃ m, gk = m + 1 := ⟨gk - 1, by omega⟩
          obtain ⟨hs, hl⟩ := hinv.out
          have hl0 := hl
          rw [← hlo] at hl
          obtain ⟨gb, o, rfl, hgb, hcell⟩ := ha.out (by omega)
          obtain ⟨hok, hcs0⟩ := hcell j hji
          obtain ⟨x, hxe⟩ : ∃ x, F j = x := ⟨_, rfl⟩
          rw [hxe] at hok hcs0
          have hcs : ∀ jj u, (vcells x)[jj]? = some u → wv.cell? ⟨gb, o + j * 7 + jj, none⟩ = some u := fun jj u hj => (World.cell?_of_block (hl.block gb hgb)).trans (hcs0 jj u hj)
          have hbx := hok.bs.below hl
          have hone := vcells_one hok.bs
          have hgb2 : gb < wv.heap.size := Nat.lt_of_lt_of_le hgb hl.size
          clear hcell hcs0
          go_upto_region 19 with (fail)
          let L : List Sp := [sA 2 59 [3] #[.int .i64 0, .int .i64 0, .int .u64 0, .int .u64 0, .int .u64 0, .int .u64 0, .slice none 0 0], sT 3 2 59 [1] (fun g => aggOf g 1)]
          refine wp_region_six0 (shs L) (look6 L) (None_) (by kernel_rfl) (by kernel_rfl) (mk_St L [] [] (by kernel_rfl) (by kernel_rfl) ⟨ok_A, ok_T aggOf_congr, trivial⟩ (by simp)) ?_
          intro QQ hQ
          -- 0: indexAddr<57> t47[t49]
          refine stepK rfl (by kernel_rfl) (fun K hK => ?_); go_simp
          apply Exists.intro; apply And.intro; (focus (intro wk hk; go_simp; exact ⟨rfl, rfl⟩)); refine hK _ _ ?_; clear hK K
          -- 1: load<59> *t51
          refine stepK rfl (by kernel_rfl) (fun K hK => ?_); go_simp
          apply Exists.intro; apply And.intro; (focus exact kLoadV rfl rfl aggT59 hcs (vcells_len x) hgb2 id); refine hK _ _ ?_; clear hK K
          -- 2: alloc<59>
          refine stepS _ rfl (by kernel_rfl) (fun K hK => ?_); go_simp
          refine ⟨?_, ?_⟩
          · intro wk hk hg hu; go_simp; exact left_A rfl rfl
          rintro ⟨v2, lo2, hi2⟩ hlo2 hhi2 ⟨e2, f2⟩
          replace e2 : v2 = .pointer (some ⟨lo2, 0, none⟩) := e2; replace f2 : hi2 = lo2 + 1 := f2; replace hlo2 : _ ≤ lo2 := hlo2; subst e2; subst f2
          refine hK _ _ ?_; clear hK K
          -- 3: store<59> *t8 = t52
          refine stepS _ rfl (by kernel_rfl) (fun K hK => ?_); go_simp
          refine ⟨?_, ?_⟩
          · exact sStoreT rfl rfl rfl rfl rfl rfl rfl (by kernel_rfl) rfl hone (by decide) aggOf_congr
          rintro ⟨v3, lo3, hi3⟩ - - (rfl : v3 = undef)
          refine hK _ _ ?_; clear hK K
          refine stepN ?_
          refine hQ _ _ ?_
          intro w2 hT hG hF
          have hb2 := hT.below
          have r5 : Row w2 lo2 59 (vcells x).toArray := (hF 3 _ rfl rfl (by decide)).2
          replace hbx := hbx.below hb2
          obtain ⟨cb, rfl⟩ : ∃ x : Nat, x = lo2 := ⟨_, rfl⟩
          replace hs := hs.below hb2
          replace hl := hl.trans (hb2.mono hl.size)
          have hsz2 := hb2.size
          have hr5 : hiS ≤ cb := by omega
          have hh9 : hiS ≤ w2.heap.size := Nat.le_trans hwv hsz2
          clear hT hG hF hQ QQ L hb2 hcs hgb2 hgb hhi2 hlo2 hl0
          have c0 : w2.cell? ⟨cb, 0, none⟩ = some (.int .i64 x.k) := r5.cell 0
          have c1 : w2.cell? ⟨cb, 1, none⟩ = some (.int .i64 x.n) := r5.cell 1
          have c6 : w2.cell? ⟨cb, 6, none⟩ = some x.v := r5.cell 6
          have hb100 := (hall.out j hji).2
          rw [hxe] at hb100
          obtain ⟨rest, hrest⟩ : ∃ r, rstV F (j + 1) gk2 = r := ⟨_, rfl⟩
          have hst : rstV F j (gk2 + 1) = vput x ++ rest := by
            show vput (F j) ++ rstV F (j + 1) gk2 = _
            rw [hxe, hrest]
          rw [hst] at hs
          have hdone : ∀ wz, hiS ≤ wz.heap.size → SA wz loS hiS g 0 rest → Below lo w wz → ∃ j' : Nat, j' + gk2 = i ∧ Value.int .i64 ((j : Int) + 1) = .int .i64 (j' : Int) ∧ hiS ≤ wz.heap.size ∧ Hid (SA wz loS hiS g 0 (rstV F j' gk2) ∧ Below lo w wz) := fun wz h1 h2 h3 =>
            ⟨j + 1, by omega, by rw [Int.natCast_add]; rfl, h1, Lib.hid ⟨by rw [hrest]; exact h2, h3⟩⟩
          have HD := Lib.hid hdone
          have hlt2 : (j : Int) < (i : Int) := by omega
          have wj : IntKind.i64.wrap ((j : Int) + 1) = (j : Int) + 1 := by rw [IntKind.wrap_i64]; omega
          obtain ⟨k, hk⟩ : ∃ k, x.k = k := ⟨_, rfl⟩
          rw [hk] at c0
          clear hdone hst hrest hinv
          by_cases hk0 : k = 0
          · subst hk0
            obtain ⟨N, hN⟩ : ∃ N, x.n.toNat = N := ⟨_, rfl⟩
            have hn63 := hok.n63
            have hv : vput x = enc N := by unfold vput; rw [if_pos hk, hN]
            rw [hv] at hs
            have kv := svar_at 9223372036854775807 hs
            unfold Varred at kv
            have hg := gV_enc (most := 9223372036854775807) rest (show N < 9223372036854775808 by omega) (by omega)
            unfold gV at hg
            simp only [Prod.mk.injEq] at hg
            rw [hg.1, hg.2.1, hg.2.2] at kv
            replace kv := Lib.hid kv
            have HL := Lib.hid hl
            clear hg hs hl hv hbx hok hk c6 hn63
            obtain ⟨m, hm⟩ : ∃ m, x.n = m := ⟨_, rfl⟩
            rw [hm] at c1 hN
            have hcase : (m < 0 ∧ N = 0) ∨ (m = (N : Int)) := by omega
            clear hN hm
            rcases hcase with ⟨hm0, rfl⟩ | rfl
            · go_wp2_with fail
              refine kv.out.mono ?_
              rintro r w3 ⟨rfl, hs, ht⟩
              have H3 := Lib.hid (HD.out w3 (Nat.le_trans (by omega) ht.size) hs (by rw [← hlo]; exact HL.out.trans (ht.below_of HL.out.size (by intro c hc; have hc' : c = g := hc; omega))))
              clear hs ht kv HL HD r5 c0 c1
              go_wp2_with fail
              go_roundg gk2
              case measure => omega
              case rel => exact H3.out
            · have hN0 : (0 : Int) ≤ (N : Int) := by omega
              go_wp2_with fail
              refine kv.out.mono ?_
              rintro r w3 ⟨rfl, hs, ht⟩
              have H3 := Lib.hid (HD.out w3 (Nat.le_trans (by omega) ht.size) hs (by rw [← hlo]; exact HL.out.trans (ht.below_of HL.out.size (by intro c hc; have hc' : c = g := hc; omega))))
              clear hs ht kv HL HD r5 c0 c1
              go_wp2_with fail
              go_roundg gk2
              case measure => omega
              case rel => exact H3.out
          · have hkq : (k == 0) = false := by rw [beq_eq_false_iff_ne]; exact hk0
            by_cases hk1 : k = 1
            · subst hk1
              have hv : vput x = amtL x.a := by unfold vput; rw [if_neg (by omega), if_pos hk]
              rw [hv] at hs
              have haM := hok.aM
              have km := Lib.hid (fun wk (hk : SA wk loS hiS g 0 (amtL x.a ++ rest)) (hw : hiS ≤ wk.heap.size) => (show Calls Try.prog 62 #[.pointer (some ⟨g, 0, none⟩)] wk fun r w' => r = .returned (.agg (W4 x.a)) ∧ SA w' loS hiS g 0 rest ∧ Tr (fun b => b = g) wk w' from by
                have h := samt_at hk hw
                unfold Got at h
                rw [gA_amt rest haM] at h
                exact h))
              have q31 : ∀ wx, (Op.equalIn 10000 31 (.agg (W4 x.a)) (.agg (W4 x.a))).run Try.prog wx = .ok true wx := fun wx => by rw [eqU haM haM, decide_eq_true rfl]
              have hsub := vcells_amt x
              have hsz := W4_size x.a
              obtain ⟨A, hA⟩ : ∃ A, W4 x.a = A := ⟨_, rfl⟩
              rw [hA] at q31 hsub hsz
              simp only [hA] at km
              clear hv hk hbx hok c6 haM
              go_upto_region 29 with (fail)
              let L : List Sp := [sW 1 [] [] [] g (fun b => loS ≤ b ∧ b < hiS) (fun u => u = .agg A) (fun _ w => SA w loS hiS g 0 rest)]
              refine wp_region_six (shs L) (look6 L) (fun c => c = g) (by kernel_rfl) (by kernel_rfl) (mk_St L [1] [1] (by kernel_rfl) (by kernel_rfl) ⟨ok_W ⟨_, rfl⟩ (fun _ _ _ h hT => h.keep hT fun b h1 h2 hx => hx ⟨h1, h2⟩) hs.lt rfl (fun b hb => Nat.lt_of_lt_of_le hb.2 hh9), trivial⟩ (by simp)) ?_
              intro QQ hQ
              -- 0: t6
              refine stepK rfl (by kernel_rfl) (fun K hK => ?_); go_simp
              apply Exists.intro; apply And.intro; (focus (intro wk hk; go_simp; exact ⟨rfl, rfl⟩)); refine hK _ _ ?_; clear hK K
              -- 1: call F62(t74)
              refine stepS _ rfl (by kernel_rfl) (fun K hK => ?_); go_simp
              refine ⟨?_, ?_⟩
              · intro wk hk hg hu; go_simp; refine upon_enter ((km.out _ (hs.below hk.undrew.below) (Nat.le_trans (by omega) hk.undrew.below.size)).mono ?_); rintro e w' ⟨rfl, hf, ht⟩; exact ⟨_, rfl, left_W (p := fun u => u = .agg A) (f := fun _ w => SA w loS hiS g 0 rest) rfl rfl rfl ht hf⟩
              rintro ⟨v1, lo1, hi1⟩ - - (rfl : v1 = _)
              refine hK _ _ ?_; clear hK K
              -- 2: fieldAddr<59> t8.2
              refine stepKz rfl (fun K hK => ?_); go_simp
              apply Exists.intro; apply And.intro; (focus (intro wk hk; go_simp; exact ⟨rfl, rfl⟩)); refine hK _ _ ?_; clear hK K
              -- 3: load<31> *t76
              refine stepKz rfl (fun K hK => ?_); go_simp
              apply Exists.intro; apply And.intro; (focus exact kLoadMid rfl rfl aggT31 r5 hsub hsz (by first | exact id | (intro hc; have hc1 : cb = g := hc; omega))); refine hK _ _ ?_; clear hK K
              -- 4: eql<31> t75, t77
              refine stepKz rfl (fun K hK => ?_); go_simp
              apply Exists.intro; apply And.intro; (focus (intro wk hk; go_simp; exact ⟨rfl, rfl⟩)); refine hK _ _ ?_; clear hK K
              -- 5: assign t78
              refine stepKz rfl (fun K hK => ?_); go_simp
              apply Exists.intro; apply And.intro; (focus (intro wk hk; go_simp; exact ⟨rfl, rfl⟩)); refine hK _ _ ?_; clear hK K
              refine stepN ?_
              refine hQ _ _ ?_
              intro w3 hT hG hF
              have hT9 := hT.undrew
              have H3 := Lib.hid (HD.out w3 (Nat.le_trans (by omega) hT9.size) (hF 1 _ rfl rfl (by decide)) (by rw [← hlo]; exact hl.trans (hT9.below_of hl.size (by intro c hc; have hc' : c = g := hc; omega))))
              clear hT hT9 hG hF hQ QQ L hs hl km q31 hsub hsz HD r5 c0 c1
              go_wp2_with fail
              go_roundg gk2
              case measure => omega
              case rel => exact H3.out
            · have hkq1 : (k == 1) = false := by rw [beq_eq_false_iff_ne]; exact hk1
              have hv : vput x = enc x.b.length ++ x.b := by unfold vput; rw [if_neg (by omega), if_neg (by omega)]
              rw [hv] at hs
              have hX := gX_text (most := 100) rest (show x.b.length < 9223372036854775808 by omega) (by omega)
              have kx := Lib.hid (fun wk (hk : SA wk loS hiS g 0 ((enc x.b.length ++ x.b) ++ rest)) => (show Calls Try.prog 63 #[.pointer (some ⟨g, 0, none⟩), .int .i64 100] wk fun r w' => ∃ v, r = .returned v ∧ ObF (fun w => SA w loS hiS g 0 rest) x.b ⟨v, wk.heap.size, w'.heap.size⟩ w' ∧ Tr (fun b => b = g) wk w' from by
                refine (stext_at 100 hk).mono ?_
                rintro r w' ⟨v, rfl, ho, hs, ht⟩
                rw [hX] at ho hs
                exact ⟨v, rfl, ⟨ho, fun b hb => (ho.lt b hb).2, hs⟩, ht⟩))
              obtain ⟨B, hB⟩ : ∃ B, strOfNums x.b = B := ⟨_, rfl⟩
              replace hB := Lib.hid hB
              have hbo := Lib.hid (fun (wk : World) (hT : Tr (fun b => b = g) w2 wk) => Bs.oldT hok.bs (show w.heap.size ≤ g by omega) w2 wk hbx hT)
              clear hv hX hk hok c1
              go_upto_region 22 with (fail)
              let L : List Sp := [sU 1 [] [] [] g (fun b => loS ≤ b ∧ b < hiS) (fun _ => True) (ObF (fun w => SA w loS hiS g 0 rest) x.b), sV 2 [1] [1] (fun u => u = .string B)]
              refine wp_region_six (shs L) (look6 L) (fun c => c = g) (by kernel_rfl) (by kernel_rfl) (mk_St L [1] [1] (by kernel_rfl) (by kernel_rfl) ⟨ok_U ⟨⟨undef, _, _⟩, Nat.le_refl _, Nat.le_refl _, trivial⟩ (ObF.loc SA.loc) hs.lt rfl (fun b hb => Nat.lt_of_lt_of_le hb.2 hh9), ok_V ⟨_, rfl⟩, trivial⟩ (by simp)) ?_
              intro QQ hQ
              -- 0: t6
              refine stepK rfl (by kernel_rfl) (fun K hK => ?_); go_simp
              apply Exists.intro; apply And.intro; (focus (intro wk hk; go_simp; exact ⟨rfl, rfl⟩)); refine hK _ _ ?_; clear hK K
              -- 1: call F63(t55, 100)
              refine stepS _ rfl (by kernel_rfl) (fun K hK => ?_); go_simp
              refine ⟨?_, ?_⟩
              · intro wk hk hg hu; go_simp; refine upon_enter ((kx.out _ (hs.below hk.undrew.below)).mono ?_); rintro e w' ⟨u, rfl, hf, ht⟩; exact ⟨_, rfl, left_U rfl rfl trivial ht hf⟩
              rintro ⟨v1, lo1, hi1⟩ - - -
              refine hK _ _ ?_; clear hK K
              -- 2: convert<33->9> t56
              refine stepSz _ rfl (fun K hK => ?_); go_simp
              refine ⟨?_, ?_⟩
              · intro wk hk hg hu; have u1 : ObF (fun w => SA w loS hiS g 0 rest) x.b ⟨v1, _, _⟩ wk := hu 1 (show 1 ∈ [1] by decide); have cv := Bs.convA u1.1.bs; rw [hB.out] at cv; go_simp; exact left_V (p := fun u => u = .string B) rfl (Below.refl _ _) rfl
              rintro ⟨v2, lo2, hi2⟩ - - (rfl : v2 = _)
              refine hK _ _ ?_; clear hK K
              -- 3: fieldAddr<59> t8.3
              refine stepKz rfl (fun K hK => ?_); go_simp
              apply Exists.intro; apply And.intro; (focus (intro wk hk; go_simp; exact ⟨rfl, rfl⟩)); refine hK _ _ ?_; clear hK K
              -- 4: load<33> *t58
              refine stepKz rfl (fun K hK => ?_); go_simp
              apply Exists.intro; apply And.intro; (focus (intro wk hk; have cc : wk.cell? ⟨cb, 6, none⟩ = some x.v := (K6.Row.tr r5 hk.undrew (by first | exact id | (intro hc; have hc1 : cb = g := hc; omega))).cell 6; go_simp; exact ⟨rfl, rfl⟩)); refine hK _ _ ?_; clear hK K
              -- 5: convert<33->9> t59
              refine stepKz rfl (fun K hK => ?_); go_simp
              apply Exists.intro; apply And.intro; (focus (intro wk hk; have cv := Bs.convA (by first | exact hbo.out _ hk.undrew | exact hbx.below hk.undrew.below); rw [hB.out] at cv; go_simp; exact ⟨rfl, rfl⟩)); refine hK _ _ ?_; clear hK K
              -- 6: eql<9> t57, t60
              refine stepKz rfl (fun K hK => ?_); go_simp
              apply Exists.intro; apply And.intro; (focus (intro wk hk; go_simp; exact ⟨rfl, rfl⟩)); refine hK _ _ ?_; clear hK K
              -- 7: assign t61
              refine stepKz rfl (fun K hK => ?_); go_simp
              apply Exists.intro; apply And.intro; (focus (intro wk hk; go_simp; exact ⟨rfl, rfl⟩)); refine hK _ _ ?_; clear hK K
              refine stepN ?_
              refine hQ _ _ ?_
              intro w3 hT hG hF
              have hT9 := hT.undrew
              have H3 := Lib.hid (HD.out w3 (Nat.le_trans (by omega) hT9.size) (hF 1 _ rfl rfl (by decide) : ObF (fun w => SA w loS hiS g 0 rest) x.b _ w3).2.2 (by rw [← hlo]; exact hl.trans (hT9.below_of hl.size (by intro c hc; have hc' : c = g := hc; omega))))
              clear hT hT9 hG hF hQ QQ L hs hl kx hbo hbx hB HD r5 c0 c6
              go_wp2_with fail
              go_roundg gk2
              case measure => omega
              case rel => exact H3.out
        · obtain rfl : j = i := by omega
          obtain rfl : gk = 0 := by omega
          have hlt2 : ¬ (j : Int) < (j : Int) := by omega
          obtain ⟨hs, hl⟩ := hinv.out
          replace hs : SA wv loS hiS g 0 [] := hs
          have kL := Lib.hid (left_at hs)
          have kE := Lib.hid (end_V (F := 0) hs (by unfold edE; rfl))
          have HL := Lib.hid hl
          clear hs hl hinv
          go_wp2_with fail
          refine kL.out.mono ?_
          rintro r w5 ⟨rfl, rfl⟩
          clear kL
          go_wp2_with fail
          refine kE.out.mono ?_
          rintro r w6 ⟨rfl, -, ht⟩
          have hl9 := HL.out.trans (ht.below_of (by omega) (by intro c hc; have hc' : c = g := hc; omega))
          clear kE ht HL
          go_wp2_with fail
          refine (lv.out _).mono ?_
          rintro e w9 ⟨rfl, hb⟩
          have H9 := Lib.hid (hl9.trans (hb.mono (by rw [← hlo]; exact hl9.size)))
          clear hb
          go_wp2_with fail
          go_ret
          exact ⟨rfl, by rw [hlo]; exact H9.out⟩
end Go.Proofs.Ytpdenhmkpiafiaa
