/-
  tallageref01.Parse (97).
-/
import Derived.Test.YtpdenhmkpiafiaaRefForm2
namespace Go.Proofs.Ytpdenhmkpiafiaa
open Go Go.RowKit K6 Ref

def decN (s : ByteArray) : Nat → Nat
  | 0 => 0
  | i + 1 => decN s i * 10 + (chr s i - 48)
def Digs (s : ByteArray) (i : Nat) : Prop := ∀ j, j < i → 48 ≤ chr s j ∧ chr s j ≤ 57
theorem decN_lt {s : ByteArray} : ∀ i, Digs s i → decN s i < 10 ^ i
  | 0, _ => by simp [decN]
  | i + 1, h => by
    have h1 := decN_lt i fun j hj => h j (by omega)
    have h2 := h i (by omega)
    unfold decN
    rw [Nat.pow_succ]
    omega
theorem pAt_dec {s : ByteArray} : ∀ i, Digs s i → pAt s i = if decN s i < M then some (decN s i) else none
  | 0, _ => by rw [show decN s 0 = 0 from rfl, if_pos M_pos]; rfl
  | i + 1, h => by
    have h1 := pAt_dec i fun j hj => h j (by omega)
    have h2 := h i (by omega)
    have e : decN s (i + 1) = decN s i * 10 + (chr s i - 48) := rfl
    by_cases hv : decN s i < M
    · rw [if_pos hv] at h1
      by_cases hn : decN s (i + 1) < M
      · rw [if_pos hn, pAt_good h1 ⟨h2.1, h2.2, by omega, by omega⟩, e]
      · rw [if_neg hn, pAt_bad h1 (by omega)]
    · rw [if_neg hv] at h1
      rw [if_neg (by omega)]
      exact pAt_none s h1 1
theorem parsN_dec {s : ByteArray} (h0 : s.size ≠ 0) (h78 : s.size ≤ 78) (hno : chr s 0 ≠ 48 ∨ s.size = 1) (h : Digs s s.size) : (parsN s).getD 0 = capN (decN s s.size) ∧ (parsN s).isSome = decide (decN s s.size < M) := by
  have e : parsN s = pAt s s.size := by unfold parsN; rw [if_neg (by omega)]
  rw [e, pAt_dec _ h]
  unfold capN
  by_cases hv : decN s s.size < M
  · rw [if_pos hv, if_pos hv, decide_eq_true hv]; exact ⟨rfl, rfl⟩
  · rw [if_neg hv, if_neg hv, decide_eq_false hv]; exact ⟨rfl, rfl⟩
theorem pAt_char {s : ByteArray} {i : Nat} (h : chr s i < 48 ∨ 57 < chr s i) : pAt s (i + 1) = none := by
  cases hv : pAt s i with
  | none => exact pAt_none s hv 1
  | some v => exact pAt_bad hv (by omega)
theorem parsN_char {s : ByteArray} {i : Nat} (hi : i < s.size) (h : chr s i < 48 ∨ 57 < chr s i) : (parsN s).getD 0 = 0 ∧ (parsN s).isSome = false := by
  rw [parsN_bad (i := i + 1) (by omega) (pAt_char h)]
  exact ⟨rfl, rfl⟩
theorem p78 : 10 ^ 78 < M * M := by decide
set_option maxRecDepth 100000 in
set_option maxHeartbeats 4000000 in
theorem refparse_head (s : ByteArray) (hs : s.size = 0 ∨ 78 < s.size ∨ (chr s 0 = 48 ∧ 1 < s.size)) (w : World) : Calls Try.prog 97 #[.string s] w (Ret w (.tuple #[.agg (W4 0), .bool false])) := by
  have r0 : Row (w.alloc (.cells #[Value.int .u64 0, Value.int .u64 0, Value.int .u64 0, Value.int .u64 0] 31)) w.heap.size 31 #[Value.int .u64 0, Value.int .u64 0, Value.int .u64 0, Value.int .u64 0] := by
    repeat (first | (refine Row.new_at ?_; simp; done) | refine Row.alloc ?_ _)
  have e0 := r0.cell 0
  have e1 := r0.cell 1
  have e2 := r0.cell 2
  have e3 := r0.cell 3
  by_cases h0 : s.size = 0
  · obtain rfl : s = ⟨#[]⟩ := by
      obtain ⟨d⟩ := s
      exact congrArg _ (Array.eq_empty_of_size_eq_zero h0)
    clear hs
    go_enter Try.func97, Try.ntmps97
    go_wp2_with fail
    all_goals
      refine bodyPost_ret (results_ct rfl aggT31 rfl r0 rfl) rfl ?_
      exact ⟨by rw [← W4_zero]; rfl, by go_grown⟩
  · obtain ⟨hE, hE2⟩ := toList_ne h0
    by_cases h1 : 78 < s.size
    · have h2 : (78 : Int) < (s.size : Int) := by omega
      clear hs
      go_enter Try.func97, Try.ntmps97
      go_wp2_with fail
      all_goals
        refine bodyPost_ret (results_ct rfl aggT31 rfl r0 rfl) rfl ?_
        exact ⟨by rw [← W4_zero]; rfl, by go_grown⟩
    · have h2 : (s.size : Int) ≤ 78 := by omega
      have h3 : chr s 0 = 48 := by omega
      have h4 : (1 : Int) < (s.size : Int) := by omega
      have h5 : 0 < s.size := by omega
      have h6 : 1 < s.size := by omega
      have h8 : s.size ≤ 78 := by omega
      have h7 := chr_at s 0 h5
      rw [h3] at h7
      clear hs
      go_enter Try.func97, Try.ntmps97
      go_wp2_with fail
      all_goals
        refine bodyPost_ret (results_ct rfl aggT31 rfl r0 rfl) rfl ?_
        exact ⟨by rw [← W4_zero]; rfl, by go_grown⟩
set_option maxRecDepth 100000 in
set_option maxHeartbeats 16000000 in
theorem refparse_body (s : ByteArray) (h0 : s.size ≠ 0) (h78 : s.size ≤ 78) (hno : chr s 0 ≠ 48 ∨ s.size = 1) (w : World) :
    Calls Try.prog 97 #[.string s] w (Ret w (.tuple #[.agg (W4 ((parsN s).getD 0)), .bool (parsN s).isSome])) := by
  obtain ⟨hE, hE2⟩ := toList_ne h0
  have h2 : (s.size : Int) ≤ 78 := by omega
  have h5 : 0 < s.size := by omega
  have h7 := chr_at s 0 h5
  have h10 : ((1 : Int) < (s.size : Int) ∧ chr s 0 ≠ 48) ∨ (s.size : Int) ≤ 1 := by omega
  have FIN := Lib.hid (fun h => parsN_dec (s := s) h0 h78 hno h)
  have BAD := Lib.hid (fun i hi h => parsN_char (s := s) (i := i) hi h)
  have h15 : ((s.size : Int) == 0) = false := by rw [beq_eq_false_iff_ne]; omega
  have h16 : ¬ (78 : Int) < (s.size : Int) := by omega
  rcases h10 with ⟨h11, h13⟩ | h11
  · have h14 : (((chr s 0 : Nat) : Int) == 48) = false := by rw [beq_eq_false_iff_ne]; omega
    clear hno h0 h78 h2
    go_enter Try.func97, Try.ntmps97
    go_wp2_with fail
    go_loopg [4, 5] s.size (fun gg s4 s5 wr => ∃ (i : Nat), i + gg = s.size ∧ s5 = .int .i64 (i : Int) ∧ Sl wr s4 (digs (decN s i)) ∧ Digs s i ∧ Below w.heap.size w wr ∧ Row wr w.heap.size 31 (arr .u64 (fun _ => 0) 4))
    case atStart =>
      refine ⟨0, by omega, rfl, ?_, fun j hj => absurd hj (by omega), by go_grown, Row.new_at rfl⟩
      rw [show decN s 0 = 0 from rfl, digs_zero]
      exact ⟨none, 0, rfl, Nat.le_refl _, fun _ => rfl, fun a ha => (by cases ha)⟩
    case round =>
      obtain ⟨i, hi, rfl, sy, hD, hl, rr⟩ := hrel
      by_cases hlt : i < s.size
      · have hci := chr_at s i hlt
        have hlt2 : (i : Int) < (s.size : Int) := by omega
        have hcl := chr_lt s i
        by_cases hb : chr s i < 48 ∨ 57 < chr s i
        · have hv := Lib.hid (BAD.out i hlt hb)
          have e0 := rr.at_ 0 (by omega)
          have e1 := rr.at_ 1 (by omega)
          have e2 := rr.at_ 2 (by omega)
          have e3 := rr.at_ 3 (by omega)
          have f0 := rr.frozen 0
          have f1 := rr.frozen 1
          have f2 := rr.frozen 2
          have f3 := rr.frozen 3
          have H := Lib.hid rr
          clear rr sy hD
          rcases hb with hb | hb
          · have hb2 : ((chr s i : Nat) : Int) < 48 := by omega
            go_wp2_with fail
            refine bodyPost_ret (results_ct rfl aggT31 rfl (H.out.store4 rfl _ _ _ _) rfl) rfl ?_
            exact ⟨by rw [hv.out.1, hv.out.2, ← W4_zero]; rfl, by go_grown⟩
          · have hb2 : (48 : Int) ≤ ((chr s i : Nat) : Int) := by omega
            have hb3 : (57 : Int) < ((chr s i : Nat) : Int) := by omega
            go_wp2_with fail
            refine bodyPost_ret (results_ct rfl aggT31 rfl (H.out.store4 rfl _ _ _ _) rfl) rfl ?_
            exact ⟨by rw [hv.out.1, hv.out.2, ← W4_zero]; rfl, by go_grown⟩
        · have hb2 : (48 : Int) ≤ ((chr s i : Nat) : Int) := by omega
          have hb3 : ((chr s i : Nat) : Int) ≤ 57 := by omega
          have hDv := decN_lt i hD
          have hD2 : Digs s (i + 1) := fun j hj => by
            rcases Nat.lt_or_ge j i with h | h
            · exact hD j h
            · obtain rfl : j = i := by omega
              omega
          have hv10 : 10 ^ (i + 1) ≤ 10 ^ 78 := Nat.pow_le_pow_right (by decide) (by omega)
          have hdec : decN s (i + 1) = decN s i * 10 + (chr s i - 48) := rfl
          obtain ⟨v, hv⟩ : ∃ v, decN s i = v := ⟨_, rfl⟩
          rw [hv] at sy hDv hdec
          rw [Nat.pow_succ] at hv10
          have hp := p78
          obtain ⟨d, hd⟩ : ∃ d, chr s i - 48 = d := ⟨_, rfl⟩
          rw [hd] at hdec
          have hd9 : d ≤ 9 := by omega
          have hvM : v * 10 + d < M * M := by omega
          have ec : ((chr s i : Nat) : Int) - 48 = (d : Int) := by omega
          have w8 : IntKind.u8.wrap (d : Int) = (d : Int) := by rw [IntKind.wrap_u8]; omega
          have w32 : IntKind.u32.wrap (d : Int) = (d : Int) := by rw [IntKind.wrap_u32]; omega
          have tm : ∀ wx x y, Sl wx x (digs v) → Sl wx y [10] → Calls Try.prog 167 #[x, y] wx fun e w' => ∃ r, e = .returned r ∧ Sl w' r (digs (v * 10)) ∧ Below wx.heap.size wx w' := fun wx x y s1 s2 => by
            have := times_any x y _ [10] wx (dig_digs v) (by intro z hz; rw [List.mem_singleton.1 hz]; decide) s1 s2 (by have := len7 (n := v) (by omega); omega) (by decide)
            rw [val_digs, show val [10] = 10 by decide] at this
            exact this
          have tr : ∀ wx x, Sl wx x [d] → Calls Try.prog 197 #[x] wx fun e w' => ∃ r, e = .returned r ∧ Sl w' r (digs d) ∧ Below wx.heap.size wx w' := fun wx x s1 => by
            refine (trim_any x [d] wx (by intro z hz; rw [List.mem_singleton.1 hz]; simp only [B]; omega) s1 (by simp)).mono ?_
            rintro e w' ⟨rfl, u, rfl, hu⟩
            rw [show val [d] = d by simp [val]] at hu
            exact ⟨_, rfl, hu, Below.refl _ _⟩
          have pl : ∀ wx x y, Sl wx x (digs (v * 10)) → Sl wx y (digs d) → Calls Try.prog 163 #[x, y] wx fun e w' => ∃ r, e = .returned r ∧ Sl w' r (digs (v * 10 + d)) ∧ Below wx.heap.size wx w' := fun wx x y s1 s2 => by
            have := plus_any x y _ _ wx (dig_digs (v * 10)) (dig_digs d) s1 s2 (len9 (by omega)) (len9 (by omega))
            rw [val_digs, val_digs] at this
            exact this
          replace tm := Lib.hid tm
          replace tr := Lib.hid tr
          replace pl := Lib.hid pl
          have H := Lib.hid (show _ ∧ _ ∧ _ ∧ _ ∧ _ from ⟨hl, rr, sy, hD2, hdec⟩)
          clear hl rr sy hD hD2 hdec hv10 hp hDv hd hv hvM hd9
          go_upto_region 9 with (fail)
          obtain ⟨hl, rr, sy, hD2, hdec⟩ := H.out
          refine wp_abs (fun wx => Below w.heap.size w wx ∧ Row wx w.heap.size 31 (arr .u64 (fun _ => 0) 4) ∧ Sl wx u4 (digs v)) ⟨hl, rr, sy⟩ ?_
          clear hl rr sy H
          rintro w3 ⟨hl, rr, sy⟩
          let L : List Sp := [sL 1 181 [] 1 #[.int .u32 10], sF 2 [1] [1] [] (fun _ => True) (fun x w => Sl w x.v (digs (v * 10))), sL 8 181 [] 1 #[.int .u32 ((d : Nat) : Int)], sF 9 [8] [8] [] (fun _ => True) (fun x w => Sl w x.v (digs (d))), sF 10 [2, 9, 1, 8] [2, 9] [] (fun _ => True) (fun x w => Sl w x.v (digs (v * 10 + d)))]
          refine wp_region_six (shs L) (look6 L) (None_) (by kernel_rfl) (by kernel_rfl) (mk_St L [] [] (by kernel_rfl) (by kernel_rfl) ⟨ok_L, ok_F (any_some _) (fun _ _ _ h hb => Sl.below h hb), ok_L, ok_F (any_some _) (fun _ _ _ h hb => Sl.below h hb), ok_F (any_some _) (fun _ _ _ h hb => Sl.below h hb), trivial⟩ (by simp)) ?_
          intro QQ hQ
          -- 0: t4
          refine stepK rfl (by kernel_rfl) (fun K hK => ?_); go_simp
          apply Exists.intro; apply And.intro; (focus (intro wk hk; go_simp; exact ⟨rfl, rfl⟩)); refine hK _ _ ?_; clear hK K
          -- 1: buildSlice<153> len 1 0:10u32
          refine stepS _ rfl (by kernel_rfl) (fun K hK => ?_); go_simp
          refine ⟨?_, ?_⟩
          · intro wk hk hg hu; go_simp; exact left_L rfl rfl
          rintro ⟨v1, lo1, hi1⟩ hlo1 hhi1 ⟨e1, f1⟩
          replace e1 : v1 = .slice (some ⟨lo1, 0, none⟩) 1 1 := e1; replace f1 : hi1 = lo1 + 1 := f1; replace hlo1 : _ ≤ lo1 := hlo1; subst e1; subst f1
          refine hK _ _ ?_; clear hK K
          -- 2: call F167(t42, t43)
          refine stepS _ rfl (by kernel_rfl) (fun K hK => ?_); go_simp
          refine ⟨?_, ?_⟩
          · intro wk hk hg hu; have u1 := hu 1 (show 1 ∈ [1] by decide); have r1 : Row wk lo1 181 #[.int .u32 10] := And.right (a := lo1 + 1 = lo1 + 1) u1; go_simp; refine upon_enter ((tm.out _ _ _ (sy.below hk.undrew.below) (sl_single (x := 10) r1)).mono ?_); rintro e w' ⟨v, rfl, hv, hb⟩; exact ⟨_, rfl, left_F rfl rfl hb trivial hv⟩
          rintro ⟨v2, lo2, hi2⟩ - - -
          refine hK _ _ ?_; clear hK K
          -- 3: t0
          refine stepK rfl (by kernel_rfl) (fun K hK => ?_); go_simp
          apply Exists.intro; apply And.intro; (focus (intro wk hk; go_simp; exact ⟨rfl, rfl⟩)); refine hK _ _ ?_; clear hK K
          -- 4: t5
          refine stepK rfl (by kernel_rfl) (fun K hK => ?_); go_simp
          apply Exists.intro; apply And.intro; (focus (intro wk hk; go_simp; exact ⟨rfl, rfl⟩)); refine hK _ _ ?_; clear hK K
          -- 5: index<9> t45[t46]
          refine stepK rfl (by kernel_rfl) (fun K hK => ?_); go_simp
          apply Exists.intro; apply And.intro; (focus (intro wk hk; go_simp; exact ⟨rfl, rfl⟩)); refine hK _ _ ?_; clear hK K
          -- 6: sub<5> t47, 48b
          refine stepK rfl (by kernel_rfl) (fun K hK => ?_); go_simp
          apply Exists.intro; apply And.intro; (focus (intro wk hk; go_simp; exact ⟨rfl, rfl⟩)); refine hK _ _ ?_; clear hK K
          -- 7: convert<5->181> t48
          refine stepK rfl (by kernel_rfl) (fun K hK => ?_); go_simp
          apply Exists.intro; apply And.intro; (focus (intro wk hk; go_simp; exact ⟨rfl, rfl⟩)); refine hK _ _ ?_; clear hK K
          -- 8: buildSlice<153> len 1 0:t49
          refine stepS _ rfl (by kernel_rfl) (fun K hK => ?_); go_simp
          refine ⟨?_, ?_⟩
          · intro wk hk hg hu; go_simp; exact left_L rfl rfl
          rintro ⟨v8, lo8, hi8⟩ hlo8 hhi8 ⟨e8, f8⟩
          replace e8 : v8 = .slice (some ⟨lo8, 0, none⟩) 1 1 := e8; replace f8 : hi8 = lo8 + 1 := f8; replace hlo8 : _ ≤ lo8 := hlo8; subst e8; subst f8
          refine hK _ _ ?_; clear hK K
          -- 9: call F197(t50)
          refine stepS _ rfl (by kernel_rfl) (fun K hK => ?_); go_simp
          refine ⟨?_, ?_⟩
          · intro wk hk hg hu; have u8 := hu 8 (show 8 ∈ [8] by decide); have r8 : Row wk lo8 181 #[.int .u32 ((d : Nat) : Int)] := And.right (a := lo8 + 1 = lo8 + 1) u8; go_simp; refine upon_enter ((tr.out _ _ (sl_single r8)).mono ?_); rintro e w' ⟨v, rfl, hv, hb⟩; exact ⟨_, rfl, left_F rfl rfl hb trivial hv⟩
          rintro ⟨v9, lo9, hi9⟩ - - -
          refine hK _ _ ?_; clear hK K
          -- 10: call F163(t44, t51)
          refine stepS _ rfl (by kernel_rfl) (fun K hK => ?_); go_simp
          refine ⟨?_, ?_⟩
          · intro wk hk hg hu; have u2 := hu 2 (show 2 ∈ [2, 9] by decide); have u9 := hu 9 (show 9 ∈ [2, 9] by decide); have s2 : Sl wk v2 (digs (v * 10)) := u2; have s9 : Sl wk v9 (digs d) := u9; go_simp; refine upon_enter ((pl.out _ _ _ s2 s9).mono ?_); rintro e w' ⟨v, rfl, hv, hb⟩; exact ⟨_, rfl, left_F rfl rfl hb trivial hv⟩
          rintro ⟨v10, lo10, hi10⟩ - - -
          refine hK _ _ ?_; clear hK K
          -- 11: assign t52
          refine stepK rfl (by kernel_rfl) (fun K hK => ?_); go_simp
          apply Exists.intro; apply And.intro; (focus (intro wk hk; go_simp; exact ⟨rfl, rfl⟩)); refine hK _ _ ?_; clear hK K
          refine stepN ?_
          refine hQ _ _ ?_
          intro w4 hT hG hF
          have hb4 := hT.undrew.below
          have s10 : Sl w4 v10 (digs (v * 10 + d)) := hF 10 _ rfl rfl (by decide)
          have H := Lib.hid (show _ ∧ _ ∧ _ ∧ _ ∧ _ from ⟨hl.trans (hb4.mono hl.size), rr.below hb4 rr.lt, s10, hD2, hdec⟩)
          clear hT hG hF hb4 hQ QQ L hl rr sy s10 hD2 hdec tm tr pl ec w8 w32
          go_wp2_with fail
          go_roundg (gk - 1)
          case measure => omega
          case rel =>
            obtain ⟨hl, rr, sy, hD2, hdec⟩ := H.out
            exact ⟨i + 1, by omega, by go_num, by rw [hdec]; exact sy, hD2, hl, rr⟩
      · obtain rfl : i = s.size := by omega
        have hix : ¬ (s.size : Int) < (s.size : Int) := by omega
        have F := FIN.out hD
        have hDv := decN_lt s.size hD
        have hv10 : 10 ^ s.size ≤ 10 ^ 78 := Nat.pow_le_pow_right (by decide) (by omega)
        have tq := Lib.hid (tou2 (a := decN s s.size) (by have := p78; omega))
        obtain ⟨q, hq⟩ : ∃ q, capN (decN s s.size) = q := ⟨_, rfl⟩
        obtain ⟨ok, hok⟩ : ∃ ok, decide (decN s s.size < M) = ok := ⟨_, rfl⟩
        rw [hq, hok] at tq
        have HF := Lib.hid (show (parsN s).getD 0 = q ∧ (parsN s).isSome = ok from ⟨F.1.trans hq, F.2.trans hok⟩)
        have H := Lib.hid (show _ ∧ _ ∧ _ from ⟨hl, rr, sy⟩)
        clear hl rr sy F hDv hv10 hq hok hD hlt
        go_upto_region 10 with (fail)
        obtain ⟨hl, rr, sy⟩ := H.out
        refine wp_abs (fun wx => Below w.heap.size w wx ∧ Row wx w.heap.size 31 (arr .u64 (fun _ => 0) 4) ∧ Sl wx u4 (digs (decN s s.size))) ⟨hl, rr, sy⟩ ?_
        clear hl rr sy H
        rintro w3 ⟨hl, rr, sy⟩
        let L : List Sp := [sV 1 [] [] (fun u => u = .tuple #[.agg (W4 q), .bool ok]), sO 4 (w.heap.size) 31 [2] (fun g => aggOf g 2)]
        refine wp_region_six0 (shs L) (look6 L) (fun c => c = w.heap.size) (by kernel_rfl) (by kernel_rfl) (mk_St L [4] [4] (by kernel_rfl) (by kernel_rfl) ⟨ok_V ⟨_, rfl⟩, ok_O aggOf_congr rr.lt (rfl), trivial⟩ (by simp)) ?_
        intro QQ hQ
        -- 0: t4
        refine stepK rfl (by kernel_rfl) (fun K hK => ?_); go_simp
        apply Exists.intro; apply And.intro; (focus (intro wk hk; go_simp; exact ⟨rfl, rfl⟩)); refine hK _ _ ?_; clear hK K
        -- 1: call F172(t53)
        refine stepS _ rfl (by kernel_rfl) (fun K hK => ?_); go_simp
        refine ⟨?_, ?_⟩
        · intro wk hk hg hu; go_simp; refine upon_enter ((tq.out _ _ (sy.below hk.below)).mono ?_); rintro e w' ⟨rfl, hb⟩; exact ⟨_, rfl, left_V (p := fun u => u = .tuple #[.agg (W4 q), .bool ok]) rfl (hb) rfl⟩
        rintro ⟨v1, lo1, hi1⟩ - - (rfl : v1 = _)
        refine hK _ _ ?_; clear hK K
        -- 2: extract t54 #0
        refine stepK rfl (by kernel_rfl) (fun K hK => ?_); go_simp
        apply Exists.intro; apply And.intro; (focus (intro wk hk; go_simp; exact ⟨rfl, rfl⟩)); refine hK _ _ ?_; clear hK K
        -- 3: extract t54 #1
        refine stepK rfl (by kernel_rfl) (fun K hK => ?_); go_simp
        apply Exists.intro; apply And.intro; (focus (intro wk hk; go_simp; exact ⟨rfl, rfl⟩)); refine hK _ _ ?_; clear hK K
        -- 4: store<31> *t2 = t55
        refine stepS _ rfl (by kernel_rfl) (fun K hK => ?_); go_simp
        refine ⟨?_, ?_⟩
        · exact sStoreO rfl rfl rfl rfl rfl rfl rr id (by kernel_rfl) rfl (by kernel_rfl) (by decide) aggOf_congr
        rintro ⟨v4, lo4, hi4⟩ - - (rfl : v4 = undef)
        refine hK _ _ ?_; clear hK K
        -- 5: assign t56
        refine stepKz rfl (fun K hK => ?_); go_simp
        apply Exists.intro; apply And.intro; (focus (intro wk hk; go_simp; exact ⟨rfl, rfl⟩)); refine hK _ _ ?_; clear hK K
        refine stepN ?_
        refine hQ _ _ ?_
        intro w9 hT hG hF
        have hT' := hT
        have x2 : Row w9 (w.heap.size) 31 (W4 q) := hF 4 _ rfl rfl (by decide)
        have hl9 : Below w.heap.size w w9 := hl.trans (hT'.below_of hl.size (by intro c hc; omega))
        clear hT hT' hG hF hQ QQ L
        go_wp2_with fail
        refine bodyPost_ret (results_ct rfl aggT31 rfl x2 rfl) rfl ?_
        exact ⟨by rw [HF.out.1, HF.out.2]; rfl, hl9⟩
  · clear hno h0 h78 h2
    go_enter Try.func97, Try.ntmps97
    go_wp2_with fail
    go_loopg [4, 5] s.size (fun gg s4 s5 wr => ∃ (i : Nat), i + gg = s.size ∧ s5 = .int .i64 (i : Int) ∧ Sl wr s4 (digs (decN s i)) ∧ Digs s i ∧ Below w.heap.size w wr ∧ Row wr w.heap.size 31 (arr .u64 (fun _ => 0) 4))
    case atStart =>
      refine ⟨0, by omega, rfl, ?_, fun j hj => absurd hj (by omega), by go_grown, Row.new_at rfl⟩
      rw [show decN s 0 = 0 from rfl, digs_zero]
      exact ⟨none, 0, rfl, Nat.le_refl _, fun _ => rfl, fun a ha => (by cases ha)⟩
    case round =>
      obtain ⟨i, hi, rfl, sy, hD, hl, rr⟩ := hrel
      by_cases hlt : i < s.size
      · have hci := chr_at s i hlt
        have hlt2 : (i : Int) < (s.size : Int) := by omega
        have hcl := chr_lt s i
        by_cases hb : chr s i < 48 ∨ 57 < chr s i
        · have hv := Lib.hid (BAD.out i hlt hb)
          have e0 := rr.at_ 0 (by omega)
          have e1 := rr.at_ 1 (by omega)
          have e2 := rr.at_ 2 (by omega)
          have e3 := rr.at_ 3 (by omega)
          have f0 := rr.frozen 0
          have f1 := rr.frozen 1
          have f2 := rr.frozen 2
          have f3 := rr.frozen 3
          have H := Lib.hid rr
          clear rr sy hD
          rcases hb with hb | hb
          · have hb2 : ((chr s i : Nat) : Int) < 48 := by omega
            go_wp2_with fail
            refine bodyPost_ret (results_ct rfl aggT31 rfl (H.out.store4 rfl _ _ _ _) rfl) rfl ?_
            exact ⟨by rw [hv.out.1, hv.out.2, ← W4_zero]; rfl, by go_grown⟩
          · have hb2 : (48 : Int) ≤ ((chr s i : Nat) : Int) := by omega
            have hb3 : (57 : Int) < ((chr s i : Nat) : Int) := by omega
            go_wp2_with fail
            refine bodyPost_ret (results_ct rfl aggT31 rfl (H.out.store4 rfl _ _ _ _) rfl) rfl ?_
            exact ⟨by rw [hv.out.1, hv.out.2, ← W4_zero]; rfl, by go_grown⟩
        · have hb2 : (48 : Int) ≤ ((chr s i : Nat) : Int) := by omega
          have hb3 : ((chr s i : Nat) : Int) ≤ 57 := by omega
          have hDv := decN_lt i hD
          have hD2 : Digs s (i + 1) := fun j hj => by
            rcases Nat.lt_or_ge j i with h | h
            · exact hD j h
            · obtain rfl : j = i := by omega
              omega
          have hv10 : 10 ^ (i + 1) ≤ 10 ^ 78 := Nat.pow_le_pow_right (by decide) (by omega)
          have hdec : decN s (i + 1) = decN s i * 10 + (chr s i - 48) := rfl
          obtain ⟨v, hv⟩ : ∃ v, decN s i = v := ⟨_, rfl⟩
          rw [hv] at sy hDv hdec
          rw [Nat.pow_succ] at hv10
          have hp := p78
          obtain ⟨d, hd⟩ : ∃ d, chr s i - 48 = d := ⟨_, rfl⟩
          rw [hd] at hdec
          have hd9 : d ≤ 9 := by omega
          have hvM : v * 10 + d < M * M := by omega
          have ec : ((chr s i : Nat) : Int) - 48 = (d : Int) := by omega
          have w8 : IntKind.u8.wrap (d : Int) = (d : Int) := by rw [IntKind.wrap_u8]; omega
          have w32 : IntKind.u32.wrap (d : Int) = (d : Int) := by rw [IntKind.wrap_u32]; omega
          have tm : ∀ wx x y, Sl wx x (digs v) → Sl wx y [10] → Calls Try.prog 167 #[x, y] wx fun e w' => ∃ r, e = .returned r ∧ Sl w' r (digs (v * 10)) ∧ Below wx.heap.size wx w' := fun wx x y s1 s2 => by
            have := times_any x y _ [10] wx (dig_digs v) (by intro z hz; rw [List.mem_singleton.1 hz]; decide) s1 s2 (by have := len7 (n := v) (by omega); omega) (by decide)
            rw [val_digs, show val [10] = 10 by decide] at this
            exact this
          have tr : ∀ wx x, Sl wx x [d] → Calls Try.prog 197 #[x] wx fun e w' => ∃ r, e = .returned r ∧ Sl w' r (digs d) ∧ Below wx.heap.size wx w' := fun wx x s1 => by
            refine (trim_any x [d] wx (by intro z hz; rw [List.mem_singleton.1 hz]; simp only [B]; omega) s1 (by simp)).mono ?_
            rintro e w' ⟨rfl, u, rfl, hu⟩
            rw [show val [d] = d by simp [val]] at hu
            exact ⟨_, rfl, hu, Below.refl _ _⟩
          have pl : ∀ wx x y, Sl wx x (digs (v * 10)) → Sl wx y (digs d) → Calls Try.prog 163 #[x, y] wx fun e w' => ∃ r, e = .returned r ∧ Sl w' r (digs (v * 10 + d)) ∧ Below wx.heap.size wx w' := fun wx x y s1 s2 => by
            have := plus_any x y _ _ wx (dig_digs (v * 10)) (dig_digs d) s1 s2 (len9 (by omega)) (len9 (by omega))
            rw [val_digs, val_digs] at this
            exact this
          replace tm := Lib.hid tm
          replace tr := Lib.hid tr
          replace pl := Lib.hid pl
          have H := Lib.hid (show _ ∧ _ ∧ _ ∧ _ ∧ _ from ⟨hl, rr, sy, hD2, hdec⟩)
          clear hl rr sy hD hD2 hdec hv10 hp hDv hd hv hvM hd9
          go_upto_region 9 with (fail)
          obtain ⟨hl, rr, sy, hD2, hdec⟩ := H.out
          refine wp_abs (fun wx => Below w.heap.size w wx ∧ Row wx w.heap.size 31 (arr .u64 (fun _ => 0) 4) ∧ Sl wx u4 (digs v)) ⟨hl, rr, sy⟩ ?_
          clear hl rr sy H
          rintro w3 ⟨hl, rr, sy⟩
          let L : List Sp := [sL 1 181 [] 1 #[.int .u32 10], sF 2 [1] [1] [] (fun _ => True) (fun x w => Sl w x.v (digs (v * 10))), sL 8 181 [] 1 #[.int .u32 ((d : Nat) : Int)], sF 9 [8] [8] [] (fun _ => True) (fun x w => Sl w x.v (digs (d))), sF 10 [2, 9, 1, 8] [2, 9] [] (fun _ => True) (fun x w => Sl w x.v (digs (v * 10 + d)))]
          refine wp_region_six (shs L) (look6 L) (None_) (by kernel_rfl) (by kernel_rfl) (mk_St L [] [] (by kernel_rfl) (by kernel_rfl) ⟨ok_L, ok_F (any_some _) (fun _ _ _ h hb => Sl.below h hb), ok_L, ok_F (any_some _) (fun _ _ _ h hb => Sl.below h hb), ok_F (any_some _) (fun _ _ _ h hb => Sl.below h hb), trivial⟩ (by simp)) ?_
          intro QQ hQ
          -- 0: t4
          refine stepK rfl (by kernel_rfl) (fun K hK => ?_); go_simp
          apply Exists.intro; apply And.intro; (focus (intro wk hk; go_simp; exact ⟨rfl, rfl⟩)); refine hK _ _ ?_; clear hK K
          -- 1: buildSlice<153> len 1 0:10u32
          refine stepS _ rfl (by kernel_rfl) (fun K hK => ?_); go_simp
          refine ⟨?_, ?_⟩
          · intro wk hk hg hu; go_simp; exact left_L rfl rfl
          rintro ⟨v1, lo1, hi1⟩ hlo1 hhi1 ⟨e1, f1⟩
          replace e1 : v1 = .slice (some ⟨lo1, 0, none⟩) 1 1 := e1; replace f1 : hi1 = lo1 + 1 := f1; replace hlo1 : _ ≤ lo1 := hlo1; subst e1; subst f1
          refine hK _ _ ?_; clear hK K
          -- 2: call F167(t42, t43)
          refine stepS _ rfl (by kernel_rfl) (fun K hK => ?_); go_simp
          refine ⟨?_, ?_⟩
          · intro wk hk hg hu; have u1 := hu 1 (show 1 ∈ [1] by decide); have r1 : Row wk lo1 181 #[.int .u32 10] := And.right (a := lo1 + 1 = lo1 + 1) u1; go_simp; refine upon_enter ((tm.out _ _ _ (sy.below hk.undrew.below) (sl_single (x := 10) r1)).mono ?_); rintro e w' ⟨v, rfl, hv, hb⟩; exact ⟨_, rfl, left_F rfl rfl hb trivial hv⟩
          rintro ⟨v2, lo2, hi2⟩ - - -
          refine hK _ _ ?_; clear hK K
          -- 3: t0
          refine stepK rfl (by kernel_rfl) (fun K hK => ?_); go_simp
          apply Exists.intro; apply And.intro; (focus (intro wk hk; go_simp; exact ⟨rfl, rfl⟩)); refine hK _ _ ?_; clear hK K
          -- 4: t5
          refine stepK rfl (by kernel_rfl) (fun K hK => ?_); go_simp
          apply Exists.intro; apply And.intro; (focus (intro wk hk; go_simp; exact ⟨rfl, rfl⟩)); refine hK _ _ ?_; clear hK K
          -- 5: index<9> t45[t46]
          refine stepK rfl (by kernel_rfl) (fun K hK => ?_); go_simp
          apply Exists.intro; apply And.intro; (focus (intro wk hk; go_simp; exact ⟨rfl, rfl⟩)); refine hK _ _ ?_; clear hK K
          -- 6: sub<5> t47, 48b
          refine stepK rfl (by kernel_rfl) (fun K hK => ?_); go_simp
          apply Exists.intro; apply And.intro; (focus (intro wk hk; go_simp; exact ⟨rfl, rfl⟩)); refine hK _ _ ?_; clear hK K
          -- 7: convert<5->181> t48
          refine stepK rfl (by kernel_rfl) (fun K hK => ?_); go_simp
          apply Exists.intro; apply And.intro; (focus (intro wk hk; go_simp; exact ⟨rfl, rfl⟩)); refine hK _ _ ?_; clear hK K
          -- 8: buildSlice<153> len 1 0:t49
          refine stepS _ rfl (by kernel_rfl) (fun K hK => ?_); go_simp
          refine ⟨?_, ?_⟩
          · intro wk hk hg hu; go_simp; exact left_L rfl rfl
          rintro ⟨v8, lo8, hi8⟩ hlo8 hhi8 ⟨e8, f8⟩
          replace e8 : v8 = .slice (some ⟨lo8, 0, none⟩) 1 1 := e8; replace f8 : hi8 = lo8 + 1 := f8; replace hlo8 : _ ≤ lo8 := hlo8; subst e8; subst f8
          refine hK _ _ ?_; clear hK K
          -- 9: call F197(t50)
          refine stepS _ rfl (by kernel_rfl) (fun K hK => ?_); go_simp
          refine ⟨?_, ?_⟩
          · intro wk hk hg hu; have u8 := hu 8 (show 8 ∈ [8] by decide); have r8 : Row wk lo8 181 #[.int .u32 ((d : Nat) : Int)] := And.right (a := lo8 + 1 = lo8 + 1) u8; go_simp; refine upon_enter ((tr.out _ _ (sl_single r8)).mono ?_); rintro e w' ⟨v, rfl, hv, hb⟩; exact ⟨_, rfl, left_F rfl rfl hb trivial hv⟩
          rintro ⟨v9, lo9, hi9⟩ - - -
          refine hK _ _ ?_; clear hK K
          -- 10: call F163(t44, t51)
          refine stepS _ rfl (by kernel_rfl) (fun K hK => ?_); go_simp
          refine ⟨?_, ?_⟩
          · intro wk hk hg hu; have u2 := hu 2 (show 2 ∈ [2, 9] by decide); have u9 := hu 9 (show 9 ∈ [2, 9] by decide); have s2 : Sl wk v2 (digs (v * 10)) := u2; have s9 : Sl wk v9 (digs d) := u9; go_simp; refine upon_enter ((pl.out _ _ _ s2 s9).mono ?_); rintro e w' ⟨v, rfl, hv, hb⟩; exact ⟨_, rfl, left_F rfl rfl hb trivial hv⟩
          rintro ⟨v10, lo10, hi10⟩ - - -
          refine hK _ _ ?_; clear hK K
          -- 11: assign t52
          refine stepK rfl (by kernel_rfl) (fun K hK => ?_); go_simp
          apply Exists.intro; apply And.intro; (focus (intro wk hk; go_simp; exact ⟨rfl, rfl⟩)); refine hK _ _ ?_; clear hK K
          refine stepN ?_
          refine hQ _ _ ?_
          intro w4 hT hG hF
          have hb4 := hT.undrew.below
          have s10 : Sl w4 v10 (digs (v * 10 + d)) := hF 10 _ rfl rfl (by decide)
          have H := Lib.hid (show _ ∧ _ ∧ _ ∧ _ ∧ _ from ⟨hl.trans (hb4.mono hl.size), rr.below hb4 rr.lt, s10, hD2, hdec⟩)
          clear hT hG hF hb4 hQ QQ L hl rr sy s10 hD2 hdec tm tr pl ec w8 w32
          go_wp2_with fail
          go_roundg (gk - 1)
          case measure => omega
          case rel =>
            obtain ⟨hl, rr, sy, hD2, hdec⟩ := H.out
            exact ⟨i + 1, by omega, by go_num, by rw [hdec]; exact sy, hD2, hl, rr⟩
      · obtain rfl : i = s.size := by omega
        have hix : ¬ (s.size : Int) < (s.size : Int) := by omega
        have F := FIN.out hD
        have hDv := decN_lt s.size hD
        have hv10 : 10 ^ s.size ≤ 10 ^ 78 := Nat.pow_le_pow_right (by decide) (by omega)
        have tq := Lib.hid (tou2 (a := decN s s.size) (by have := p78; omega))
        obtain ⟨q, hq⟩ : ∃ q, capN (decN s s.size) = q := ⟨_, rfl⟩
        obtain ⟨ok, hok⟩ : ∃ ok, decide (decN s s.size < M) = ok := ⟨_, rfl⟩
        rw [hq, hok] at tq
        have HF := Lib.hid (show (parsN s).getD 0 = q ∧ (parsN s).isSome = ok from ⟨F.1.trans hq, F.2.trans hok⟩)
        have H := Lib.hid (show _ ∧ _ ∧ _ from ⟨hl, rr, sy⟩)
        clear hl rr sy F hDv hv10 hq hok hD hlt
        go_upto_region 10 with (fail)
        obtain ⟨hl, rr, sy⟩ := H.out
        refine wp_abs (fun wx => Below w.heap.size w wx ∧ Row wx w.heap.size 31 (arr .u64 (fun _ => 0) 4) ∧ Sl wx u4 (digs (decN s s.size))) ⟨hl, rr, sy⟩ ?_
        clear hl rr sy H
        rintro w3 ⟨hl, rr, sy⟩
        let L : List Sp := [sV 1 [] [] (fun u => u = .tuple #[.agg (W4 q), .bool ok]), sO 4 (w.heap.size) 31 [2] (fun g => aggOf g 2)]
        refine wp_region_six0 (shs L) (look6 L) (fun c => c = w.heap.size) (by kernel_rfl) (by kernel_rfl) (mk_St L [4] [4] (by kernel_rfl) (by kernel_rfl) ⟨ok_V ⟨_, rfl⟩, ok_O aggOf_congr rr.lt (rfl), trivial⟩ (by simp)) ?_
        intro QQ hQ
        -- 0: t4
        refine stepK rfl (by kernel_rfl) (fun K hK => ?_); go_simp
        apply Exists.intro; apply And.intro; (focus (intro wk hk; go_simp; exact ⟨rfl, rfl⟩)); refine hK _ _ ?_; clear hK K
        -- 1: call F172(t53)
        refine stepS _ rfl (by kernel_rfl) (fun K hK => ?_); go_simp
        refine ⟨?_, ?_⟩
        · intro wk hk hg hu; go_simp; refine upon_enter ((tq.out _ _ (sy.below hk.below)).mono ?_); rintro e w' ⟨rfl, hb⟩; exact ⟨_, rfl, left_V (p := fun u => u = .tuple #[.agg (W4 q), .bool ok]) rfl (hb) rfl⟩
        rintro ⟨v1, lo1, hi1⟩ - - (rfl : v1 = _)
        refine hK _ _ ?_; clear hK K
        -- 2: extract t54 #0
        refine stepK rfl (by kernel_rfl) (fun K hK => ?_); go_simp
        apply Exists.intro; apply And.intro; (focus (intro wk hk; go_simp; exact ⟨rfl, rfl⟩)); refine hK _ _ ?_; clear hK K
        -- 3: extract t54 #1
        refine stepK rfl (by kernel_rfl) (fun K hK => ?_); go_simp
        apply Exists.intro; apply And.intro; (focus (intro wk hk; go_simp; exact ⟨rfl, rfl⟩)); refine hK _ _ ?_; clear hK K
        -- 4: store<31> *t2 = t55
        refine stepS _ rfl (by kernel_rfl) (fun K hK => ?_); go_simp
        refine ⟨?_, ?_⟩
        · exact sStoreO rfl rfl rfl rfl rfl rfl rr id (by kernel_rfl) rfl (by kernel_rfl) (by decide) aggOf_congr
        rintro ⟨v4, lo4, hi4⟩ - - (rfl : v4 = undef)
        refine hK _ _ ?_; clear hK K
        -- 5: assign t56
        refine stepKz rfl (fun K hK => ?_); go_simp
        apply Exists.intro; apply And.intro; (focus (intro wk hk; go_simp; exact ⟨rfl, rfl⟩)); refine hK _ _ ?_; clear hK K
        refine stepN ?_
        refine hQ _ _ ?_
        intro w9 hT hG hF
        have hT' := hT
        have x2 : Row w9 (w.heap.size) 31 (W4 q) := hF 4 _ rfl rfl (by decide)
        have hl9 : Below w.heap.size w w9 := hl.trans (hT'.below_of hl.size (by intro c hc; omega))
        clear hT hT' hG hF hQ QQ L
        go_wp2_with fail
        refine bodyPost_ret (results_ct rfl aggT31 rfl x2 rfl) rfl ?_
        exact ⟨by rw [HF.out.1, HF.out.2]; rfl, hl9⟩
theorem refparseU (s : ByteArray) (w : World) : Calls Try.prog 97 #[.string s] w (Ret w (.tuple #[.agg (W4 ((parsN s).getD 0)), .bool (parsN s).isSome])) := by
  by_cases hs : s.size = 0 ∨ 78 < s.size ∨ (chr s 0 = 48 ∧ 1 < s.size)
  · rw [head_none s hs]; exact refparse_head s hs w
  · exact refparse_body s (by omega) (by omega) (by omega) w
end Go.Proofs.Ytpdenhmkpiafiaa
