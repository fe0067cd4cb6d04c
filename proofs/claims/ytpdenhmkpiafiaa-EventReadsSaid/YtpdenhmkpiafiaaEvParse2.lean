/-
  The document's Parse (144) and ToResult (146).
-/
import Derived.Test.YtpdenhmkpiafiaaEvRef2
import Derived.Test.YtpdenhmkpiafiaaEvParse
namespace Go.Proofs.Ytpdenhmkpiafiaa
open Go Go.RowKit K6

theorem rdL_eq {s : St} {E : List Ev} (h : E.map Ev.key = (gR s).1.map keyX) (h0 : rdE s = 0) : E.map Ev.key = rdL s := by unfold rdL; rw [if_pos h0]; exact h
theorem rdL_nil {s : St} (h0 : rdE s ≠ 0) : ([] : List Ev).map Ev.key = rdL s := by unfold rdL; rw [if_neg h0]; rfl
set_option maxRecDepth 100000 in
set_option maxHeartbeats 16000000 in
theorem rparse_at (u : Value) (xs : List Int) (qb : Option Nat) (w : World) (hv : SRv w qb u xs) (hqb : ∀ b, qb = some b → b < w.heap.size) (hby : By xs) (hL : xs.length ≤ 100000000) :
    Calls Try.prog 144 #[u] w (ParP w (rdL (0, xs)) (rdE (0, xs))) := by
  obtain ⟨q, cc, rfl, -, -⟩ := hv.bs
  obtain ⟨n0, hn0⟩ : ∃ n, xs.length = n := ⟨_, rfl⟩
  rw [hn0] at hv ⊢
  have hA : Below w.heap.size w (w.alloc (.cells #[.slice q n0 cc, .int .i64 0] 66)) := (Below.refl _ _).alloc (Nat.le_refl _) _
  have hr : SR (w.alloc (.cells #[.slice q n0 cc, .int .i64 0] 66)) w.heap.size qb 0 xs := ⟨fun h => absurd rfl h, hby, hL, (fun e => by have := hqb _ e; omega), _, Row.new_at rfl, hv.keep (X := None_) (Tr.of hA) fun _ _ => id⟩
  have hsz : (w.alloc (.cells #[.slice q n0 cc, .int .i64 0] 66)).heap.size = w.heap.size + 1 := by simp
  have hqb1 : ∀ b, qb = some b → b < w.heap.size + 1 := fun b hb => Nat.lt_succ_of_lt (hqb b hb)
  obtain ⟨ER, hER⟩ : ∃ x, rdE (0, xs) = x := ⟨_, rfl⟩
  obtain ⟨LR, hLR⟩ : ∃ x, rdL (0, xs) = x := ⟨_, rfl⟩
  rw [hER, hLR]
  have HN := Lib.hid (show (ER ≠ 0 → LR = []) ∧ (ER = 0 → ∀ E : List Ev, E.map Ev.key = (gR (0, xs)).1.map keyX → E.map Ev.key = LR) ∧ edE (gR (0, xs)).2.1 (gR (0, xs)).2.2 = ER from
    ⟨fun hne => by rw [← hLR]; unfold rdL; rw [hER, if_neg hne], fun h0 E hE => by rw [← hLR]; exact rdL_eq hE (hER.trans h0), hER⟩)
  have R0 := Lib.hid (show _ ∧ _ ∧ _ ∧ _ from ⟨hA, hr, hsz, hqb1⟩)
  clear hv hby hL hA hr hsz hqb hqb1 hER hLR
  go_enter Try.func144, Try.ntmps144
  go_upto_region 2 with (fail)
  refine wp_abs (fun wx => Below w.heap.size w wx ∧ SR wx w.heap.size qb 0 xs ∧ w.heap.size + 1 ≤ wx.heap.size) ⟨R0.out.1, R0.out.2.1, Nat.le_of_eq R0.out.2.2.1.symm⟩ ?_
  rintro w0 ⟨hl0, hr0, hz0⟩
  have HQ := Lib.hid R0.out.2.2.2
  clear R0
  have kd := Lib.hid (rread_at hr0 (fun b hb => by have := HQ.out b hb; omega))
  have HB2 := Lib.hid hl0
  have hsz2 := hz0
  clear hr0 hl0 hz0
  go_wp2_with fail
  refine kd.out.mono ?_
  rintro r w3 ⟨v, E, rfl, ho, hk, hs, ht⟩
  have hsz3 := Nat.le_trans hsz2 ht.size
  have ke := rend_at hs
  rw [HN.out.2.2] at ke
  replace ke := Lib.hid ke
  have H3 := Lib.hid (show _ ∧ _ ∧ _ from ⟨ho.base (b' := w.heap.size + 1) (by omega), hk, HB2.out.trans (ht.below_of (by omega) (by intro c hc; have hc' : c = w.heap.size := hc; omega))⟩)
  have hgo := Lib.hid (fun b (hb : v.ownBlock = some b) => (own_lt ho.1 b hb).1)
  clear ho hk hs ht kd HB2
  go_wp2_with fail
  refine ke.out.mono ?_
  rintro r w4 ⟨rfl, hs4, ht4⟩
  have c1 := hs4.e1
  have hg4 := hs4.lt
  have H4 := Lib.hid (show Below w.heap.size w w4 from H3.out.2.2.trans (ht4.below_of (by omega) (by intro c hc; have hc' : c = w.heap.size := hc; omega)))
  have HEo := Lib.hid (show Eo w4 (w.heap.size) v E from by
    have h9 : Eo w3 (w.heap.size + 1) v E := H3.out.1
    exact (h9.keep ht4 (fun b hb hc => by have hc' : b = w.heap.size := hc; omega)).base (by omega))
  clear hs4 ht4 ke
  by_cases hE : ER = 0
  · have HN0 := Lib.hid (HN.out.2.1 hE E H3.out.2.1)
    subst hE
    go_wp2_with fail
    go_ret2
    unfold ParP
    exact ⟨v, E, rfl, HEo.out, HN0.out, H4.out⟩
  · have hne : (ER != 0) = true := by rw [bne_iff_ne]; exact hE
    have hE' := Lib.hid hE
    clear hE
    go_upto_region 4 with (fail)
    let L : List Sp := []
    refine wp_region_six (shs L) (look6 L) (None_) (by kernel_rfl) (by kernel_rfl) (mk_St L [] [] (by kernel_rfl) (by kernel_rfl) trivial (by simp)) ?_
    intro QQ hQ
    -- 0: t4
    refine stepK rfl (by kernel_rfl) (fun K hK => ?_); go_simp
    apply Exists.intro; apply And.intro; (focus (intro wk hk; go_simp; exact ⟨rfl, rfl⟩)); refine hK _ _ ?_; clear hK K
    -- 1: nilCheck t14
    refine stepK rfl (by kernel_rfl) (fun K hK => ?_); go_simp
    apply Exists.intro; apply And.intro; (focus (intro wk hk; go_simp; exact ⟨rfl, rfl⟩)); refine hK _ _ ?_; clear hK K
    -- 2: fieldAddr<66> t15.1
    refine stepK rfl (by kernel_rfl) (fun K hK => ?_); go_simp
    apply Exists.intro; apply And.intro; (focus (intro wk hk; go_simp; exact ⟨rfl, rfl⟩)); refine hK _ _ ?_; clear hK K
    -- 3: load<3> *t16
    refine stepK rfl (by kernel_rfl) (fun K hK => ?_); go_simp
    apply Exists.intro; apply And.intro; (focus (intro wk hk; have cc : wk.cell? ⟨w.heap.size, 1, none⟩ = some (.int .i64 ER) := (World.cell?_of_block (hk.undrew.below.block _ hg4)).trans c1; go_simp; exact ⟨rfl, rfl⟩)); refine hK _ _ ?_; clear hK K
    -- 4: assign nilslice
    refine stepK rfl (by kernel_rfl) (fun K hK => ?_); go_simp
    apply Exists.intro; apply And.intro; (focus (intro wk hk; go_simp; exact ⟨rfl, rfl⟩)); refine hK _ _ ?_; clear hK K
    -- 5: assign t17
    refine stepK rfl (by kernel_rfl) (fun K hK => ?_); go_simp
    apply Exists.intro; apply And.intro; (focus (intro wk hk; go_simp; exact ⟨rfl, rfl⟩)); refine hK _ _ ?_; clear hK K
    refine stepN ?_
    refine hQ _ _ ?_
    intro w5 hT hG hF
    have H5 := Lib.hid (H4.out.trans (hT.undrew.below.mono H4.out.size))
    clear hT hG hF hQ QQ L c1
    go_wp2_with fail
    go_ret2
    unfold ParP
    exact ⟨_, [], rfl, Eo.nil _ _, by rw [HN.out.1 hE'.out]; rfl, H5.out⟩
set_option maxRecDepth 100000 in
set_option maxHeartbeats 16000000 in
theorem rtores_at (u : Value) (xs : List Int) (qb : Option Nat) (w : World) (hv : SRv w qb u xs) (hqb : ∀ b, qb = some b → b < w.heap.size) (hby : By xs) (hL : xs.length ≤ 100000000) {c : Nat} {s : St} (hg : gV 19 (0, xs) = (c, s)) :
    Calls Try.prog 146 #[u] w (ResP w (if rdE s = 0 then (c : Int) else 0) (rdL s) (rdE s)) := by
  obtain ⟨q, cc, rfl, -, -⟩ := hv.bs
  obtain ⟨n0, hn0⟩ : ∃ n, xs.length = n := ⟨_, rfl⟩
  rw [hn0] at hv ⊢
  have hA : Below w.heap.size w (w.alloc (.cells #[.slice q n0 cc, .int .i64 0] 66)) := (Below.refl _ _).alloc (Nat.le_refl _) _
  have hr : SR (w.alloc (.cells #[.slice q n0 cc, .int .i64 0] 66)) w.heap.size qb 0 xs := ⟨fun h => absurd rfl h, hby, hL, (fun e => by have := hqb _ e; omega), _, Row.new_at rfl, hv.keep (X := None_) (Tr.of hA) fun _ _ => id⟩
  have hsz : (w.alloc (.cells #[.slice q n0 cc, .int .i64 0] 66)).heap.size = w.heap.size + 1 := by simp
  have hqb1 : ∀ b, qb = some b → b < w.heap.size + 1 := fun b hb => Nat.lt_succ_of_lt (hqb b hb)
  obtain ⟨e1, x1⟩ := s
  have hc19 : c ≤ 19 := by
    have h1 := gV_most (most := 19) (s := (0, xs)) (by decide)
    rw [hg] at h1
    simp only at h1
    omega
  obtain ⟨ER, hER⟩ : ∃ x, rdE (e1, x1) = x := ⟨_, rfl⟩
  obtain ⟨LR, hLR⟩ : ∃ x, rdL (e1, x1) = x := ⟨_, rfl⟩
  rw [hER, hLR]
  have HN := Lib.hid (show (ER ≠ 0 → LR = []) ∧ (ER = 0 → ∀ E : List Ev, E.map Ev.key = (gR (e1, x1)).1.map keyX → E.map Ev.key = LR) ∧ edE (gR (e1, x1)).2.1 (gR (e1, x1)).2.2 = ER from
    ⟨fun hne => by rw [← hLR]; unfold rdL; rw [hER, if_neg hne], fun h0 E hE => by rw [← hLR]; exact rdL_eq hE (hER.trans h0), hER⟩)
  obtain ⟨CR, hCR⟩ : ∃ x, (if ER = 0 then (c : Int) else 0) = x := ⟨_, rfl⟩
  rw [hCR]
  replace hCR := Lib.hid hCR
  have R0 := Lib.hid (show _ ∧ _ ∧ _ ∧ _ from ⟨hA, hr, hsz, hqb1⟩)
  have HG := Lib.hid hg
  clear hv hby hL hA hr hsz hqb hqb1 hER hLR hg
  go_enter Try.func146, Try.ntmps146
  go_upto_region 2 with (fail)
  refine wp_abs (fun wx => Below w.heap.size w wx ∧ SR wx w.heap.size qb 0 xs ∧ w.heap.size + 1 ≤ wx.heap.size) ⟨R0.out.1, R0.out.2.1, Nat.le_of_eq R0.out.2.2.1.symm⟩ ?_
  rintro w0 ⟨hl0, hr0, hz0⟩
  have HQ := Lib.hid R0.out.2.2.2
  clear R0
  have wc : IntKind.i64.wrap (c : Int) = (c : Int) := by rw [IntKind.wrap_i64]; omega
  have kv := Lib.hid (rvar_V hr0 HG.out)
  have HB0 := Lib.hid hl0
  clear hr0 hl0 HG
  go_wp2_with fail
  refine kv.out.mono ?_
  rintro r w2 ⟨rfl, hs, ht⟩
  have hsz2 : w.heap.size + 1 ≤ w2.heap.size := Nat.le_trans hz0 ht.size
  have kd := Lib.hid (rread_at hs (fun b hb => by have := HQ.out b hb; omega))
  have HB2 := Lib.hid (HB0.out.trans (ht.below_of (by omega) (by intro c hc; have hc' : c = w.heap.size := hc; omega)))
  clear hs ht kv HB0 hz0
  go_wp2_with fail
  refine kd.out.mono ?_
  rintro r w3 ⟨v, E, rfl, ho, hk, hs, ht⟩
  have hsz3 := Nat.le_trans hsz2 ht.size
  have ke := rend_at hs
  rw [HN.out.2.2] at ke
  replace ke := Lib.hid ke
  have H3 := Lib.hid (show _ ∧ _ ∧ _ from ⟨ho.base (b' := w.heap.size + 1) (by omega), hk, HB2.out.trans (ht.below_of (by omega) (by intro c hc; have hc' : c = w.heap.size := hc; omega))⟩)
  have hgo := Lib.hid (fun b (hb : v.ownBlock = some b) => (own_lt ho.1 b hb).1)
  clear ho hk hs ht kd HB2
  go_wp2_with fail
  refine ke.out.mono ?_
  rintro r w4 ⟨rfl, hs4, ht4⟩
  have c1 := hs4.e1
  have hg4 := hs4.lt
  have H4 := Lib.hid (show Below w.heap.size w w4 from H3.out.2.2.trans (ht4.below_of (by omega) (by intro c hc; have hc' : c = w.heap.size := hc; omega)))
  have HEo := Lib.hid (show Eo w4 (w.heap.size) v E from by
    have h9 : Eo w3 (w.heap.size + 1) v E := H3.out.1
    exact (h9.keep ht4 (fun b hb hc => by have hc' : b = w.heap.size := hc; omega)).base (by omega))
  clear hs4 ht4 ke
  by_cases hE : ER = 0
  · have HN0 := Lib.hid (HN.out.2.1 hE E H3.out.2.1)
    subst hE
    have hC0 := Lib.hid (show CR = (c : Int) from by have h := hCR.out; simpa using h.symm)
    go_wp2_with fail
    go_ret3
    unfold ResP
    exact ⟨v, E, by rw [hC0.out]; rfl, HEo.out, HN0.out, H4.out⟩
  · have hne : (ER != 0) = true := by rw [bne_iff_ne]; exact hE
    have hE' := Lib.hid hE
    have hC0 := Lib.hid (show CR = 0 from by have h := hCR.out; rw [if_neg hE] at h; exact h.symm)
    clear hE
    go_upto_region 5 with (fail)
    let L : List Sp := []
    refine wp_region_six (shs L) (look6 L) (None_) (by kernel_rfl) (by kernel_rfl) (mk_St L [] [] (by kernel_rfl) (by kernel_rfl) trivial (by simp)) ?_
    intro QQ hQ
    -- 0: t5
    refine stepK rfl (by kernel_rfl) (fun K hK => ?_); go_simp
    apply Exists.intro; apply And.intro; (focus (intro wk hk; go_simp; exact ⟨rfl, rfl⟩)); refine hK _ _ ?_; clear hK K
    -- 1: nilCheck t18
    refine stepK rfl (by kernel_rfl) (fun K hK => ?_); go_simp
    apply Exists.intro; apply And.intro; (focus (intro wk hk; go_simp; exact ⟨rfl, rfl⟩)); refine hK _ _ ?_; clear hK K
    -- 2: fieldAddr<66> t19.1
    refine stepK rfl (by kernel_rfl) (fun K hK => ?_); go_simp
    apply Exists.intro; apply And.intro; (focus (intro wk hk; go_simp; exact ⟨rfl, rfl⟩)); refine hK _ _ ?_; clear hK K
    -- 3: load<3> *t20
    refine stepK rfl (by kernel_rfl) (fun K hK => ?_); go_simp
    apply Exists.intro; apply And.intro; (focus (intro wk hk; have cc : wk.cell? ⟨w.heap.size, 1, none⟩ = some (.int .i64 ER) := (World.cell?_of_block (hk.undrew.below.block _ hg4)).trans c1; go_simp; exact ⟨rfl, rfl⟩)); refine hK _ _ ?_; clear hK K
    -- 4: assign 0
    refine stepK rfl (by kernel_rfl) (fun K hK => ?_); go_simp
    apply Exists.intro; apply And.intro; (focus (intro wk hk; go_simp; exact ⟨rfl, rfl⟩)); refine hK _ _ ?_; clear hK K
    -- 5: assign nilslice
    refine stepK rfl (by kernel_rfl) (fun K hK => ?_); go_simp
    apply Exists.intro; apply And.intro; (focus (intro wk hk; go_simp; exact ⟨rfl, rfl⟩)); refine hK _ _ ?_; clear hK K
    -- 6: assign t21
    refine stepK rfl (by kernel_rfl) (fun K hK => ?_); go_simp
    apply Exists.intro; apply And.intro; (focus (intro wk hk; go_simp; exact ⟨rfl, rfl⟩)); refine hK _ _ ?_; clear hK K
    refine stepN ?_
    refine hQ _ _ ?_
    intro w5 hT hG hF
    have H5 := Lib.hid (H4.out.trans (hT.undrew.below.mono H4.out.size))
    clear hT hG hF hQ QQ L c1
    go_wp2_with fail
    go_ret3
    unfold ResP
    exact ⟨_, [], by rw [hC0.out]; rfl, Eo.nil _ _, by rw [HN.out.1 hE'.out]; rfl, H5.out⟩
end Go.Proofs.Ytpdenhmkpiafiaa
