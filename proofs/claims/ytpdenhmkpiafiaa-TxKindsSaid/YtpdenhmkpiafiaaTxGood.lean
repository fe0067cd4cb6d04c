/-
  Which leaves, claims and counts may be: 210 236 209, 239 238 255 237, 211, 208.
-/
import Derived.Test.YtpdenhmkpiafiaaTxSame
import Derived.Test.YtpdenhmkpiafiaaTxOf
import Derived.Test.YtpdenhmkpiafiaaEvSl
import Derived.Test.YtpdenhmkpiafiaaAmt3
namespace Go.Proofs.Ytpdenhmkpiafiaa
open Go Go.RowKit K6

def okA (a : Nat) : Bool := decide (a < M2)
def okLf (x : Lf) : Bool := decide (0 ≤ x.i ∧ x.i ≤ 4294967295) && (decide (0 ≤ x.t ∧ x.t ≤ 4294967295) && (decide (x.p.length ≤ 10) && okA x.a))
theorem all_not {α : Type} {f : α → Bool} {l : List α} {i : Nat} {x : α} (hx : l[i]? = some x) (h : f x = false) : l.all f = false := by
  cases hk : l.all f with
  | false => rfl
  | true =>
    have := List.all_eq_true.1 hk x (List.mem_of_getElem? hx)
    rw [h] at this
    cases this
theorem all_all {α : Type} {f : α → Bool} {l : List α} (hk : ∀ (j : Nat) (x : α), j < l.length → l[j]? = some x → f x = true) : l.all f = true := by
  refine List.all_eq_true.2 fun x hx => ?_
  obtain ⟨j, hj, rfl⟩ := List.mem_iff_getElem.1 hx
  exact hk j _ hj (List.getElem?_eq_getElem hj)
set_option maxRecDepth 100000 in
set_option maxHeartbeats 4000000 in
theorem good1_at (a : Nat) (ha : a < M) (w : World) : Calls Try.prog 210 #[.agg (W4 a)] w fun r w' => r = .returned (.bool (!okA a)) ∧ Below w.heap.size w w' := by
  have ka := fun wx => amountU ha wx
  unfold okA
  obtain ⟨b, hb⟩ : ∃ b, decide (a < M2) = b := ⟨_, rfl⟩
  obtain ⟨y0, y1, y2, y3, hW⟩ : ∃ y0 y1 y2 y3 : Int, W4 a = #[.int .u64 y0, .int .u64 y1, .int .u64 y2, .int .u64 y3] := ⟨_, _, _, _, rfl⟩
  simp only [hb, hW] at ka ⊢
  replace ka := Lib.hid ka
  clear ha hb hW
  go_enter Try.func210, Try.ntmps210
  go_upto_region 1 with (fail)
  refine wp_abs (Mem w [(w.heap.size, 31, #[.int .u64 y0, .int .u64 y1, .int .u64 y2, .int .u64 y3])]) ⟨by go_grown, by (repeat (first | (refine Row.new_at ?_; simp; done) | refine Row.alloc ?_ _)), trivial⟩ ?_
  intro w0 hM
  obtain ⟨hl, r1, -⟩ := hM
  have d0 := r1.cell 0
  have d1 := r1.cell 1
  have d2 := r1.cell 2
  have d3 := r1.cell 3
  have HL := Lib.hid hl
  clear hl r1
  go_wp2_with fail
  refine (ka.out _).mono ?_
  rintro e w1 ⟨rfl, hb⟩
  have H1 := Lib.hid (HL.out.trans (hb.mono HL.out.size))
  clear ka hb HL d0 d1 d2 d3
  cases b <;>
  · go_wp2_with fail
    go_ret
    exact ⟨by first | rfl | (simp; done), H1.out⟩
set_option maxRecDepth 100000 in
set_option maxHeartbeats 16000000 in
theorem goodA_idx (v : Value) (l : List Nat) (w : World) (h : Us w v l) (hM : ∀ a ∈ l, a < M) (hE : l.length ≤ 1000) :
    Calls Try.prog 236 #[v, .func (.func 210) #[] #[]] w (IdxP (l.all okA) w) := by
  have HC := Lib.hid h
  obtain ⟨q, c, rfl, -⟩ := h
  obtain ⟨m, hm⟩ : ∃ m, l.length = m := ⟨_, rfl⟩
  rw [hm] at HC ⊢
  have hmi : (m : Int) ≤ 1000 := by omega
  go_enter Try.func236, Try.ntmps236
  go_wp2_with fail
  go_loopg [5, 8] m (fun gg s5 s8 wr => ∃ i : Nat, i + gg = m ∧ s8 = .int .i64 (i : Int) ∧ Hid (∀ (j : Nat) (x : Nat), j < i → l[j]? = some x → okA x = true) ∧ Hid (Below w.heap.size w wr))
  case atStart => exact ⟨0, by omega, rfl, Lib.hid (fun j e h => absurd h (Nat.not_lt_zero j)), Lib.hid (Below.refl _ _)⟩
  case round =>
    obtain ⟨i, him, rfl, hall, hinv⟩ := hrel
    by_cases hi : i < m
    · obtain ⟨x, hx⟩ : ∃ x, l[i]? = some x := ⟨_, List.getElem?_eq_getElem (by omega)⟩
      obtain ⟨g, o, c', hu, hg, hcs⟩ := (HC.out.below hinv.out).elem hx
      simp only [Value.slice.injEq] at hu
      obtain ⟨rfl, -, -⟩ := hu
      have kb := fun wx (hbw : Below w.heap.size w wx) => good1_at x (hM x (List.mem_of_getElem? hx)) wx
      obtain ⟨b, hb⟩ : ∃ b, okA x = b := ⟨_, rfl⟩
      simp only [hb] at kb
      replace kb := Lib.hid kb
      have he' := Lib.hid (show _ ∧ _ from ⟨hx, hb⟩)
      clear hx hb
      have hlt : (i : Int) < (m : Int) := by omega
      go_upto_region 4 with (fail)
      let L : List Sp := [sV 5 [] [] (fun u => u = .bool (!b))]
      refine wp_region_six0 (shs L) (look6 L) (None_) (by kernel_rfl) (by kernel_rfl) (mk_St L [] [] (by kernel_rfl) (by kernel_rfl) ⟨ok_V ⟨_, rfl⟩, trivial⟩ (by simp)) ?_
      intro QQ hQ
      -- 0: t1
      refine stepK rfl (by kernel_rfl) (fun K hK => ?_); go_simp
      apply Exists.intro; apply And.intro; (focus (intro wk hk; go_simp; exact ⟨rfl, rfl⟩)); refine hK _ _ ?_; clear hK K
      -- 1: t0
      refine stepK rfl (by kernel_rfl) (fun K hK => ?_); go_simp
      apply Exists.intro; apply And.intro; (focus (intro wk hk; go_simp; exact ⟨rfl, rfl⟩)); refine hK _ _ ?_; clear hK K
      -- 2: t5
      refine stepK rfl (by kernel_rfl) (fun K hK => ?_); go_simp
      apply Exists.intro; apply And.intro; (focus (intro wk hk; go_simp; exact ⟨rfl, rfl⟩)); refine hK _ _ ?_; clear hK K
      -- 3: indexAddr<23> t12[t13]
      refine stepK rfl (by kernel_rfl) (fun K hK => ?_); go_simp
      apply Exists.intro; apply And.intro; (focus (intro wk hk; go_simp; exact ⟨rfl, rfl⟩)); refine hK _ _ ?_; clear hK K
      -- 4: load<31> *t14
      refine stepK rfl (by kernel_rfl) (fun K hK => ?_); go_simp
      apply Exists.intro; apply And.intro; (focus exact kLoadE rfl rfl aggT31 hcs rfl hg id); refine hK _ _ ?_; clear hK K
      -- 5: call t11(t15)
      refine stepS _ rfl (by kernel_rfl) (fun K hK => ?_); go_simp
      refine ⟨?_, ?_⟩
      · intro wk hk hg hu; go_simp; refine upon_enter ((kb.out _ (hinv.out.trans (hk.below.mono hinv.out.size))).mono ?_); rintro e w' ⟨rfl, hb⟩; exact ⟨_, rfl, left_V (p := fun u => u = .bool (!b)) rfl (hb) rfl⟩
      rintro ⟨v5, lo5, hi5⟩ - - (rfl : v5 = _)
      refine hK _ _ ?_; clear hK K
      refine stepN ?_
      refine hQ _ _ ?_
      intro w1 hT hG hF
      have hl1 := Lib.hid (hinv.out.trans (hT.below.mono hinv.out.size))
      clear hT hG hF hQ QQ L hinv hcs kb
      cases b
      · go_wp2_with fail
        go_ret
        unfold IdxP
        exact ⟨_, rfl, (fun h => by rw [all_not he'.out.1 he'.out.2] at h; cases h), (fun _ => by omega), hl1.out⟩
      · go_wp2_with fail
        go_roundg (gk - 1)
        case measure => omega
        case rel =>
          refine ⟨i + 1, by omega, by go_num, Lib.hid fun j e hj hje => ?_, hl1⟩
          rcases Nat.lt_or_ge j i with h | h
          · exact hall.out j e h hje
          · obtain rfl : j = i := by omega
            have h1 := he'.out.1.symm.trans hje
            injection h1 with h1
            rw [← h1]
            exact he'.out.2
    · obtain rfl : i = m := by omega
      have hlt : ¬ (i : Int) < (i : Int) := by omega
      go_wp2_with fail
      go_ret
      unfold IdxP
      exact ⟨-1, rfl, (fun _ => rfl), (fun h => by rw [all_all (fun j e hj hje => hall.out j e (by omega) hje)] at h; cases h), hinv.out⟩
set_option maxRecDepth 100000 in
set_option maxHeartbeats 16000000 in
theorem goodA_cont (v : Value) (l : List Nat) (w : World) (h : Us w v l) (hM : ∀ a ∈ l, a < M) (hE : l.length ≤ 1000) :
    Calls Try.prog 209 #[v, .func (.func 210) #[] #[]] w fun r w' => r = .returned (.bool (!l.all okA)) ∧ Below w.heap.size w w' := by
  have K := Lib.hid (goodA_idx v l w h hM hE)
  obtain ⟨b, hb⟩ : ∃ b, l.all okA = b := ⟨_, rfl⟩
  rw [hb] at K ⊢
  clear h hE hb
  go_enter Try.func209, Try.ntmps209
  go_wp2_with fail
  refine K.out.mono ?_
  rintro e w1 ⟨n, rfl, hn, hn', hb⟩
  clear K
  cases b
  · have hge : (0 : Int) ≤ n := hn' rfl
    clear hn hn'
    go_wp2_with fail
    go_ret
    exact ⟨by first | rfl | (simp; done), hb⟩
  · obtain rfl : n = -1 := hn rfl
    clear hn hn'
    go_wp2_with fail
    go_ret
    exact ⟨by first | rfl | (simp; done), hb⟩
set_option maxRecDepth 100000 in
set_option maxHeartbeats 16000000 in
theorem goodLeaf_at (x : Lf) (w : World) (hx : x.a < M) (hL : x.p.length ≤ 140737488355328) :
    Calls Try.prog 239 #[.agg (lfc x).toArray] w fun r w' => r = .returned (.bool (okLf x)) ∧ Below w.heap.size w w' := by
  have ka := fun wx => amountU hx wx
  have k1 := fun wx => within_at x.i 0 4294967295 wx
  have k2 := fun wx => within_at x.t 0 4294967295 wx
  have hok : okLf x = (decide (0 ≤ x.i ∧ x.i ≤ 4294967295) && (decide (0 ≤ x.t ∧ x.t ≤ 4294967295) && (decide (x.p.length ≤ 10) && decide (x.a < M2)))) := rfl
  obtain ⟨b1, hb1⟩ : ∃ b, decide (0 ≤ x.i ∧ x.i ≤ 4294967295) = b := ⟨_, rfl⟩
  obtain ⟨b2, hb2⟩ : ∃ b, decide (0 ≤ x.t ∧ x.t ≤ 4294967295) = b := ⟨_, rfl⟩
  obtain ⟨b4, hb4⟩ : ∃ b, decide (x.a < M2) = b := ⟨_, rfl⟩
  simp only [hb1] at k1
  simp only [hb2] at k2
  simp only [hb4] at ka
  rw [hb1, hb2, hb4] at hok
  obtain ⟨y0, y1, y2, y3, hW⟩ : ∃ y0 y1 y2 y3 : Int, W4 x.a = #[.int .u64 y0, .int .u64 y1, .int .u64 y2, .int .u64 y3] := ⟨_, _, _, _, rfl⟩
  have hcsW : (lfc x).toArray = #[.int .i64 x.i, .int .i64 x.t, .int .u64 y0, .int .u64 y1, .int .u64 y2, .int .u64 y3, .slice x.pq x.p.length x.pc] := by unfold lfc Lf.pv; rw [hW]; rfl
  simp only [hW] at ka
  rw [hcsW, hok]
  obtain ⟨xi, hxi⟩ : ∃ n, x.i = n := ⟨_, rfl⟩
  obtain ⟨xt, hxt⟩ : ∃ n, x.t = n := ⟨_, rfl⟩
  obtain ⟨np, hnp⟩ : ∃ n, x.p.length = n := ⟨_, rfl⟩
  obtain ⟨pq, hpq⟩ : ∃ n, x.pq = n := ⟨_, rfl⟩
  obtain ⟨pc, hpc⟩ : ∃ n, x.pc = n := ⟨_, rfl⟩
  simp only [hxi] at k1
  simp only [hxt] at k2
  rw [hxi, hxt, hnp, hpq, hpc]
  rw [hnp] at hL
  replace ka := Lib.hid ka
  replace k1 := Lib.hid k1
  replace k2 := Lib.hid k2
  clear hx hok hb1 hb2 hb4 hW hcsW hxi hxt hnp hpq hpc
  have hcase : ((np : Int) ≤ 10 ∧ decide (np ≤ 10) = true) ∨ (¬ (np : Int) ≤ 10 ∧ decide (np ≤ 10) = false) := by
    by_cases h : np ≤ 10
    · exact .inl ⟨by omega, decide_eq_true h⟩
    · exact .inr ⟨by omega, decide_eq_false h⟩
  have hni : (np : Int) ≤ 140737488355328 := by omega
  clear hL
  go_enter Try.func239, Try.ntmps239
  go_upto_region 1 with (fail)
  refine wp_abs (Mem w [(w.heap.size, 198, #[.int .i64 xi, .int .i64 xt, .int .u64 y0, .int .u64 y1, .int .u64 y2, .int .u64 y3, .slice pq np pc])]) ⟨by go_grown, by (repeat (first | (refine Row.new_at ?_; simp; done) | refine Row.alloc ?_ _)), trivial⟩ ?_
  intro w0 hM
  obtain ⟨hl, r1, -⟩ := hM
  have HL := Lib.hid (show _ ∧ _ from ⟨hl, r1⟩)
  have d0 := r1.cell 0
  clear hl r1
  go_wp2_with fail
  refine (k1.out _).mono ?_
  rintro e w1 ⟨rfl, hb⟩
  have H1 := Lib.hid (show _ ∧ _ from ⟨HL.out.1.trans (hb.mono HL.out.1.size), HL.out.2.below hb HL.out.2.lt⟩)
  clear k1 hb HL d0
  cases b1
  · clear ka k2 hcase
    go_wp2_with fail
    go_ret
    exact ⟨by first | rfl | (simp; done), H1.out.1⟩
  have d1 := H1.out.2.cell 1
  go_wp2_with fail
  refine (k2.out _).mono ?_
  rintro e w2 ⟨rfl, hb⟩
  have H2 := Lib.hid (show _ ∧ _ from ⟨H1.out.1.trans (hb.mono H1.out.1.size), H1.out.2.below hb H1.out.2.lt⟩)
  clear k2 hb H1 d1
  cases b2
  · clear ka hcase
    go_wp2_with fail
    go_ret
    exact ⟨by first | rfl | (simp; done), H2.out.1⟩
  have d6 := H2.out.2.cell 6
  rcases hcase with ⟨h10, hd⟩ | ⟨h10, hd⟩
  · have d2 := H2.out.2.cell 2
    have d3 := H2.out.2.cell 3
    have d4 := H2.out.2.cell 4
    have d5 := H2.out.2.cell 5
    have HD := Lib.hid hd
    clear hd
    go_wp2_with fail
    refine (ka.out _).mono ?_
    rintro e w3 ⟨rfl, hb⟩
    have H3 := Lib.hid (H2.out.1.trans (hb.mono H2.out.1.size))
    clear ka hb H2 d2 d3 d4 d5 d6
    go_wp2_with fail
    go_ret
    exact ⟨by rw [HD.out]; cases b4 <;> rfl, H3.out⟩
  · have HD := Lib.hid hd
    clear hd ka
    go_wp2_with fail
    go_ret
    exact ⟨by rw [HD.out]; rfl, H2.out.1⟩
set_option maxRecDepth 100000 in
set_option maxHeartbeats 16000000 in
theorem goodLf1_at (x : Lf) (w : World) (hx : x.a < M) (hL : x.p.length ≤ 140737488355328) :
    Calls Try.prog 238 #[.agg (lfc x).toArray] w fun r w' => r = .returned (.bool (!okLf x)) ∧ Below w.heap.size w w' := by
  have ka := Lib.hid fun wx => goodLeaf_at x wx hx hL
  obtain ⟨b, hb⟩ : ∃ b, okLf x = b := ⟨_, rfl⟩
  rw [hb] at ka ⊢
  clear hb hx hL
  go_enter Try.func238, Try.ntmps238
  go_upto_region 1 with (fail)
  refine wp_abs (Mem w [(w.heap.size, 198, (lfc x).toArray)]) ⟨by go_grown, by (repeat (first | (refine Row.new_at ?_; simp; done) | refine Row.alloc ?_ _)), trivial⟩ ?_
  intro w0 hM
  obtain ⟨hl, r1, -⟩ := hM
  let L : List Sp := [sV 1 [] [] (fun u => u = .bool b)]
  refine wp_region_six0 (shs L) (look6 L) (None_) (by kernel_rfl) (by kernel_rfl) (mk_St L [] [] (by kernel_rfl) (by kernel_rfl) ⟨ok_V ⟨_, rfl⟩, trivial⟩ (by simp)) ?_
  intro QQ hQ
  -- 0: load<198> *t1
  refine stepK rfl (by kernel_rfl) (fun K hK => ?_); go_simp
  apply Exists.intro; apply And.intro; (focus exact kLoad rfl rfl aggT198 r1 (lfc_len x) id); refine hK _ _ ?_; clear hK K
  -- 1: call F239(t3)
  refine stepS _ rfl (by kernel_rfl) (fun K hK => ?_); go_simp
  refine ⟨?_, ?_⟩
  · intro wk hk hg hu; go_simp; refine upon_enter ((ka.out _).mono ?_); rintro e w' ⟨rfl, hb⟩; exact ⟨_, rfl, left_V (p := fun u => u = .bool b) rfl (hb) rfl⟩
  rintro ⟨v1, lo1, hi1⟩ - - (rfl : v1 = _)
  refine hK _ _ ?_; clear hK K
  -- 2: not<4> t4
  refine stepK rfl (by kernel_rfl) (fun K hK => ?_); go_simp
  apply Exists.intro; apply And.intro; (focus (intro wk hk; go_simp; exact ⟨rfl, rfl⟩)); refine hK _ _ ?_; clear hK K
  -- 3: assign t5
  refine stepK rfl (by kernel_rfl) (fun K hK => ?_); go_simp
  apply Exists.intro; apply And.intro; (focus (intro wk hk; go_simp; exact ⟨rfl, rfl⟩)); refine hK _ _ ?_; clear hK K
  refine stepN ?_
  refine hQ _ _ ?_
  intro w9 hT hG hF
  have H9 := Lib.hid (hl.trans (hT.below.mono hl.size))
  clear hT hG hF hQ QQ L hl r1 ka
  go_wp2_with fail
  go_ret
  exact ⟨by first | rfl | (simp; done), H9.out⟩
set_option maxRecDepth 100000 in
set_option maxHeartbeats 16000000 in
theorem goodL_idx (v : Value) (l : List Lf) (w : World) (h : Ls w v l) (hpl : ∀ x ∈ l, x.p.length ≤ 140737488355328) (hE : l.length ≤ 1000) :
    Calls Try.prog 255 #[v, .func (.func 238) #[] #[]] w (IdxP (l.all okLf) w) := by
  have HC := Lib.hid h
  obtain ⟨q, c, rfl, -⟩ := h.1
  obtain ⟨m, hm⟩ : ∃ m, l.length = m := ⟨_, rfl⟩
  rw [hm] at HC ⊢
  have hmi : (m : Int) ≤ 1000 := by omega
  go_enter Try.func255, Try.ntmps255
  go_wp2_with fail
  go_loopg [5, 8] m (fun gg s5 s8 wr => ∃ i : Nat, i + gg = m ∧ s8 = .int .i64 (i : Int) ∧ Hid (∀ (j : Nat) (x : Lf), j < i → l[j]? = some x → okLf x = true) ∧ Hid (Below w.heap.size w wr))
  case atStart => exact ⟨0, by omega, rfl, Lib.hid (fun j e h => absurd h (Nat.not_lt_zero j)), Lib.hid (Below.refl _ _)⟩
  case round =>
    obtain ⟨i, him, rfl, hall, hinv⟩ := hrel
    by_cases hi : i < m
    · obtain ⟨x, hx⟩ : ∃ x, l[i]? = some x := ⟨_, List.getElem?_eq_getElem (by omega)⟩
      obtain ⟨g, o, c', hu, hg, hcs⟩ := (HC.out.below hinv.out).1.get hx
      simp only [Value.slice.injEq] at hu
      obtain ⟨rfl, -, -⟩ := hu
      have kb := fun wx (hbw : Below w.heap.size w wx) => goodLf1_at x wx (HC.out.2 x (List.mem_of_getElem? hx)).a (hpl x (List.mem_of_getElem? hx))
      obtain ⟨b, hb⟩ : ∃ b, okLf x = b := ⟨_, rfl⟩
      simp only [hb] at kb
      replace kb := Lib.hid kb
      have he' := Lib.hid (show _ ∧ _ from ⟨hx, hb⟩)
      clear hx hb
      have hlt : (i : Int) < (m : Int) := by omega
      go_upto_region 4 with (fail)
      let L : List Sp := [sV 5 [] [] (fun u => u = .bool (!b))]
      refine wp_region_six0 (shs L) (look6 L) (None_) (by kernel_rfl) (by kernel_rfl) (mk_St L [] [] (by kernel_rfl) (by kernel_rfl) ⟨ok_V ⟨_, rfl⟩, trivial⟩ (by simp)) ?_
      intro QQ hQ
      -- 0: t1
      refine stepK rfl (by kernel_rfl) (fun K hK => ?_); go_simp
      apply Exists.intro; apply And.intro; (focus (intro wk hk; go_simp; exact ⟨rfl, rfl⟩)); refine hK _ _ ?_; clear hK K
      -- 1: t0
      refine stepK rfl (by kernel_rfl) (fun K hK => ?_); go_simp
      apply Exists.intro; apply And.intro; (focus (intro wk hk; go_simp; exact ⟨rfl, rfl⟩)); refine hK _ _ ?_; clear hK K
      -- 2: t5
      refine stepK rfl (by kernel_rfl) (fun K hK => ?_); go_simp
      apply Exists.intro; apply And.intro; (focus (intro wk hk; go_simp; exact ⟨rfl, rfl⟩)); refine hK _ _ ?_; clear hK K
      -- 3: indexAddr<112> t12[t13]
      refine stepK rfl (by kernel_rfl) (fun K hK => ?_); go_simp
      apply Exists.intro; apply And.intro; (focus (intro wk hk; go_simp; exact ⟨rfl, rfl⟩)); refine hK _ _ ?_; clear hK K
      -- 4: load<198> *t14
      refine stepK rfl (by kernel_rfl) (fun K hK => ?_); go_simp
      apply Exists.intro; apply And.intro; (focus exact kLoadE rfl rfl aggT198 hcs (lfc_len x) hg id); refine hK _ _ ?_; clear hK K
      -- 5: call t11(t15)
      refine stepS _ rfl (by kernel_rfl) (fun K hK => ?_); go_simp
      refine ⟨?_, ?_⟩
      · intro wk hk hg hu; go_simp; refine upon_enter ((kb.out _ (hinv.out.trans (hk.below.mono hinv.out.size))).mono ?_); rintro e w' ⟨rfl, hb⟩; exact ⟨_, rfl, left_V (p := fun u => u = .bool (!b)) rfl (hb) rfl⟩
      rintro ⟨v5, lo5, hi5⟩ - - (rfl : v5 = _)
      refine hK _ _ ?_; clear hK K
      refine stepN ?_
      refine hQ _ _ ?_
      intro w1 hT hG hF
      have hl1 := Lib.hid (hinv.out.trans (hT.below.mono hinv.out.size))
      clear hT hG hF hQ QQ L hinv hcs kb
      cases b
      · go_wp2_with fail
        go_ret
        unfold IdxP
        exact ⟨_, rfl, (fun h => by rw [all_not he'.out.1 he'.out.2] at h; cases h), (fun _ => by omega), hl1.out⟩
      · go_wp2_with fail
        go_roundg (gk - 1)
        case measure => omega
        case rel =>
          refine ⟨i + 1, by omega, by go_num, Lib.hid fun j e hj hje => ?_, hl1⟩
          rcases Nat.lt_or_ge j i with h | h
          · exact hall.out j e h hje
          · obtain rfl : j = i := by omega
            have h1 := he'.out.1.symm.trans hje
            injection h1 with h1
            rw [← h1]
            exact he'.out.2
    · obtain rfl : i = m := by omega
      have hlt : ¬ (i : Int) < (i : Int) := by omega
      go_wp2_with fail
      go_ret
      unfold IdxP
      exact ⟨-1, rfl, (fun _ => rfl), (fun h => by rw [all_all (fun j e hj hje => hall.out j e (by omega) hje)] at h; cases h), hinv.out⟩
set_option maxRecDepth 100000 in
set_option maxHeartbeats 16000000 in
theorem goodL_cont (v : Value) (l : List Lf) (w : World) (h : Ls w v l) (hpl : ∀ x ∈ l, x.p.length ≤ 140737488355328) (hE : l.length ≤ 1000) :
    Calls Try.prog 237 #[v, .func (.func 238) #[] #[]] w fun r w' => r = .returned (.bool (!l.all okLf)) ∧ Below w.heap.size w w' := by
  have K := Lib.hid (goodL_idx v l w h hpl hE)
  obtain ⟨b, hb⟩ : ∃ b, l.all okLf = b := ⟨_, rfl⟩
  rw [hb] at K ⊢
  clear h hE hb
  go_enter Try.func237, Try.ntmps237
  go_wp2_with fail
  refine K.out.mono ?_
  rintro e w1 ⟨n, rfl, hn, hn', hb⟩
  clear K
  cases b
  · have hge : (0 : Int) ≤ n := hn' rfl
    clear hn hn'
    go_wp2_with fail
    go_ret
    exact ⟨by first | rfl | (simp; done), hb⟩
  · obtain rfl : n = -1 := hn rfl
    clear hn hn'
    go_wp2_with fail
    go_ret
    exact ⟨by first | rfl | (simp; done), hb⟩
end Go.Proofs.Ytpdenhmkpiafiaa
