/-
  Events out of bytes: one (244), read (221), Parse (143), ToResult (145).
-/
import Derived.Test.YtpdenhmkpiafiaaEvOwn
namespace Go.Proofs.Ytpdenhmkpiafiaa
open Go Go.RowKit K6

/-- what stands in the loop of 'one' -/
structure OneI (w wr : World) (lo hi g B B1 : Nat) (k : Int) (v : Value) (i gg : Nat) (L : List Nat) (e3 : Int) (x3 : List Int) (es : Int) (ys : List Int) (l : List Nat) : Prop where
  r0 : Row wr B 26 #[.int .i64 0, .slice none 0 0]
  r1 : Row wr B1 26 #[.int .i64 k, v]
  own : Oe wr (B1 + 1) v l
  src : SA wr lo hi g es ys
  tr : Tr (fun b => b = g) w wr
  rest : ∃ L', gAs gg (es, ys) = (L', e3, x3) ∧ l ++ L' = L
  len : l.length = i
  sz : B1 + 1 ≤ wr.heap.size
theorem OneI.stop {w wr : World} {lo hi g B B1 i gg : Nat} {k : Int} {v : Value} {L : List Nat} {e3 : Int} {x3 : List Int} {es : Int} {ys : List Int} {l : List Nat} (h : OneI w wr lo hi g B B1 k v i gg L e3 x3 es ys l) (h0 : es ≠ 0 ∨ gg = 0) : l = L ∧ es = e3 ∧ ys = x3 := by
  obtain ⟨L', h1, h2⟩ := h.rest
  have h3 : gAs gg (es, ys) = ([], es, ys) := by
    rcases h0 with h0 | rfl
    · exact gAs_stop gg h0
    · rfl
  rw [h3] at h1
  simp only [Prod.mk.injEq] at h1
  obtain ⟨rfl, rfl, rfl⟩ := h1
  exact ⟨by rw [← h2, List.append_nil], rfl, rfl⟩
set_option maxRecDepth 100000 in
set_option maxHeartbeats 16000000 in
theorem one_bad {w : World} {lo hi g : Nat} {e : Int} {xs : List Int} (h : SA w lo hi g e xs) (hhi : hi ≤ w.heap.size) (hC : (gV 26 (e, xs)).2.1 = 0 ∧ (gV 26 (e, xs)).1 = 0) :
    Calls Try.prog 244 #[.pointer (some ⟨g, 0, none⟩)] w fun r w' => r = .returned (.tuple #[.agg #[.int .i64 0, .slice none 0 0], .bool false]) ∧ Tr (fun b => b = g) w w' := by
  obtain ⟨k, e1, x1, hg1⟩ := tri (gV 26 (e, xs))
  rw [hg1] at hC
  simp only at hC
  obtain ⟨rfl, rfl⟩ := hC
  have kv := Lib.hid (fun wx (hb : Below w.heap.size w wx) => svar_V (h.below hb) hg1)
  have hA : Below w.heap.size w (w.alloc (.cells #[.int .i64 0, .slice none 0 0] 26)) := (Below.refl _ _).alloc (Nat.le_refl _) _
  have r0 : Row (w.alloc (.cells #[.int .i64 0, .slice none 0 0] 26)) w.heap.size 26 #[.int .i64 0, .slice none 0 0] := Row.new_at rfl
  have hsz : (w.alloc (.cells #[.int .i64 0, .slice none 0 0] 26)).heap.size = w.heap.size + 1 := by simp
  have hgh : g < hi := h.2.1
  obtain ⟨B, hB⟩ : ∃ B, w.heap.size = B := ⟨_, rfl⟩
  have R0 := Lib.hid (show _ ∧ _ ∧ _ from ⟨hA, r0, hsz⟩)
  clear h hA hsz r0 hg1
  go_enter Try.func244, Try.ntmps244
  go_wp2_with fail
  refine (kv.out _ R0.out.1).mono ?_
  rintro r w1 ⟨rfl, hs, ht⟩
  have r1 := K6.Row.tr R0.out.2.1 ht (by omega)
  have hs1 := ht.size
  rw [R0.out.2.2] at hs1
  replace ht : Tr (fun b => b = g) w w1 := (Tr.of R0.out.1 : Tr (fun b => b = g) w _).trans ht
  have HS := Lib.hid (show _ ∧ _ ∧ _ from ⟨hs, ht, r1⟩)
  clear kv R0 hs ht r1
  go_upto_region 2 with (fail)
  obtain ⟨hs, ht, r1⟩ := HS.out
  clear HS
  have hB0 : ∀ x, Below w1.heap.size w1 (w1.alloc x) := fun x => (Below.refl _ _).alloc (Nat.le_refl _) _
  refine wp_abs (fun wx => SA wx lo hi g 0 x1 ∧ Tr (fun b => b = g) w wx ∧ Row wx w.heap.size 26 #[.int .i64 0, .slice none 0 0] ∧ Row wx w1.heap.size 26 #[.int .i64 ((0 : Nat) : Int), .slice none 0 0]) ⟨hs.below (hB0 _), ht.trans (Tr.of (hB0 _)), r1.below (hB0 _) r1.lt, ?_⟩ ?_
  · refine Row.new_at ?_; simp
  rintro w5 ⟨hs5, ht5, r0, rT⟩
  obtain ⟨B1, hB1⟩ : ∃ B1, w1.heap.size = B1 := ⟨_, rfl⟩
  try rw [hB1] at rT
  try rw [hB1] at hs1
  try rw [hB1]
  try rw [hB] at r0
  try rw [hB] at hs1
  try rw [hB] at hhi
  try rw [hB]
  have er := Lib.hid (err_at hs5)
  have HS := Lib.hid (show _ ∧ _ ∧ _ ∧ _ from ⟨hs5, ht5, r0, rT⟩)
  have c0 := rT.cell 0
  clear hB0 hs ht r1 hB1 hs5 ht5 r0 rT
  go_wp2_with fail
  refine er.out.mono ?_
  rintro r w6 ⟨rfl, rfl⟩
  clear er
  go_upto_region 3 with (fail)
  clear c0
  obtain ⟨hs, ht, r0, rT⟩ := HS.out
  clear HS
  let L : List Sp := [sO 1 (B) 26 [0] (fun g => aggOf g 0)]
  refine wp_region_six0 (shs L) (look6 L) (fun c => c = B) (by kernel_rfl) (by kernel_rfl) (mk_St L [1] [1] (by kernel_rfl) (by kernel_rfl) ⟨ok_O aggOf_congr r0.lt (rfl), trivial⟩ (by simp)) ?_
  intro QQ hQ
  -- 0: load<26> *t4
  refine stepK rfl (by kernel_rfl) (fun K hK => ?_); go_simp
  apply Exists.intro; apply And.intro; (focus exact kLoad rfl rfl aggT26 rT rfl id); refine hK _ _ ?_; clear hK K
  -- 1: store<26> *t2 = t16
  refine stepS _ rfl (by kernel_rfl) (fun K hK => ?_); go_simp
  refine ⟨?_, ?_⟩
  · exact sStoreO rfl rfl rfl rfl rfl rfl r0 id (by kernel_rfl) rfl (by kernel_rfl) (by decide) aggOf_congr
  rintro ⟨v1, lo1, hi1⟩ - - (rfl : v1 = undef)
  refine hK _ _ ?_; clear hK K
  -- 2: assign false
  refine stepKz rfl (fun K hK => ?_); go_simp
  apply Exists.intro; apply And.intro; (focus (intro wk hk; go_simp; exact ⟨rfl, rfl⟩)); refine hK _ _ ?_; clear hK K
  refine stepN ?_
  refine hQ _ _ ?_
  intro w9 hT hG hF
  have x0 : Row w9 B 26 (#[.int .i64 0, .slice none 0 0]) := hF 1 _ rfl rfl (by decide)
  have ht9 := ht.trans_new hT (fun b hb hlt => by have hb' : b = B := hb; omega)
  clear hT hG hF hQ QQ L
  go_wp2_with fail
  refine bodyPost_ret (results_ct rfl aggT26 rfl x0 rfl) rfl ?_
  exact ⟨rfl, ht9⟩
set_option maxRecDepth 100000 in
set_option maxHeartbeats 64000000 in
theorem one_ok {w : World} {lo hi g : Nat} {e : Int} {xs : List Int} (h : SA w lo hi g e xs) (hhi : hi ≤ w.heap.size) (hC : ¬ ((gV 26 (e, xs)).2.1 = 0 ∧ (gV 26 (e, xs)).1 = 0)) :
    Calls Try.prog 244 #[.pointer (some ⟨g, 0, none⟩)] w fun r w' => ∃ v, r = .returned (.tuple #[.agg #[.int .i64 (((gE (e, xs)).1.1 : Nat) : Int), v], .bool true]) ∧ Oe w' w.heap.size v (gE (e, xs)).1.2 ∧ SA w' lo hi g (gE (e, xs)).2.1 (gE (e, xs)).2.2 ∧ Tr (fun b => b = g) w w' := by
  obtain ⟨k, e1, x1, hg1⟩ := tri (gV 26 (e, xs))
  obtain ⟨n, e2, x2, hg2⟩ := tri (gV 100 (e1, x1))
  obtain ⟨Lf, e3, x3, hg3⟩ : ∃ Lf e3 x3, gAs n (e2, x2) = (Lf, e3, x3) := ⟨_, _, _, rfl⟩
  have hgE : gE (e, xs) = ((k, Lf), e3, x3) := by
    unfold gE
    rw [if_neg hC, hg1]
    simp only
    rw [hg2]
    simp only
    rw [hg3]
  rw [hgE]
  rw [hg1] at hC
  simp only at hC ⊢
  have hn : n ≤ 100 := by
    have h1 := gV_most (most := 100) (s := (e1, x1)) (by decide)
    rw [hg2] at h1
    simp only at h1
    omega
  have kv := Lib.hid (fun wx (hb : Below w.heap.size w wx) => svar_V (h.below hb) hg1)
  have kv2 := Lib.hid (fun wx (hs : SA wx lo hi g e1 x1) => svar_V hs hg2)
  replace hg3 := Lib.hid hg3
  have CC := Lib.hid hC
  have hA : Below w.heap.size w (w.alloc (.cells #[.int .i64 0, .slice none 0 0] 26)) := (Below.refl _ _).alloc (Nat.le_refl _) _
  have r0 : Row (w.alloc (.cells #[.int .i64 0, .slice none 0 0] 26)) w.heap.size 26 #[.int .i64 0, .slice none 0 0] := Row.new_at rfl
  have hsz : (w.alloc (.cells #[.int .i64 0, .slice none 0 0] 26)).heap.size = w.heap.size + 1 := by simp
  have hgh : g < hi := h.2.1
  obtain ⟨B, hB⟩ : ∃ B, w.heap.size = B := ⟨_, rfl⟩
  have R0 := Lib.hid (show _ ∧ _ ∧ _ from ⟨hA, r0, hsz⟩)
  clear h hA hsz r0 hg1 hg2 hgE hC
  go_enter Try.func244, Try.ntmps244
  go_wp2_with fail
  refine (kv.out _ R0.out.1).mono ?_
  rintro r w1 ⟨rfl, hs, ht⟩
  have r1 := K6.Row.tr R0.out.2.1 ht (by omega)
  have hs1 := ht.size
  rw [R0.out.2.2] at hs1
  replace ht : Tr (fun b => b = g) w w1 := (Tr.of R0.out.1 : Tr (fun b => b = g) w _).trans ht
  have HS := Lib.hid (show _ ∧ _ ∧ _ from ⟨hs, ht, r1⟩)
  clear kv R0 hs ht r1
  go_upto_region 2 with (fail)
  obtain ⟨hs, ht, r1⟩ := HS.out
  clear HS
  have hB0 : ∀ x, Below w1.heap.size w1 (w1.alloc x) := fun x => (Below.refl _ _).alloc (Nat.le_refl _) _
  refine wp_abs (fun wx => SA wx lo hi g e1 x1 ∧ Tr (fun b => b = g) w wx ∧ Row wx w.heap.size 26 #[.int .i64 0, .slice none 0 0] ∧ Row wx w1.heap.size 26 #[.int .i64 (k : Int), .slice none 0 0]) ⟨hs.below (hB0 _), ht.trans (Tr.of (hB0 _)), r1.below (hB0 _) r1.lt, ?_⟩ ?_
  · refine Row.new_at ?_; simp
  rintro w5 ⟨hs5, ht5, r0, rT⟩
  obtain ⟨B1, hB1⟩ : ∃ B1, w1.heap.size = B1 := ⟨_, rfl⟩
  try rw [hB1] at rT
  try rw [hB1] at hs1
  try rw [hB1]
  try rw [hB] at r0
  try rw [hB] at hs1
  try rw [hB] at hhi
  try rw [hB]
  have er := Lib.hid (err_at hs5)
  have HS := Lib.hid (show _ ∧ _ ∧ _ ∧ _ from ⟨hs5, ht5, r0, rT⟩)
  have c0 := rT.cell 0
  clear hB0 hs ht r1 hB1 hs5 ht5 r0 rT
  by_cases he1 : e1 = 0
  · have hkq : ((k : Int) == 0) = false := by rw [beq_eq_false_iff_ne]; intro h9; exact CC.out ⟨he1, by omega⟩
    subst he1
    go_wp2_with fail
    refine er.out.mono ?_
    rintro r w6 ⟨rfl, rfl⟩
    clear er
    go_wp2_with fail
    clear hkq c0
    refine (kv2.out _ HS.out.1).mono ?_
    rintro r w7 ⟨rfl, hs, ht⟩
    have H7 : OneI w w7 lo hi g B B1 (k : Int) (.slice none 0 0) 0 n Lf e3 x3 e2 x2 [] := ⟨K6.Row.tr HS.out.2.2.1 ht (by omega), K6.Row.tr HS.out.2.2.2 ht (by omega), Oe.nil _ _, hs, HS.out.2.1.trans ht, ⟨Lf, hg3.out, rfl⟩, rfl, (K6.Row.tr HS.out.2.2.2 ht (by omega)).lt⟩
    replace H7 := Lib.hid H7
    clear HS hs ht kv2 hg3 CC
    go_wp2_with fail
    go_loopg [19] n (fun gg s19 wr => ∃ (i : Nat) (v : Value) (es : Int) (ys : List Int) (l : List Nat), i + gg = n ∧ s19 = .int .i64 (i : Int) ∧ Hid (OneI w wr lo hi g B B1 (k : Int) v i gg Lf e3 x3 es ys l))
    case atStart => exact ⟨0, .slice none 0 0, e2, x2, [], by omega, rfl, H7⟩
    case round =>
      clear H7
      obtain ⟨i, v, es, ys, l, him, rfl, hinv⟩ := hrel
      by_cases hi' : i < n
      · obtain ⟨gn, rfl⟩ : ∃ gn, gk = gn + 1 := ⟨gk - 1, by omega⟩
        have hlt : (i : Int) < (n : Int) := by omega
        have er := Lib.hid (err_at hinv.out.src)
        by_cases hes : es = 0
        · subst hes
          go_wp2_with fail
          refine er.out.mono ?_
          rintro r w8 ⟨rfl, rfl⟩
          clear er
          obtain ⟨a, e4, y4, hg4⟩ := tri (gA (0, ys))
          obtain ⟨r0, r1, own, src, tr, ⟨L', hL1, hL2⟩, hlen, hsz⟩ := hinv.out
          clear hinv
          rw [gAs_go gn rfl, hg4] at hL1
          simp only [Prod.mk.injEq] at hL1
          have HL := Lib.hid (show gAs gn (e4, y4) = ((gAs gn (e4, y4)).1, e3, x3) ∧ (l ++ [a]) ++ (gAs gn (e4, y4)).1 = Lf from ⟨Prod.ext rfl hL1.2, by rw [← hL2, ← hL1.1, List.append_assoc]; rfl⟩)
          clear hL1 hL2
          have hh8 : hi ≤ w8.heap.size := by omega
          have ka := fun wk (hk : Tr None_ w8 wk) => samt_V (src.keep hk fun _ _ _ => id) (Nat.le_trans hh8 hk.size) hg4
          obtain ⟨y0, y1, y2, y3, hW⟩ : ∃ y0 y1 y2 y3 : Int, W4 a = #[.int .u64 y0, .int .u64 y1, .int .u64 y2, .int .u64 y3] := ⟨_, _, _, _, rfl⟩
          simp only [hW] at ka
          replace ka := Lib.hid ka
          replace hW := Lib.hid hW
          have hvg : ∀ b, v.ownBlock = some b → b = g → False := fun b hb hc => by have h1 := (own_lt own b hb).1; omega
          have hB1g : ¬ B1 = g := by omega
          have hvB1 : ¬ v.ownBlock = some B1 := fun hb => by have h1 := (own_lt own _ hb).1; omega
          have hil : i ≤ 1000 := by omega
          have own' : w8.ownsRow (B1 + 1) 31 4 v i (uw l) := by rw [← hlen]; exact own
          have hn := Lib.hid hn
          go_upto_region 7 with (fail)
          let L : List Sp := [sW 3 [] [] [] g (fun b => lo ≤ b ∧ b < hi) (fun u => u = .agg #[.int .u64 y0, .int .u64 y1, .int .u64 y2, .int .u64 y3]) (fun _ w => SA w lo hi g e4 y4), sL 4 31 [] 1 #[.int .u64 y0, .int .u64 y1, .int .u64 y2, .int .u64 y3], sPz 5 [4] [4] (B1 + 1) 31 4 v (i + 1) (uw l ++ [.int .u64 y0, .int .u64 y1, .int .u64 y2, .int .u64 y3]), sO 7 (B1) 26 [5, 4] (fun gh => #[.int .i64 (k : Int), (gh 5).v])]
          refine wp_region_six (shs L) (look6 L) (fun c => c = g ∨ c = B1 ∨ v.ownBlock = some c) (by kernel_rfl) (by kernel_rfl) (mk_St L [3, 5, 7] [3, 5, 7] (by kernel_rfl) (by kernel_rfl) ⟨ok_W ⟨_, rfl⟩ (fun _ _ _ h hT => h.keep hT fun b h1 h2 hx => hx ⟨h1, h2⟩) src.lt (.inl rfl) (fun b hb => Nat.lt_of_lt_of_le hb.2 hh8), ok_L, ok_Pz (own_sl3 own) (fun b hb => ⟨.inr (.inr hb), (own_lt own b hb).2⟩), ok_O (fun g g' h => by rw [h 5 (by simp)]) r1.lt (.inr (.inl rfl)), trivial⟩ (by intro i hi j hj hne b hb hx; simp only [List.mem_cons, List.not_mem_nil, or_false] at hi hj; rcases hi with rfl | rfl | rfl <;> rcases hj with rfl | rfl | rfl <;> first | exact absurd rfl hne | (have h1 : lo ≤ b ∧ b < hi := hb; have h2 : v.ownBlock = some b := hx; have h3 := (own_lt own b h2).1; omega) | (have h1 : lo ≤ b ∧ b < hi := hb; have h2 : b = B1 := hx; omega) | (have h1 : v.ownBlock = some b := hb; have h2 : b = g := hx; have h3 := (own_lt own b h1).1; omega) | (have h1 : v.ownBlock = some b := hb; have h2 : b = B1 := hx; have h3 := (own_lt own b h1).1; omega) | (have h1 : b = B1 := hb; have h2 : b = g := hx; omega) | (have h1 : b = B1 := hb; have h2 : v.ownBlock = some b := hx; have h3 := (own_lt own b h2).1; omega))) ?_
          intro QQ hQ
          -- 0: fieldAddr<26> t4.1
          refine stepKx [3] (fun c => c = g) rfl (by kernel_rfl) (by intro i hi b hb; simp only [List.mem_cons, List.not_mem_nil, or_false] at hi; subst hi; exact hb) (fun K hK => ?_); go_simp
          apply Exists.intro; apply And.intro; (focus (intro wk hk; go_simp; exact ⟨rfl, rfl⟩)); refine hK _ _ ?_; clear hK K
          -- 1: load<23> *t24
          refine stepKx [3] (fun c => c = g) rfl (by kernel_rfl) (by intro i hi b hb; simp only [List.mem_cons, List.not_mem_nil, or_false] at hi; subst hi; exact hb) (fun K hK => ?_); go_simp
          apply Exists.intro; apply And.intro; (focus (intro wk hk; have cc : wk.cell? ⟨B1, 1, none⟩ = some v := (K6.Row.tr r1 hk.undrew (by intro hc; exact hB1g hc)).cell 1; go_simp; exact ⟨rfl, rfl⟩)); refine hK _ _ ?_; clear hK K
          -- 2: t0
          refine stepK rfl (by kernel_rfl) (fun K hK => ?_); go_simp
          apply Exists.intro; apply And.intro; (focus (intro wk hk; go_simp; exact ⟨rfl, rfl⟩)); refine hK _ _ ?_; clear hK K
          -- 3: call F62(t26)
          refine stepS _ rfl (by kernel_rfl) (fun K hK => ?_); go_simp
          refine ⟨?_, ?_⟩
          · intro wk hk hg hu; go_simp; refine upon_enter ((ka.out _ hk.undrew).mono ?_); rintro e w' ⟨rfl, hf, ht⟩; exact ⟨_, rfl, left_W (p := fun u => u = .agg #[.int .u64 y0, .int .u64 y1, .int .u64 y2, .int .u64 y3]) (f := fun _ w => SA w lo hi g e4 y4) rfl rfl rfl ht hf⟩
          rintro ⟨v3, lo3, hi3⟩ - - (rfl : v3 = _)
          refine hK _ _ ?_; clear hK K
          -- 4: buildSlice<23> len 1 0:t27
          refine stepSz _ rfl (fun K hK => ?_); go_simp
          refine ⟨?_, ?_⟩
          · intro wk hk hg hu; go_simp; exact left_L rfl rfl
          rintro ⟨v4, lo4, hi4⟩ hlo4 hhi4 ⟨e4, f4⟩
          replace e4 : v4 = .slice (some ⟨lo4, 0, none⟩) 1 1 := e4; replace f4 : hi4 = lo4 + 1 := f4; replace hlo4 : _ ≤ lo4 := hlo4; subst e4; subst f4
          refine hK _ _ ?_; clear hK K
          -- 5: call builtin append<23,23>(t25, t28)
          refine stepSx _ [3] (fun c => c = g) rfl (by kernel_rfl) (by intro i hi b hb; simp only [List.mem_cons, List.not_mem_nil, or_false] at hi; subst hi; exact hb) (fun K hK => ?_); go_simp
          refine ⟨?_, ?_⟩
          · intro wk hk hg hu; have uL := hu 4 (show 4 ∈ [4] by decide); have rL : Row wk lo4 31 (#[.int .u64 y0, .int .u64 y1, .int .u64 y2, .int .u64 y3]) := uL.2; have how := own_tr own' hk.undrew (fun b hb hc => hvg b hb hc); obtain ⟨vz, wz, hrun, hoz, hgz, hwz⟩ := append1 appT23 how rL rfl (by kernel_rfl) (by omega) (by have h2 := hk.undrew.size; omega); rw [run_append_op rfl rfl rfl hrun]; exact left_Pz rfl rfl hgz hoz (fun b hb => (own_lt hoz b hb).2) hwz
          rintro ⟨v5, lo5, hi5⟩ - - ⟨hG5, q5, m5, c5, rfl⟩
          refine hK _ _ ?_; clear hK K
          -- 6: fieldAddr<26> t4.1
          refine stepKx [3, 5] (fun c => c = g ∨ v.ownBlock = some c) rfl (by kernel_rfl) (by intro i hi b hb; simp only [List.mem_cons, List.not_mem_nil, or_false] at hi; rcases hi with rfl | rfl <;> first | exact Or.inl hb | exact Or.inr hb | exact Or.inr (Or.inl hb) | exact Or.inr (Or.inr hb) | exact Or.inr (Or.inr (Or.inl hb)) | exact Or.inr (Or.inr (Or.inr hb))) (fun K hK => ?_); go_simp
          apply Exists.intro; apply And.intro; (focus (intro wk hk; go_simp; exact ⟨rfl, rfl⟩)); refine hK _ _ ?_; clear hK K
          -- 7: store<23> *t30 = t29
          refine stepSx _ [3, 5] (fun c => c = g ∨ v.ownBlock = some c) rfl (by kernel_rfl) (by intro i hi b hb; simp only [List.mem_cons, List.not_mem_nil, or_false] at hi; rcases hi with rfl | rfl <;> first | exact Or.inl hb | exact Or.inr hb | exact Or.inr (Or.inl hb) | exact Or.inr (Or.inr hb) | exact Or.inr (Or.inr (Or.inl hb)) | exact Or.inr (Or.inr (Or.inr hb))) (fun K hK => ?_); go_simp
          refine ⟨?_, ?_⟩
          · intro wk hk hg hu; have rk := K6.Row.tr r1 hk.undrew (by intro hc; rcases hc with hc | hc; exact hB1g hc; exact hvB1 hc); have cc := rk.cell 1; have ff := rk.frozen 1; go_simp; exact left_O (l := L) (s := (sO 7 (B1) 26 [5, 4] (fun gh => #[.int .i64 (k : Int), (gh 5).v])).1) rfl rfl (by decide) (fun g g' h => by rw [h 5 (by simp)]) (fun c hc => Below.heap_setCell _ _ _ _ hc) rfl rfl rfl (by simp) (Row.congr (rk.set 1 _) rfl)
          rintro ⟨v7, lo7, hi7⟩ - - (rfl : v7 = undef)
          refine hK _ _ ?_; clear hK K
          refine stepN ?_
          refine hQ _ _ ?_
          intro w9 hT hG hF
          have hT9 := hT.undrew
          have src9 : SA w9 lo hi g e4 y4 := hF 3 _ rfl rfl (by decide)
          have hf5 : Grew v ⟨.slice q5 m5 c5, lo5, hi5⟩ ∧ w9.ownsRow (B1 + 1) 31 4 (.slice q5 m5 c5) (i + 1) (uw l ++ [.int .u64 y0, .int .u64 y1, .int .u64 y2, .int .u64 y3]) := hF 5 _ rfl rfl (by decide)
          have r1' : Row w9 B1 26 #[.int .i64 (k : Int), .slice q5 m5 c5] := hF 7 _ rfl rfl (by decide)
          have H := Lib.hid (show OneI w w9 lo hi g B B1 (k : Int) (.slice q5 m5 c5) (i + 1) gn Lf e3 x3 e4 y4 (l ++ [a]) from ⟨K6.Row.tr r0 hT9 (by intro hc; rcases hc with hc | hc | hc; omega; omega; have := (own_lt own _ hc).1; omega), r1',
            by unfold Oe; rw [List.length_append, uw_snoc, hW.out, hlen]; exact hf5.2, src9, tr.trans_new hT9 (by intro b hc hlt; rcases hc with hc | hc | hc; exact hc; omega; have := (own_lt own _ hc).1; omega), ⟨_, HL.out.1, HL.out.2⟩, by rw [List.length_append, hlen]; rfl, by have := hT9.size; omega⟩)
          clear hT hT9 hG hF hQ QQ L hf5 r1' src9 src own tr r0 r1 ka HL hG5 hvg
          go_wp2_with fail
          go_roundg gn
          case measure => omega
          case rel => exact ⟨i + 1, .slice q5 m5 c5, e4, y4, l ++ [a], by omega, by go_num, H⟩
        · have hq : (es != 0) = true := by rw [bne_iff_ne]; exact hes
          have hn := Lib.hid hn
          go_wp2_with fail
          refine er.out.mono ?_
          rintro r w8 ⟨rfl, rfl⟩
          clear er
          have hI := hinv.out
          clear hinv
          obtain ⟨rfl, rfl, rfl⟩ := hI.stop (.inl hes)
          obtain ⟨r0, r1, own, src, tr, -, -, hsz⟩ := hI
          have hone : (#[Value.int .i64 (k : Int), v] : Array Value).all (·.oneCell') = true := one2 own.one
          have HO := Lib.hid own
          clear own
          go_upto_region 9 with (fail)
          let L : List Sp := [sO 1 (B) 26 [0] (fun g => aggOf g 0)]
          refine wp_region_six0 (shs L) (look6 L) (fun c => c = B) (by kernel_rfl) (by kernel_rfl) (mk_St L [1] [1] (by kernel_rfl) (by kernel_rfl) ⟨ok_O aggOf_congr r0.lt (rfl), trivial⟩ (by simp)) ?_
          intro QQ hQ
          -- 0: load<26> *t4
          refine stepK rfl (by kernel_rfl) (fun K hK => ?_); go_simp
          apply Exists.intro; apply And.intro; (focus exact kLoad rfl rfl aggT26 r1 rfl id); refine hK _ _ ?_; clear hK K
          -- 1: store<26> *t2 = t32
          refine stepS _ rfl (by kernel_rfl) (fun K hK => ?_); go_simp
          refine ⟨?_, ?_⟩
          · exact sStoreO rfl rfl rfl rfl rfl rfl r0 id (by kernel_rfl) rfl hone (by decide) aggOf_congr
          rintro ⟨v1, lo1, hi1⟩ - - (rfl : v1 = undef)
          refine hK _ _ ?_; clear hK K
          -- 2: assign true
          refine stepKz rfl (fun K hK => ?_); go_simp
          apply Exists.intro; apply And.intro; (focus (intro wk hk; go_simp; exact ⟨rfl, rfl⟩)); refine hK _ _ ?_; clear hK K
          refine stepN ?_
          refine hQ _ _ ?_
          intro w9 hT hG hF
          have x0 : Row w9 B 26 (#[.int .i64 (k : Int), v]) := hF 1 _ rfl rfl (by decide)
          have ho9 := HO.out.keep hT (fun b hb hc => by have h1 := (HO.out.lt b hb).1; have hc' : b = B := hc; omega)
          have hs9 := src.keep hT (fun b _ hb hc => by have hc' : b = B := hc; omega)
          have ht9 := tr.trans_new hT (fun b hb hlt => by have hb' : b = B := hb; omega)
          have H9 := Lib.hid (show _ ∧ _ ∧ _ from ⟨ho9.base (b' := B) (by omega), hs9, ht9⟩)
          clear hT hG hF hQ QQ L ho9 hs9 ht9 src tr r0 r1 HO
          go_wp2_with fail
          refine bodyPost_ret (results_ct rfl aggT26 rfl x0 rfl) rfl ?_
          exact ⟨v, rfl, by first | exact H9.out.1 | (rw [hB]; exact H9.out.1), H9.out.2.1, H9.out.2.2⟩
      · obtain rfl : gk = 0 := by omega
        obtain rfl : i = n := by omega
        have hlt : ¬ (i : Int) < (i : Int) := by omega
        have hn := Lib.hid hn
        have hI := hinv.out
        clear hinv
        obtain ⟨rfl, rfl, rfl⟩ := hI.stop (.inr rfl)
        obtain ⟨r0, r1, own, src, tr, -, -, hsz⟩ := hI
        have hone : (#[Value.int .i64 (k : Int), v] : Array Value).all (·.oneCell') = true := one2 own.one
        have HO := Lib.hid own
        clear own
        go_upto_region 9 with (fail)
        let L : List Sp := [sO 1 (B) 26 [0] (fun g => aggOf g 0)]
        refine wp_region_six0 (shs L) (look6 L) (fun c => c = B) (by kernel_rfl) (by kernel_rfl) (mk_St L [1] [1] (by kernel_rfl) (by kernel_rfl) ⟨ok_O aggOf_congr r0.lt (rfl), trivial⟩ (by simp)) ?_
        intro QQ hQ
        -- 0: load<26> *t4
        refine stepK rfl (by kernel_rfl) (fun K hK => ?_); go_simp
        apply Exists.intro; apply And.intro; (focus exact kLoad rfl rfl aggT26 r1 rfl id); refine hK _ _ ?_; clear hK K
        -- 1: store<26> *t2 = t32
        refine stepS _ rfl (by kernel_rfl) (fun K hK => ?_); go_simp
        refine ⟨?_, ?_⟩
        · exact sStoreO rfl rfl rfl rfl rfl rfl r0 id (by kernel_rfl) rfl hone (by decide) aggOf_congr
        rintro ⟨v1, lo1, hi1⟩ - - (rfl : v1 = undef)
        refine hK _ _ ?_; clear hK K
        -- 2: assign true
        refine stepKz rfl (fun K hK => ?_); go_simp
        apply Exists.intro; apply And.intro; (focus (intro wk hk; go_simp; exact ⟨rfl, rfl⟩)); refine hK _ _ ?_; clear hK K
        refine stepN ?_
        refine hQ _ _ ?_
        intro w9 hT hG hF
        have x0 : Row w9 B 26 (#[.int .i64 (k : Int), v]) := hF 1 _ rfl rfl (by decide)
        have ho9 := HO.out.keep hT (fun b hb hc => by have h1 := (HO.out.lt b hb).1; have hc' : b = B := hc; omega)
        have hs9 := src.keep hT (fun b _ hb hc => by have hc' : b = B := hc; omega)
        have ht9 := tr.trans_new hT (fun b hb hlt => by have hb' : b = B := hb; omega)
        have H9 := Lib.hid (show _ ∧ _ ∧ _ from ⟨ho9.base (b' := B) (by omega), hs9, ht9⟩)
        clear hT hG hF hQ QQ L ho9 hs9 ht9 src tr r0 r1 HO
        go_wp2_with fail
        refine bodyPost_ret (results_ct rfl aggT26 rfl x0 rfl) rfl ?_
        exact ⟨v, rfl, by first | exact H9.out.1 | (rw [hB]; exact H9.out.1), H9.out.2.1, H9.out.2.2⟩
  · have hq : (e1 == 0) = false := by rw [beq_eq_false_iff_ne]; exact he1
    go_wp2_with fail
    refine er.out.mono ?_
    rintro r w6 ⟨rfl, rfl⟩
    clear er
    go_wp2_with fail
    clear hq c0
    refine (kv2.out _ HS.out.1).mono ?_
    rintro r w7 ⟨rfl, hs, ht⟩
    have H7 : OneI w w7 lo hi g B B1 (k : Int) (.slice none 0 0) 0 n Lf e3 x3 e2 x2 [] := ⟨K6.Row.tr HS.out.2.2.1 ht (by omega), K6.Row.tr HS.out.2.2.2 ht (by omega), Oe.nil _ _, hs, HS.out.2.1.trans ht, ⟨Lf, hg3.out, rfl⟩, rfl, (K6.Row.tr HS.out.2.2.2 ht (by omega)).lt⟩
    replace H7 := Lib.hid H7
    clear HS hs ht kv2 hg3 CC
    go_wp2_with fail
    go_loopg [19] n (fun gg s19 wr => ∃ (i : Nat) (v : Value) (es : Int) (ys : List Int) (l : List Nat), i + gg = n ∧ s19 = .int .i64 (i : Int) ∧ Hid (OneI w wr lo hi g B B1 (k : Int) v i gg Lf e3 x3 es ys l))
    case atStart => exact ⟨0, .slice none 0 0, e2, x2, [], by omega, rfl, H7⟩
    case round =>
      clear H7
      obtain ⟨i, v, es, ys, l, him, rfl, hinv⟩ := hrel
      by_cases hi' : i < n
      · obtain ⟨gn, rfl⟩ : ∃ gn, gk = gn + 1 := ⟨gk - 1, by omega⟩
        have hlt : (i : Int) < (n : Int) := by omega
        have er := Lib.hid (err_at hinv.out.src)
        by_cases hes : es = 0
        · subst hes
          go_wp2_with fail
          refine er.out.mono ?_
          rintro r w8 ⟨rfl, rfl⟩
          clear er
          obtain ⟨a, e4, y4, hg4⟩ := tri (gA (0, ys))
          obtain ⟨r0, r1, own, src, tr, ⟨L', hL1, hL2⟩, hlen, hsz⟩ := hinv.out
          clear hinv
          rw [gAs_go gn rfl, hg4] at hL1
          simp only [Prod.mk.injEq] at hL1
          have HL := Lib.hid (show gAs gn (e4, y4) = ((gAs gn (e4, y4)).1, e3, x3) ∧ (l ++ [a]) ++ (gAs gn (e4, y4)).1 = Lf from ⟨Prod.ext rfl hL1.2, by rw [← hL2, ← hL1.1, List.append_assoc]; rfl⟩)
          clear hL1 hL2
          have hh8 : hi ≤ w8.heap.size := by omega
          have ka := fun wk (hk : Tr None_ w8 wk) => samt_V (src.keep hk fun _ _ _ => id) (Nat.le_trans hh8 hk.size) hg4
          obtain ⟨y0, y1, y2, y3, hW⟩ : ∃ y0 y1 y2 y3 : Int, W4 a = #[.int .u64 y0, .int .u64 y1, .int .u64 y2, .int .u64 y3] := ⟨_, _, _, _, rfl⟩
          simp only [hW] at ka
          replace ka := Lib.hid ka
          replace hW := Lib.hid hW
          have hvg : ∀ b, v.ownBlock = some b → b = g → False := fun b hb hc => by have h1 := (own_lt own b hb).1; omega
          have hB1g : ¬ B1 = g := by omega
          have hvB1 : ¬ v.ownBlock = some B1 := fun hb => by have h1 := (own_lt own _ hb).1; omega
          have hil : i ≤ 1000 := by omega
          have own' : w8.ownsRow (B1 + 1) 31 4 v i (uw l) := by rw [← hlen]; exact own
          have hn := Lib.hid hn
          go_upto_region 7 with (fail)
          let L : List Sp := [sW 3 [] [] [] g (fun b => lo ≤ b ∧ b < hi) (fun u => u = .agg #[.int .u64 y0, .int .u64 y1, .int .u64 y2, .int .u64 y3]) (fun _ w => SA w lo hi g e4 y4), sL 4 31 [] 1 #[.int .u64 y0, .int .u64 y1, .int .u64 y2, .int .u64 y3], sPz 5 [4] [4] (B1 + 1) 31 4 v (i + 1) (uw l ++ [.int .u64 y0, .int .u64 y1, .int .u64 y2, .int .u64 y3]), sO 7 (B1) 26 [5, 4] (fun gh => #[.int .i64 (k : Int), (gh 5).v])]
          refine wp_region_six (shs L) (look6 L) (fun c => c = g ∨ c = B1 ∨ v.ownBlock = some c) (by kernel_rfl) (by kernel_rfl) (mk_St L [3, 5, 7] [3, 5, 7] (by kernel_rfl) (by kernel_rfl) ⟨ok_W ⟨_, rfl⟩ (fun _ _ _ h hT => h.keep hT fun b h1 h2 hx => hx ⟨h1, h2⟩) src.lt (.inl rfl) (fun b hb => Nat.lt_of_lt_of_le hb.2 hh8), ok_L, ok_Pz (own_sl3 own) (fun b hb => ⟨.inr (.inr hb), (own_lt own b hb).2⟩), ok_O (fun g g' h => by rw [h 5 (by simp)]) r1.lt (.inr (.inl rfl)), trivial⟩ (by intro i hi j hj hne b hb hx; simp only [List.mem_cons, List.not_mem_nil, or_false] at hi hj; rcases hi with rfl | rfl | rfl <;> rcases hj with rfl | rfl | rfl <;> first | exact absurd rfl hne | (have h1 : lo ≤ b ∧ b < hi := hb; have h2 : v.ownBlock = some b := hx; have h3 := (own_lt own b h2).1; omega) | (have h1 : lo ≤ b ∧ b < hi := hb; have h2 : b = B1 := hx; omega) | (have h1 : v.ownBlock = some b := hb; have h2 : b = g := hx; have h3 := (own_lt own b h1).1; omega) | (have h1 : v.ownBlock = some b := hb; have h2 : b = B1 := hx; have h3 := (own_lt own b h1).1; omega) | (have h1 : b = B1 := hb; have h2 : b = g := hx; omega) | (have h1 : b = B1 := hb; have h2 : v.ownBlock = some b := hx; have h3 := (own_lt own b h2).1; omega))) ?_
          intro QQ hQ
          -- 0: fieldAddr<26> t4.1
          refine stepKx [3] (fun c => c = g) rfl (by kernel_rfl) (by intro i hi b hb; simp only [List.mem_cons, List.not_mem_nil, or_false] at hi; subst hi; exact hb) (fun K hK => ?_); go_simp
          apply Exists.intro; apply And.intro; (focus (intro wk hk; go_simp; exact ⟨rfl, rfl⟩)); refine hK _ _ ?_; clear hK K
          -- 1: load<23> *t24
          refine stepKx [3] (fun c => c = g) rfl (by kernel_rfl) (by intro i hi b hb; simp only [List.mem_cons, List.not_mem_nil, or_false] at hi; subst hi; exact hb) (fun K hK => ?_); go_simp
          apply Exists.intro; apply And.intro; (focus (intro wk hk; have cc : wk.cell? ⟨B1, 1, none⟩ = some v := (K6.Row.tr r1 hk.undrew (by intro hc; exact hB1g hc)).cell 1; go_simp; exact ⟨rfl, rfl⟩)); refine hK _ _ ?_; clear hK K
          -- 2: t0
          refine stepK rfl (by kernel_rfl) (fun K hK => ?_); go_simp
          apply Exists.intro; apply And.intro; (focus (intro wk hk; go_simp; exact ⟨rfl, rfl⟩)); refine hK _ _ ?_; clear hK K
          -- 3: call F62(t26)
          refine stepS _ rfl (by kernel_rfl) (fun K hK => ?_); go_simp
          refine ⟨?_, ?_⟩
          · intro wk hk hg hu; go_simp; refine upon_enter ((ka.out _ hk.undrew).mono ?_); rintro e w' ⟨rfl, hf, ht⟩; exact ⟨_, rfl, left_W (p := fun u => u = .agg #[.int .u64 y0, .int .u64 y1, .int .u64 y2, .int .u64 y3]) (f := fun _ w => SA w lo hi g e4 y4) rfl rfl rfl ht hf⟩
          rintro ⟨v3, lo3, hi3⟩ - - (rfl : v3 = _)
          refine hK _ _ ?_; clear hK K
          -- 4: buildSlice<23> len 1 0:t27
          refine stepSz _ rfl (fun K hK => ?_); go_simp
          refine ⟨?_, ?_⟩
          · intro wk hk hg hu; go_simp; exact left_L rfl rfl
          rintro ⟨v4, lo4, hi4⟩ hlo4 hhi4 ⟨e4, f4⟩
          replace e4 : v4 = .slice (some ⟨lo4, 0, none⟩) 1 1 := e4; replace f4 : hi4 = lo4 + 1 := f4; replace hlo4 : _ ≤ lo4 := hlo4; subst e4; subst f4
          refine hK _ _ ?_; clear hK K
          -- 5: call builtin append<23,23>(t25, t28)
          refine stepSx _ [3] (fun c => c = g) rfl (by kernel_rfl) (by intro i hi b hb; simp only [List.mem_cons, List.not_mem_nil, or_false] at hi; subst hi; exact hb) (fun K hK => ?_); go_simp
          refine ⟨?_, ?_⟩
          · intro wk hk hg hu; have uL := hu 4 (show 4 ∈ [4] by decide); have rL : Row wk lo4 31 (#[.int .u64 y0, .int .u64 y1, .int .u64 y2, .int .u64 y3]) := uL.2; have how := own_tr own' hk.undrew (fun b hb hc => hvg b hb hc); obtain ⟨vz, wz, hrun, hoz, hgz, hwz⟩ := append1 appT23 how rL rfl (by kernel_rfl) (by omega) (by have h2 := hk.undrew.size; omega); rw [run_append_op rfl rfl rfl hrun]; exact left_Pz rfl rfl hgz hoz (fun b hb => (own_lt hoz b hb).2) hwz
          rintro ⟨v5, lo5, hi5⟩ - - ⟨hG5, q5, m5, c5, rfl⟩
          refine hK _ _ ?_; clear hK K
          -- 6: fieldAddr<26> t4.1
          refine stepKx [3, 5] (fun c => c = g ∨ v.ownBlock = some c) rfl (by kernel_rfl) (by intro i hi b hb; simp only [List.mem_cons, List.not_mem_nil, or_false] at hi; rcases hi with rfl | rfl <;> first | exact Or.inl hb | exact Or.inr hb | exact Or.inr (Or.inl hb) | exact Or.inr (Or.inr hb) | exact Or.inr (Or.inr (Or.inl hb)) | exact Or.inr (Or.inr (Or.inr hb))) (fun K hK => ?_); go_simp
          apply Exists.intro; apply And.intro; (focus (intro wk hk; go_simp; exact ⟨rfl, rfl⟩)); refine hK _ _ ?_; clear hK K
          -- 7: store<23> *t30 = t29
          refine stepSx _ [3, 5] (fun c => c = g ∨ v.ownBlock = some c) rfl (by kernel_rfl) (by intro i hi b hb; simp only [List.mem_cons, List.not_mem_nil, or_false] at hi; rcases hi with rfl | rfl <;> first | exact Or.inl hb | exact Or.inr hb | exact Or.inr (Or.inl hb) | exact Or.inr (Or.inr hb) | exact Or.inr (Or.inr (Or.inl hb)) | exact Or.inr (Or.inr (Or.inr hb))) (fun K hK => ?_); go_simp
          refine ⟨?_, ?_⟩
          · intro wk hk hg hu; have rk := K6.Row.tr r1 hk.undrew (by intro hc; rcases hc with hc | hc; exact hB1g hc; exact hvB1 hc); have cc := rk.cell 1; have ff := rk.frozen 1; go_simp; exact left_O (l := L) (s := (sO 7 (B1) 26 [5, 4] (fun gh => #[.int .i64 (k : Int), (gh 5).v])).1) rfl rfl (by decide) (fun g g' h => by rw [h 5 (by simp)]) (fun c hc => Below.heap_setCell _ _ _ _ hc) rfl rfl rfl (by simp) (Row.congr (rk.set 1 _) rfl)
          rintro ⟨v7, lo7, hi7⟩ - - (rfl : v7 = undef)
          refine hK _ _ ?_; clear hK K
          refine stepN ?_
          refine hQ _ _ ?_
          intro w9 hT hG hF
          have hT9 := hT.undrew
          have src9 : SA w9 lo hi g e4 y4 := hF 3 _ rfl rfl (by decide)
          have hf5 : Grew v ⟨.slice q5 m5 c5, lo5, hi5⟩ ∧ w9.ownsRow (B1 + 1) 31 4 (.slice q5 m5 c5) (i + 1) (uw l ++ [.int .u64 y0, .int .u64 y1, .int .u64 y2, .int .u64 y3]) := hF 5 _ rfl rfl (by decide)
          have r1' : Row w9 B1 26 #[.int .i64 (k : Int), .slice q5 m5 c5] := hF 7 _ rfl rfl (by decide)
          have H := Lib.hid (show OneI w w9 lo hi g B B1 (k : Int) (.slice q5 m5 c5) (i + 1) gn Lf e3 x3 e4 y4 (l ++ [a]) from ⟨K6.Row.tr r0 hT9 (by intro hc; rcases hc with hc | hc | hc; omega; omega; have := (own_lt own _ hc).1; omega), r1',
            by unfold Oe; rw [List.length_append, uw_snoc, hW.out, hlen]; exact hf5.2, src9, tr.trans_new hT9 (by intro b hc hlt; rcases hc with hc | hc | hc; exact hc; omega; have := (own_lt own _ hc).1; omega), ⟨_, HL.out.1, HL.out.2⟩, by rw [List.length_append, hlen]; rfl, by have := hT9.size; omega⟩)
          clear hT hT9 hG hF hQ QQ L hf5 r1' src9 src own tr r0 r1 ka HL hG5 hvg
          go_wp2_with fail
          go_roundg gn
          case measure => omega
          case rel => exact ⟨i + 1, .slice q5 m5 c5, e4, y4, l ++ [a], by omega, by go_num, H⟩
        · have hq : (es != 0) = true := by rw [bne_iff_ne]; exact hes
          have hn := Lib.hid hn
          go_wp2_with fail
          refine er.out.mono ?_
          rintro r w8 ⟨rfl, rfl⟩
          clear er
          have hI := hinv.out
          clear hinv
          obtain ⟨rfl, rfl, rfl⟩ := hI.stop (.inl hes)
          obtain ⟨r0, r1, own, src, tr, -, -, hsz⟩ := hI
          have hone : (#[Value.int .i64 (k : Int), v] : Array Value).all (·.oneCell') = true := one2 own.one
          have HO := Lib.hid own
          clear own
          go_upto_region 9 with (fail)
          let L : List Sp := [sO 1 (B) 26 [0] (fun g => aggOf g 0)]
          refine wp_region_six0 (shs L) (look6 L) (fun c => c = B) (by kernel_rfl) (by kernel_rfl) (mk_St L [1] [1] (by kernel_rfl) (by kernel_rfl) ⟨ok_O aggOf_congr r0.lt (rfl), trivial⟩ (by simp)) ?_
          intro QQ hQ
          -- 0: load<26> *t4
          refine stepK rfl (by kernel_rfl) (fun K hK => ?_); go_simp
          apply Exists.intro; apply And.intro; (focus exact kLoad rfl rfl aggT26 r1 rfl id); refine hK _ _ ?_; clear hK K
          -- 1: store<26> *t2 = t32
          refine stepS _ rfl (by kernel_rfl) (fun K hK => ?_); go_simp
          refine ⟨?_, ?_⟩
          · exact sStoreO rfl rfl rfl rfl rfl rfl r0 id (by kernel_rfl) rfl hone (by decide) aggOf_congr
          rintro ⟨v1, lo1, hi1⟩ - - (rfl : v1 = undef)
          refine hK _ _ ?_; clear hK K
          -- 2: assign true
          refine stepKz rfl (fun K hK => ?_); go_simp
          apply Exists.intro; apply And.intro; (focus (intro wk hk; go_simp; exact ⟨rfl, rfl⟩)); refine hK _ _ ?_; clear hK K
          refine stepN ?_
          refine hQ _ _ ?_
          intro w9 hT hG hF
          have x0 : Row w9 B 26 (#[.int .i64 (k : Int), v]) := hF 1 _ rfl rfl (by decide)
          have ho9 := HO.out.keep hT (fun b hb hc => by have h1 := (HO.out.lt b hb).1; have hc' : b = B := hc; omega)
          have hs9 := src.keep hT (fun b _ hb hc => by have hc' : b = B := hc; omega)
          have ht9 := tr.trans_new hT (fun b hb hlt => by have hb' : b = B := hb; omega)
          have H9 := Lib.hid (show _ ∧ _ ∧ _ from ⟨ho9.base (b' := B) (by omega), hs9, ht9⟩)
          clear hT hG hF hQ QQ L ho9 hs9 ht9 src tr r0 r1 HO
          go_wp2_with fail
          refine bodyPost_ret (results_ct rfl aggT26 rfl x0 rfl) rfl ?_
          exact ⟨v, rfl, by first | exact H9.out.1 | (rw [hB]; exact H9.out.1), H9.out.2.1, H9.out.2.2⟩
      · obtain rfl : gk = 0 := by omega
        obtain rfl : i = n := by omega
        have hlt : ¬ (i : Int) < (i : Int) := by omega
        have hn := Lib.hid hn
        have hI := hinv.out
        clear hinv
        obtain ⟨rfl, rfl, rfl⟩ := hI.stop (.inr rfl)
        obtain ⟨r0, r1, own, src, tr, -, -, hsz⟩ := hI
        have hone : (#[Value.int .i64 (k : Int), v] : Array Value).all (·.oneCell') = true := one2 own.one
        have HO := Lib.hid own
        clear own
        go_upto_region 9 with (fail)
        let L : List Sp := [sO 1 (B) 26 [0] (fun g => aggOf g 0)]
        refine wp_region_six0 (shs L) (look6 L) (fun c => c = B) (by kernel_rfl) (by kernel_rfl) (mk_St L [1] [1] (by kernel_rfl) (by kernel_rfl) ⟨ok_O aggOf_congr r0.lt (rfl), trivial⟩ (by simp)) ?_
        intro QQ hQ
        -- 0: load<26> *t4
        refine stepK rfl (by kernel_rfl) (fun K hK => ?_); go_simp
        apply Exists.intro; apply And.intro; (focus exact kLoad rfl rfl aggT26 r1 rfl id); refine hK _ _ ?_; clear hK K
        -- 1: store<26> *t2 = t32
        refine stepS _ rfl (by kernel_rfl) (fun K hK => ?_); go_simp
        refine ⟨?_, ?_⟩
        · exact sStoreO rfl rfl rfl rfl rfl rfl r0 id (by kernel_rfl) rfl hone (by decide) aggOf_congr
        rintro ⟨v1, lo1, hi1⟩ - - (rfl : v1 = undef)
        refine hK _ _ ?_; clear hK K
        -- 2: assign true
        refine stepKz rfl (fun K hK => ?_); go_simp
        apply Exists.intro; apply And.intro; (focus (intro wk hk; go_simp; exact ⟨rfl, rfl⟩)); refine hK _ _ ?_; clear hK K
        refine stepN ?_
        refine hQ _ _ ?_
        intro w9 hT hG hF
        have x0 : Row w9 B 26 (#[.int .i64 (k : Int), v]) := hF 1 _ rfl rfl (by decide)
        have ho9 := HO.out.keep hT (fun b hb hc => by have h1 := (HO.out.lt b hb).1; have hc' : b = B := hc; omega)
        have hs9 := src.keep hT (fun b _ hb hc => by have hc' : b = B := hc; omega)
        have ht9 := tr.trans_new hT (fun b hb hlt => by have hb' : b = B := hb; omega)
        have H9 := Lib.hid (show _ ∧ _ ∧ _ from ⟨ho9.base (b' := B) (by omega), hs9, ht9⟩)
        clear hT hG hF hQ QQ L ho9 hs9 ht9 src tr r0 r1 HO
        go_wp2_with fail
        refine bodyPost_ret (results_ct rfl aggT26 rfl x0 rfl) rfl ?_
        exact ⟨v, rfl, by first | exact H9.out.1 | (rw [hB]; exact H9.out.1), H9.out.2.1, H9.out.2.2⟩
end Go.Proofs.Ytpdenhmkpiafiaa
