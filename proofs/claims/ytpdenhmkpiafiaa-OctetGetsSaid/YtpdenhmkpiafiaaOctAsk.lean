/-
  tallagelaw04.ask (65): a source and the document's tell the same.
-/
import Derived.Test.YtpdenhmkpiafiaaRefSrc2
import Derived.Test.YtpdenhmkpiafiaaOctKU
namespace Go.Proofs.Ytpdenhmkpiafiaa
open Go Go.RowKit K6

theorem eqItems_self {P : Program} (d : Nat) {e : TypeId} {k : IntKind} (he : P.underlying e = some (.int k)) (cs : Array Value) (w : World) : ∀ is : List Nat, (∀ i ∈ is, ∃ x : Int, cs[i]? = some (.int k x)) → (Op.eqItems (d + 1) e 1 cs cs is).run P w = .ok true w
  | [], _ => by simp [Op.eqItems]
  | i :: is, h => by
    obtain ⟨x, hx⟩ := h i (List.mem_cons_self ..)
    have ih := eqItems_self d he cs w is fun j hj => h j (List.mem_cons_of_mem _ hj)
    have e1 : ∀ (a b : Int) (wx : World), (Op.equalIn (d + 1) e (.int k a) (.int k b)).run P wx = .ok (a == b) wx := fun a b wx => by
      simp [Op.equalIn, run_underlying he]
    simp [Op.eqItems, part, isAgg, run_underlying he, e1, hx, ih]
set_option maxRecDepth 100000 in
theorem eq35_self {X : List Int} (hX : X.length = 32) (w : World) : (Op.equalIn 10000 35 (.agg (bv X).toArray) (.agg (bv X).toArray)).run Try.prog w = .ok true w := by
  obtain ⟨i, hi⟩ := Option.isSome_iff_exists.1 (show (Try.prog.info? 5).isSome = true by kernel_rfl)
  have hc : Try.prog.cellsOf 5 = 1 := by kernel_rfl
  rw [run_equalIn_array w 9999 _ _ Try.underlying35 hi, hc]
  refine eqItems_self 9998 Try.underlying5 _ w _ fun j hj => ?_
  have hj2 : j < X.length := by rw [hX]; exact List.mem_range.1 hj
  refine ⟨X[j], ?_⟩
  rw [List.getElem?_toArray]
  unfold bv
  rw [List.getElem?_map, List.getElem?_eq_getElem hj2]
  rfl
theorem gH_len (s : St) : (gH s).1.length = 32 := by
  unfold gH gT
  simp only
  split
  · rename_i h
    unfold tkE at h
    unfold tkO
    split at h
    · rename_i h1
      split at h
      · rename_i h2; rw [if_pos h1, if_pos h2, List.length_take]; omega
      · cases h
    · rename_i h1; exact absurd h h1
  · rw [List.length_replicate]
theorem SR.loc {g : Nat} {q : Option Nat} {e : Int} {xs : List Int} (w w' : World) (h : SR w g q e xs) (hT : Tr (fun b => ¬ (b = g ∨ q = some b)) w w') : SR w' g q e xs := h.keep hT (fun hx => hx (.inl rfl)) (fun _ hb hx => hx (.inr hb))
/-- ask: it yields true, and both sources have gone on alike -/
def Asked (w : World) (lo hi g g' : Nat) (q : Option Nat) (s : St) (r : Ending) (w' : World) : Prop := r = .returned (.bool true) ∧ (SA w' lo hi g s.1 s.2 ∧ SR w' g' q s.1 s.2) ∧ Tr (fun b => b = g ∨ b = g') w w'
/-- the state behind an ask -/
def askS (k m : Int) (s : St) : St := if k = 0 then (gV m s).2 else if k = 1 then (gA s).2 else if k = 2 then (gH s).2 else if k = 3 then (gX m s).2 else (tkE 1 s.1 s.2, tkR 1 s.1 s.2)
set_option maxRecDepth 100000 in
set_option maxHeartbeats 16000000 in
theorem ask_0 {w : World} {lo hi g g' : Nat} {q : Option Nat} {e : Int} {xs : List Int} (m : Int) (hs : SA w lo hi g e xs) (hr : SR w g' q e xs) (hhi : hi ≤ w.heap.size) (hg' : ¬ (lo ≤ g' ∧ g' < hi)) (hqq : ∀ b, q = some b → b < w.heap.size ∧ ¬ (lo ≤ b ∧ b < hi) ∧ b ≠ g) :
    Calls Try.prog 65 #[.pointer (some ⟨g, 0, none⟩), .pointer (some ⟨g', 0, none⟩), .agg #[.int .i64 0, .int .i64 m]] w (Asked w lo hi g g' q (gV m (e, xs)).2) := by
  have hgl := hs.lt
  have hgr := hr.lt
  have hg1 := hs.1
  have hg2 := hs.2.1
  have hgg : g ≠ g' := fun e => by omega
  obtain ⟨N, hN⟩ : ∃ N, (gV m (e, xs)).1 = N := ⟨_, rfl⟩
  obtain ⟨⟨E, R⟩, hE⟩ : ∃ s, (gV m (e, xs)).2 = s := ⟨_, rfl⟩
  have k1 := Lib.hid (fun wk (hk : SA wk lo hi g e xs) => (show Calls Try.prog 60 #[.pointer (some ⟨g, 0, none⟩), .int .i64 m] wk fun r w' => r = .returned (.int .i64 (N : Int)) ∧ SA w' lo hi g E R ∧ Tr (fun b => b = g) wk w' from by
    have h := svar_at m hk
    unfold Varred at h
    rw [show svN m e xs = N from hN, show svE m e xs = E from congrArg Prod.fst hE, show svR m e xs = R from congrArg Prod.snd hE] at h
    exact h))
  have k2 := Lib.hid (fun wk (hk : SR wk g' q e xs) => (show Calls Try.prog 178 #[.pointer (some ⟨g', 0, none⟩), .int .i64 m] wk fun r w' => r = .returned (.int .i64 (N : Int)) ∧ SR w' g' q E R ∧ Tr (fun b => b = g') wk w' from by
    have h := rvar_at m hk
    unfold GotR at h
    rw [hN, hE] at h
    exact h))
  rw [hE]
  clear hN hE
  go_enter Try.func65, Try.ntmps65
  go_upto_region 3 with (fail)
  have hA : Below w.heap.size w (w.alloc (.cells #[.int .i64 0, .int .i64 m] 68)) := (Below.refl _ _).alloc (Nat.le_refl _) _
  refine wp_abs (fun wx => SA wx lo hi g e xs ∧ SR wx g' q e xs ∧ Below w.heap.size w wx ∧ Row wx w.heap.size 68 #[.int .i64 0, .int .i64 m]) ⟨hs.below hA, hr.below hA, hA, Row.new_at rfl⟩ ?_
  clear hs hr hA
  rintro w1 ⟨hs, hr, hl, ra⟩
  have hsl := hl.size
  have hh : hi ≤ w1.heap.size := Nat.le_trans hhi hsl
  let L : List Sp := [sW 3 [] [] [] g (fun b => lo ≤ b ∧ b < hi) (fun u => u = .int .i64 (N : Int)) (fun _ w => SA w lo hi g E R), sW 7 [] [] [] g' (fun b => b = g' ∨ q = some b) (fun u => u = .int .i64 (N : Int)) (fun _ w => SR w g' q E R)]
  refine wp_region_six (shs L) (look6 L) (fun c => c = g ∨ c = g') (by kernel_rfl) (by kernel_rfl) (mk_St L [3, 7] [3, 7] (by kernel_rfl) (by kernel_rfl) ⟨ok_W ⟨_, rfl⟩ (fun _ => SA.loc) hs.lt (.inl rfl) (fun b hb => Nat.lt_of_lt_of_le hb.2 hh), ok_W ⟨_, rfl⟩ (fun _ => SR.loc) hr.lt (.inr rfl) (fun b hb => by rcases hb with hb | hb; exact hb ▸ hr.lt; exact Nat.lt_of_lt_of_le (hqq b hb).1 hsl), trivial⟩ (by intro i hi j hj hne b hb hx; simp only [List.mem_cons, List.not_mem_nil, or_false] at hi hj; rcases hi with rfl | rfl <;> rcases hj with rfl | rfl <;> first | exact absurd rfl hne | (have hb1 : lo ≤ b ∧ b < hi := hb; have hx1 : b = g' := hx; omega) | (have hb1 : b = g' ∨ q = some b := hb; have hx1 : b = g := hx; rcases hb1 with hb1 | hb1; exact hgg (hx1.symm.trans hb1); exact (hqq b hb1).2.2 hx1))) ?_
  intro QQ hQ
  -- 0: t0
  refine stepK rfl (by kernel_rfl) (fun K hK => ?_); go_simp
  apply Exists.intro; apply And.intro; (focus (intro wk hk; go_simp; exact ⟨rfl, rfl⟩)); refine hK _ _ ?_; clear hK K
  -- 1: fieldAddr<68> t5.1
  refine stepK rfl (by kernel_rfl) (fun K hK => ?_); go_simp
  apply Exists.intro; apply And.intro; (focus (intro wk hk; go_simp; exact ⟨rfl, rfl⟩)); refine hK _ _ ?_; clear hK K
  -- 2: load<3> *t12
  refine stepK rfl (by kernel_rfl) (fun K hK => ?_); go_simp
  apply Exists.intro; apply And.intro; (focus (intro wk hk; have cc : wk.cell? ⟨w.heap.size, 1, none⟩ = some (.int .i64 m) := (K6.Row.tr ra hk.undrew (by first | exact id | (intro hc; rcases hc with hc | hc <;> omega))).cell 1; go_simp; exact ⟨rfl, rfl⟩)); refine hK _ _ ?_; clear hK K
  -- 3: call F60(t11, t13)
  refine stepS _ rfl (by kernel_rfl) (fun K hK => ?_); go_simp
  refine ⟨?_, ?_⟩
  · intro wk hk hg hu; go_simp; refine upon_enter ((k1.out _ (hs.below hk.undrew.below)).mono ?_); rintro e w' ⟨rfl, hf, ht⟩; exact ⟨_, rfl, left_W (p := fun u => u = .int .i64 (N : Int)) (f := fun _ w => SA w lo hi g E R) rfl rfl rfl ht hf⟩
  rintro ⟨v3, lo3, hi3⟩ - - (rfl : v3 = _)
  refine hK _ _ ?_; clear hK K
  -- 4: t1
  refine stepKz rfl (fun K hK => ?_); go_simp
  apply Exists.intro; apply And.intro; (focus (intro wk hk; go_simp; exact ⟨rfl, rfl⟩)); refine hK _ _ ?_; clear hK K
  -- 5: fieldAddr<68> t5.1
  refine stepKz rfl (fun K hK => ?_); go_simp
  apply Exists.intro; apply And.intro; (focus (intro wk hk; go_simp; exact ⟨rfl, rfl⟩)); refine hK _ _ ?_; clear hK K
  -- 6: load<3> *t16
  refine stepKz rfl (fun K hK => ?_); go_simp
  apply Exists.intro; apply And.intro; (focus (intro wk hk; have cc : wk.cell? ⟨w.heap.size, 1, none⟩ = some (.int .i64 m) := (K6.Row.tr ra hk.undrew (by first | exact id | (intro hc; rcases hc with hc | hc <;> omega))).cell 1; go_simp; exact ⟨rfl, rfl⟩)); refine hK _ _ ?_; clear hK K
  -- 7: call F178(t15, t17)
  refine stepSx _ [3] (fun c => c = g) rfl (by kernel_rfl) (by intro i hi b hb; simp only [List.mem_cons, List.not_mem_nil, or_false] at hi; subst hi; exact hb) (fun K hK => ?_); go_simp
  refine ⟨?_, ?_⟩
  · intro wk hk hg hu; go_simp; refine upon_enter ((k2.out _ (hr.keep hk.undrew (fun hc => hgg (Eq.symm hc)) (fun b hb hc => (hqq b hb).2.2 hc))).mono ?_); rintro e w' ⟨rfl, hf, ht⟩; exact ⟨_, rfl, left_W (p := fun u => u = .int .i64 (N : Int)) (f := fun _ w => SR w g' q E R) rfl rfl rfl ht hf⟩
  rintro ⟨v7, lo7, hi7⟩ - - (rfl : v7 = _)
  refine hK _ _ ?_; clear hK K
  -- 8: eql<3> t14, t18
  refine stepKz rfl (fun K hK => ?_); go_simp
  apply Exists.intro; apply And.intro; (focus (intro wk hk; go_simp; exact ⟨rfl, rfl⟩)); refine hK _ _ ?_; clear hK K
  -- 9: assign t19
  refine stepKz rfl (fun K hK => ?_); go_simp
  apply Exists.intro; apply And.intro; (focus (intro wk hk; go_simp; exact ⟨rfl, rfl⟩)); refine hK _ _ ?_; clear hK K
  refine stepN ?_
  refine hQ _ _ ?_
  intro w2 hT hG hF
  have hT9 := hT.undrew
  have u1 : SA w2 lo hi g (E, R).1 (E, R).2 := hF 3 _ rfl rfl (by decide)
  have u2 : SR w2 g' q (E, R).1 (E, R).2 := hF 7 _ rfl rfl (by decide)
  have ht : Tr (fun b => b = g ∨ b = g') w w2 := (Tr.of hl : Tr (fun b => b = g ∨ b = g') w w1).trans hT9
  have H := Lib.hid (show Asked w lo hi g g' q (E, R) (.returned (.bool true)) w2 from ⟨rfl, ⟨u1, u2⟩, ht⟩)
  clear hT hT9 hG hF hQ QQ L u1 u2 ht hs hr hl ra k1 k2
  go_wp2_with fail
  go_ret
  exact H.out
set_option maxRecDepth 100000 in
set_option maxHeartbeats 16000000 in
theorem ask_3 {w : World} {lo hi g g' : Nat} {q : Option Nat} {e : Int} {xs : List Int} (m : Int) (hs : SA w lo hi g e xs) (hr : SR w g' q e xs) (hhi : hi ≤ w.heap.size) (hg' : ¬ (lo ≤ g' ∧ g' < hi)) (hqq : ∀ b, q = some b → b < w.heap.size ∧ ¬ (lo ≤ b ∧ b < hi) ∧ b ≠ g) :
    Calls Try.prog 65 #[.pointer (some ⟨g, 0, none⟩), .pointer (some ⟨g', 0, none⟩), .agg #[.int .i64 3, .int .i64 m]] w (Asked w lo hi g g' q (gX m (e, xs)).2) := by
  have hgl := hs.lt
  have hgr := hr.lt
  have hg1 := hs.1
  have hg2 := hs.2.1
  have hgg : g ≠ g' := fun e => by omega
  obtain ⟨X, hX⟩ : ∃ N, (gX m (e, xs)).1 = N := ⟨_, rfl⟩
  obtain ⟨⟨E, R⟩, hE⟩ : ∃ s, (gX m (e, xs)).2 = s := ⟨_, rfl⟩
  obtain ⟨B, hB⟩ : ∃ B, strOfNums X = B := ⟨_, rfl⟩
  have k1 := Lib.hid (fun wk (hk : SA wk lo hi g e xs) => (show Calls Try.prog 63 #[.pointer (some ⟨g, 0, none⟩), .int .i64 m] wk fun r w' => ∃ v, r = .returned v ∧ ObF (fun w => SA w lo hi g E R) X ⟨v, wk.heap.size, w'.heap.size⟩ w' ∧ Tr (fun b => b = g) wk w' from by
    refine (stext_at m hk).mono ?_
    rintro r w' ⟨v, rfl, ho, hs, ht⟩
    rw [hX] at ho
    rw [hE] at hs
    exact ⟨v, rfl, ⟨ho, fun b hb => (ho.lt b hb).2, hs⟩, ht⟩))
  have k2 := Lib.hid (fun wk (hk : SR wk g' q e xs) => (show Calls Try.prog 181 #[.pointer (some ⟨g', 0, none⟩), .int .i64 m] wk fun r w' => ∃ v, r = .returned v ∧ ObF (fun w => SR w g' q E R) X ⟨v, wk.heap.size, w'.heap.size⟩ w' ∧ Tr (fun b => b = g') wk w' from by
    refine (rtext_at m hk).mono ?_
    rintro r w' ⟨v, rfl, ho, hs, ht⟩
    rw [hX] at ho
    rw [hE] at hs
    exact ⟨v, rfl, ⟨ho, fun b hb => (ho.lt b hb).2, hs⟩, ht⟩))
  replace hB := Lib.hid hB
  rw [hE]
  clear hX hE
  go_enter Try.func65, Try.ntmps65
  go_upto_region 9 with (fail)
  have hA : Below w.heap.size w (w.alloc (.cells #[.int .i64 3, .int .i64 m] 68)) := (Below.refl _ _).alloc (Nat.le_refl _) _
  refine wp_abs (fun wx => SA wx lo hi g e xs ∧ SR wx g' q e xs ∧ Below w.heap.size w wx ∧ Row wx w.heap.size 68 #[.int .i64 3, .int .i64 m]) ⟨hs.below hA, hr.below hA, hA, Row.new_at rfl⟩ ?_
  clear hs hr hA
  rintro w1 ⟨hs, hr, hl, ra⟩
  have hsl := hl.size
  have hh : hi ≤ w1.heap.size := Nat.le_trans hhi hsl
  let L : List Sp := [sU 3 [] [] [] g (fun b => lo ≤ b ∧ b < hi) (fun _ => True) (ObF (fun w => SA w lo hi g E R) X), sV 4 [3] [3] (fun u => u = .string B), sU 8 [] [] [] g' (fun b => b = g' ∨ q = some b) (fun _ => True) (ObF (fun w => SR w g' q E R) X), sV 9 [8] [8] (fun u => u = .string B)]
  refine wp_region_six (shs L) (look6 L) (fun c => c = g ∨ c = g') (by kernel_rfl) (by kernel_rfl) (mk_St L [3, 8] [3, 8] (by kernel_rfl) (by kernel_rfl) ⟨ok_U ⟨⟨undef, _, _⟩, Nat.le_refl _, Nat.le_refl _, trivial⟩ (ObF.loc SA.loc) hs.lt (.inl rfl) (fun b hb => Nat.lt_of_lt_of_le hb.2 hh), ok_V ⟨_, rfl⟩, ok_U ⟨⟨undef, _, _⟩, Nat.le_refl _, Nat.le_refl _, trivial⟩ (ObF.loc SR.loc) hr.lt (.inr rfl) (fun b hb => by rcases hb with hb | hb; exact hb ▸ hr.lt; exact Nat.lt_of_lt_of_le (hqq b hb).1 hsl), ok_V ⟨_, rfl⟩, trivial⟩ (by intro i hi j hj hne b hb hx; simp only [List.mem_cons, List.not_mem_nil, or_false] at hi hj; rcases hi with rfl | rfl <;> rcases hj with rfl | rfl <;> first | exact absurd rfl hne | (have hb1 : lo ≤ b ∧ b < hi := hb; have hx1 : b = g' := hx; omega) | (have hb1 : b = g' ∨ q = some b := hb; have hx1 : b = g := hx; rcases hb1 with hb1 | hb1; exact hgg (hx1.symm.trans hb1); exact (hqq b hb1).2.2 hx1))) ?_
  intro QQ hQ
  -- 0: t0
  refine stepK rfl (by kernel_rfl) (fun K hK => ?_); go_simp
  apply Exists.intro; apply And.intro; (focus (intro wk hk; go_simp; exact ⟨rfl, rfl⟩)); refine hK _ _ ?_; clear hK K
  -- 1: fieldAddr<68> t5.1
  refine stepK rfl (by kernel_rfl) (fun K hK => ?_); go_simp
  apply Exists.intro; apply And.intro; (focus (intro wk hk; go_simp; exact ⟨rfl, rfl⟩)); refine hK _ _ ?_; clear hK K
  -- 2: load<3> *t37
  refine stepK rfl (by kernel_rfl) (fun K hK => ?_); go_simp
  apply Exists.intro; apply And.intro; (focus (intro wk hk; have cc : wk.cell? ⟨w.heap.size, 1, none⟩ = some (.int .i64 m) := (K6.Row.tr ra hk.undrew (by first | exact id | (intro hc; rcases hc with hc | hc <;> omega))).cell 1; go_simp; exact ⟨rfl, rfl⟩)); refine hK _ _ ?_; clear hK K
  -- 3: call F63(t36, t38)
  refine stepS _ rfl (by kernel_rfl) (fun K hK => ?_); go_simp
  refine ⟨?_, ?_⟩
  · intro wk hk hg hu; go_simp; refine upon_enter ((k1.out _ (hs.below hk.undrew.below)).mono ?_); rintro e w' ⟨u, rfl, hf, ht⟩; exact ⟨_, rfl, left_U rfl rfl trivial ht hf⟩
  rintro ⟨v3, lo3, hi3⟩ - - -
  refine hK _ _ ?_; clear hK K
  -- 4: convert<33->9> t39
  refine stepSz _ rfl (fun K hK => ?_); go_simp
  refine ⟨?_, ?_⟩
  · intro wk hk hg hu; have u3 : ObF (fun w => SA w lo hi g E R) X ⟨v3, _, _⟩ wk := hu 3 (show 3 ∈ [3] by decide); have cv := Bs.convA u3.1.bs; rw [hB.out] at cv; go_simp; exact left_V (p := fun u => u = .string B) rfl (Below.refl _ _) rfl
  rintro ⟨v4, lo4, hi4⟩ - - (rfl : v4 = _)
  refine hK _ _ ?_; clear hK K
  -- 5: t1
  refine stepKz rfl (fun K hK => ?_); go_simp
  apply Exists.intro; apply And.intro; (focus (intro wk hk; go_simp; exact ⟨rfl, rfl⟩)); refine hK _ _ ?_; clear hK K
  -- 6: fieldAddr<68> t5.1
  refine stepKz rfl (fun K hK => ?_); go_simp
  apply Exists.intro; apply And.intro; (focus (intro wk hk; go_simp; exact ⟨rfl, rfl⟩)); refine hK _ _ ?_; clear hK K
  -- 7: load<3> *t42
  refine stepKz rfl (fun K hK => ?_); go_simp
  apply Exists.intro; apply And.intro; (focus (intro wk hk; have cc : wk.cell? ⟨w.heap.size, 1, none⟩ = some (.int .i64 m) := (K6.Row.tr ra hk.undrew (by first | exact id | (intro hc; rcases hc with hc | hc <;> omega))).cell 1; go_simp; exact ⟨rfl, rfl⟩)); refine hK _ _ ?_; clear hK K
  -- 8: call F181(t41, t43)
  refine stepSx _ [3] (fun c => c = g) rfl (by kernel_rfl) (by intro i hi b hb; simp only [List.mem_cons, List.not_mem_nil, or_false] at hi; subst hi; exact hb) (fun K hK => ?_); go_simp
  refine ⟨?_, ?_⟩
  · intro wk hk hg hu; go_simp; refine upon_enter ((k2.out _ (hr.keep hk.undrew (fun hc => hgg (Eq.symm hc)) (fun b hb hc => (hqq b hb).2.2 hc))).mono ?_); rintro e w' ⟨u, rfl, hf, ht⟩; exact ⟨_, rfl, left_U rfl rfl trivial ht hf⟩
  rintro ⟨v8, lo8, hi8⟩ - - -
  refine hK _ _ ?_; clear hK K
  -- 9: convert<33->9> t44
  refine stepSz _ rfl (fun K hK => ?_); go_simp
  refine ⟨?_, ?_⟩
  · intro wk hk hg hu; have u8 : ObF (fun w => SR w g' q E R) X ⟨v8, _, _⟩ wk := hu 8 (show 8 ∈ [8] by decide); have cv := Bs.convA u8.1.bs; rw [hB.out] at cv; go_simp; exact left_V (p := fun u => u = .string B) rfl (Below.refl _ _) rfl
  rintro ⟨v9, lo9, hi9⟩ - - (rfl : v9 = _)
  refine hK _ _ ?_; clear hK K
  -- 10: eql<9> t40, t45
  refine stepKz rfl (fun K hK => ?_); go_simp
  apply Exists.intro; apply And.intro; (focus (intro wk hk; go_simp; exact ⟨rfl, rfl⟩)); refine hK _ _ ?_; clear hK K
  -- 11: assign t46
  refine stepKz rfl (fun K hK => ?_); go_simp
  apply Exists.intro; apply And.intro; (focus (intro wk hk; go_simp; exact ⟨rfl, rfl⟩)); refine hK _ _ ?_; clear hK K
  refine stepN ?_
  refine hQ _ _ ?_
  intro w2 hT hG hF
  have hT9 := hT.undrew
  have u1 : SA w2 lo hi g (E, R).1 (E, R).2 := (hF 3 _ rfl rfl (by decide) : ObF (fun w => SA w lo hi g E R) X _ w2).2.2
  have u2 : SR w2 g' q (E, R).1 (E, R).2 := (hF 8 _ rfl rfl (by decide) : ObF (fun w => SR w g' q E R) X _ w2).2.2
  have ht : Tr (fun b => b = g ∨ b = g') w w2 := (Tr.of hl : Tr (fun b => b = g ∨ b = g') w w1).trans hT9
  have H := Lib.hid (show Asked w lo hi g g' q (E, R) (.returned (.bool true)) w2 from ⟨rfl, ⟨u1, u2⟩, ht⟩)
  clear hB hT hT9 hG hF hQ QQ L u1 u2 ht hs hr hl ra k1 k2
  go_wp2_with fail
  go_ret
  exact H.out
set_option maxRecDepth 100000 in
set_option maxHeartbeats 16000000 in
theorem ask_1 {w : World} {lo hi g g' : Nat} {q : Option Nat} {e : Int} {xs : List Int} (m : Int)  (hs : SA w lo hi g e xs) (hr : SR w g' q e xs) (hhi : hi ≤ w.heap.size) (hg' : ¬ (lo ≤ g' ∧ g' < hi)) (hqq : ∀ b, q = some b → b < w.heap.size ∧ ¬ (lo ≤ b ∧ b < hi) ∧ b ≠ g) :
    Calls Try.prog 65 #[.pointer (some ⟨g, 0, none⟩), .pointer (some ⟨g', 0, none⟩), .agg #[.int .i64 1, .int .i64 m]] w (Asked w lo hi g g' q (gA (e, xs)).2) := by
  have hgl := hs.lt
  have hgr := hr.lt
  have hg1 := hs.1
  have hg2 := hs.2.1
  have hgg : g ≠ g' := fun e => by omega
  have HG := Lib.hid hg'
  have hVM := gA_lt (s := (e, xs)) hs.2.2.2.1
  obtain ⟨V, hV⟩ : ∃ V, (gA (e, xs)).1 = V := ⟨_, rfl⟩
  obtain ⟨⟨E, R⟩, hE⟩ : ∃ s : St, (gA (e, xs)).2 = s := ⟨_, rfl⟩
  have k1 := Lib.hid (fun wk (hk : SA wk lo hi g e xs) (hw : hi ≤ wk.heap.size) => (show Calls Try.prog 62 #[.pointer (some ⟨g, 0, none⟩)] wk fun r w' => r = .returned (.agg (W4 V)) ∧ SA w' lo hi g E R ∧ Tr (fun b => b = g) wk w' from by
    have h := samt_at hk hw
    unfold Got at h
    rw [hV, hE] at h
    exact h))
  have k2 := Lib.hid (fun wk (hk : SR wk g' q e xs) (hw : w.heap.size ≤ wk.heap.size) => (show Calls Try.prog 179 #[.pointer (some ⟨g', 0, none⟩)] wk fun r w' => r = .returned (.agg (W4 V)) ∧ SR w' g' q E R ∧ Tr (fun b => b = g') wk w' from by
    have h := ramt_at hk (fun b hb => by have := (hqq b hb).1; omega)
    unfold GotR at h
    rw [hV, hE] at h
    exact h))
  have q31 : ∀ wx, (Op.equalIn 10000 31 (.agg (W4 V)) (.agg (W4 V))).run Try.prog wx = .ok true wx := fun wx => by rw [hV] at hVM; rw [eqU hVM hVM, decide_eq_true rfl]
  clear hVM
  rw [hE]
  have hA : Below w.heap.size w (w.alloc (.cells #[.int .i64 1, .int .i64 m] 68)) := (Below.refl _ _).alloc (Nat.le_refl _) _
  have H := Lib.hid (show _ ∧ _ ∧ _ ∧ _ ∧ _ ∧ _ from ⟨hs.below hA, hr.below hA, hA, hqq, hgg, (show hi ≤ (w.alloc (.cells #[.int .i64 1, .int .i64 m] 68)).heap.size by have := hA.size; omega)⟩)
  clear hs hr hA hqq hgg hE hV hg' hg1 hg2 hgr hgl hhi
  go_enter Try.func65, Try.ntmps65
  go_wp2_with fail
  refine (k1.out _ H.out.1 H.out.2.2.2.2.2).mono ?_
  rintro r w1 ⟨rfl, hs, ht⟩
  have hr := H.out.2.1.keep ht (fun hc => H.out.2.2.2.2.1 (Eq.symm hc)) (fun b hb hc => (H.out.2.2.2.1 b hb).2.2 hc)
  have hl := H.out.2.2.1.size
  have hts := ht.size
  have k3 := Lib.hid (k2.out _ hr (Nat.le_trans hl hts))
  have ht2 : Tr (fun b => b = g ∨ b = g') w w1 := (Tr.of H.out.2.2.1 : Tr (fun b => b = g ∨ b = g') w _).trans (ht.mono fun b _ hb => .inl hb)
  have H2 := Lib.hid (show _ ∧ _ from ⟨hs, ht2⟩)
  have hlo := Lib.hid (show _ ∧ _ from ⟨HG.out, hs.1⟩)
  clear hs hr ht ht2 hl hts k1 k2 H
  go_wp2_with fail
  refine k3.out.mono ?_
  rintro r w2 ⟨rfl, hr, ht⟩
  have hs := H2.out.1.keep ht (fun b h1 h2 hc => HG.out ⟨by omega, by omega⟩)
  have H3 := Lib.hid (show Asked w lo hi g g' q (E, R) (.returned (.bool true)) w2 from ⟨rfl, ⟨hs, hr⟩, H2.out.2.trans (ht.mono fun b _ hb => .inr hb)⟩)
  clear hs hr ht H2 k3 hlo
  go_wp2_with fail
  go_ret
  exact H3.out
set_option maxRecDepth 100000 in
set_option maxHeartbeats 16000000 in
theorem ask_2 {w : World} {lo hi g g' : Nat} {q : Option Nat} {e : Int} {xs : List Int} (m : Int)  (hs : SA w lo hi g e xs) (hr : SR w g' q e xs) (hhi : hi ≤ w.heap.size) (hg' : ¬ (lo ≤ g' ∧ g' < hi)) (hqq : ∀ b, q = some b → b < w.heap.size ∧ ¬ (lo ≤ b ∧ b < hi) ∧ b ≠ g) :
    Calls Try.prog 65 #[.pointer (some ⟨g, 0, none⟩), .pointer (some ⟨g', 0, none⟩), .agg #[.int .i64 2, .int .i64 m]] w (Asked w lo hi g g' q (gH (e, xs)).2) := by
  have hgl := hs.lt
  have hgr := hr.lt
  have hg1 := hs.1
  have hg2 := hs.2.1
  have hgg : g ≠ g' := fun e => by omega
  have HG := Lib.hid hg'
  obtain ⟨V, hV⟩ : ∃ V, (gH (e, xs)).1 = V := ⟨_, rfl⟩
  obtain ⟨⟨E, R⟩, hE⟩ : ∃ s : St, (gH (e, xs)).2 = s := ⟨_, rfl⟩
  have k1 := Lib.hid (fun wk (hk : SA wk lo hi g e xs) (hw : hi ≤ wk.heap.size) => (show Calls Try.prog 68 #[.pointer (some ⟨g, 0, none⟩)] wk fun r w' => r = .returned (.agg (bv V).toArray) ∧ SA w' lo hi g E R ∧ Tr (fun b => b = g) wk w' from by
    have h := shash_at hk hw
    unfold Got at h
    rw [hV, hE] at h
    exact h))
  have k2 := Lib.hid (fun wk (hk : SR wk g' q e xs) (hw : w.heap.size ≤ wk.heap.size) => (show Calls Try.prog 180 #[.pointer (some ⟨g', 0, none⟩)] wk fun r w' => r = .returned (.agg (bv V).toArray) ∧ SR w' g' q E R ∧ Tr (fun b => b = g') wk w' from by
    have h := rhash_at hk (fun b hb => by have := (hqq b hb).1; omega)
    unfold GotR at h
    rw [hV, hE] at h
    exact h))
  have q35 : ∀ wx, (Op.equalIn 10000 35 (.agg (bv V).toArray) (.agg (bv V).toArray)).run Try.prog wx = .ok true wx := fun wx => eq35_self (by rw [← hV]; exact gH_len _) wx
  obtain ⟨Y, hY⟩ : ∃ Y, (bv V).toArray = Y := ⟨_, rfl⟩
  rw [hY] at k1 k2 q35
  clear hY
  rw [hE]
  have hA : Below w.heap.size w (w.alloc (.cells #[.int .i64 2, .int .i64 m] 68)) := (Below.refl _ _).alloc (Nat.le_refl _) _
  have H := Lib.hid (show _ ∧ _ ∧ _ ∧ _ ∧ _ ∧ _ from ⟨hs.below hA, hr.below hA, hA, hqq, hgg, (show hi ≤ (w.alloc (.cells #[.int .i64 2, .int .i64 m] 68)).heap.size by have := hA.size; omega)⟩)
  clear hs hr hA hqq hgg hE hV hg' hg1 hg2 hgr hgl hhi
  go_enter Try.func65, Try.ntmps65
  go_wp2_with fail
  refine (k1.out _ H.out.1 H.out.2.2.2.2.2).mono ?_
  rintro r w1 ⟨rfl, hs, ht⟩
  have hr := H.out.2.1.keep ht (fun hc => H.out.2.2.2.2.1 (Eq.symm hc)) (fun b hb hc => (H.out.2.2.2.1 b hb).2.2 hc)
  have hl := H.out.2.2.1.size
  have hts := ht.size
  have k3 := Lib.hid (k2.out _ hr (Nat.le_trans hl hts))
  have ht2 : Tr (fun b => b = g ∨ b = g') w w1 := (Tr.of H.out.2.2.1 : Tr (fun b => b = g ∨ b = g') w _).trans (ht.mono fun b _ hb => .inl hb)
  have H2 := Lib.hid (show _ ∧ _ from ⟨hs, ht2⟩)
  have hlo := Lib.hid (show _ ∧ _ from ⟨HG.out, hs.1⟩)
  clear hs hr ht ht2 hl hts k1 k2 H
  go_wp2_with fail
  refine k3.out.mono ?_
  rintro r w2 ⟨rfl, hr, ht⟩
  have hs := H2.out.1.keep ht (fun b h1 h2 hc => HG.out ⟨by omega, by omega⟩)
  have H3 := Lib.hid (show Asked w lo hi g g' q (E, R) (.returned (.bool true)) w2 from ⟨rfl, ⟨hs, hr⟩, H2.out.2.trans (ht.mono fun b _ hb => .inr hb)⟩)
  clear hs hr ht H2 k3 hlo
  go_wp2_with fail
  go_ret
  exact H3.out
set_option maxRecDepth 100000 in
set_option maxHeartbeats 16000000 in
theorem ask_4 {w : World} {lo hi g g' : Nat} {q : Option Nat} {e : Int} {xs : List Int} (k m : Int) (h0 : (k == 0) = false) (h1 : (k == 1) = false) (h2 : (k == 2) = false) (h3 : (k == 3) = false) (hs : SA w lo hi g e xs) (hr : SR w g' q e xs) (hhi : hi ≤ w.heap.size) (hg' : ¬ (lo ≤ g' ∧ g' < hi)) (hqq : ∀ b, q = some b → b < w.heap.size ∧ ¬ (lo ≤ b ∧ b < hi) ∧ b ≠ g) :
    Calls Try.prog 65 #[.pointer (some ⟨g, 0, none⟩), .pointer (some ⟨g', 0, none⟩), .agg #[.int .i64 k, .int .i64 m]] w (Asked w lo hi g g' q (tkE 1 e xs, tkR 1 e xs)) := by
  have hgl := hs.lt
  have hgr := hr.lt
  have hg1 := hs.1
  have hg2 := hs.2.1
  have hgg : g ≠ g' := fun e => by omega
  have HG := Lib.hid hg'
  obtain ⟨V, hV⟩ : ∃ V, byO e xs = V := ⟨_, rfl⟩
  obtain ⟨⟨E, R⟩, hE⟩ : ∃ s : St, (tkE 1 e xs, tkR 1 e xs) = s := ⟨_, rfl⟩
  have k1 := Lib.hid (fun wk (hk : SA wk lo hi g e xs) (hw : hi ≤ wk.heap.size) => (show Calls Try.prog 69 #[.pointer (some ⟨g, 0, none⟩)] wk fun r w' => r = .returned (.int .u8 V) ∧ SA w' lo hi g E R ∧ Tr (fun b => b = g) wk w' from by
    have h := byte_at hk
    rw [hV, show tkE 1 e xs = E from congrArg Prod.fst hE, show tkR 1 e xs = R from congrArg Prod.snd hE] at h
    exact h))
  have k2 := Lib.hid (fun wk (hk : SR wk g' q e xs) (hw : w.heap.size ≤ wk.heap.size) => (show Calls Try.prog 182 #[.pointer (some ⟨g', 0, none⟩)] wk fun r w' => r = .returned (.int .u8 V) ∧ SR w' g' q E R ∧ Tr (fun b => b = g') wk w' from by
    have h := rbyte_at hk
    unfold GotR at h
    rw [hV, show tkE 1 e xs = E from congrArg Prod.fst hE, show tkR 1 e xs = R from congrArg Prod.snd hE] at h
    exact h))
  
  rw [hE]
  have hA : Below w.heap.size w (w.alloc (.cells #[.int .i64 k, .int .i64 m] 68)) := (Below.refl _ _).alloc (Nat.le_refl _) _
  have H := Lib.hid (show _ ∧ _ ∧ _ ∧ _ ∧ _ ∧ _ from ⟨hs.below hA, hr.below hA, hA, hqq, hgg, (show hi ≤ (w.alloc (.cells #[.int .i64 k, .int .i64 m] 68)).heap.size by have := hA.size; omega)⟩)
  clear hs hr hA hqq hgg hE hV hg' hg1 hg2 hgr hgl hhi
  go_enter Try.func65, Try.ntmps65
  go_wp2_with fail
  refine (k1.out _ H.out.1 H.out.2.2.2.2.2).mono ?_
  rintro r w1 ⟨rfl, hs, ht⟩
  have hr := H.out.2.1.keep ht (fun hc => H.out.2.2.2.2.1 (Eq.symm hc)) (fun b hb hc => (H.out.2.2.2.1 b hb).2.2 hc)
  have hl := H.out.2.2.1.size
  have hts := ht.size
  have k3 := Lib.hid (k2.out _ hr (Nat.le_trans hl hts))
  have ht2 : Tr (fun b => b = g ∨ b = g') w w1 := (Tr.of H.out.2.2.1 : Tr (fun b => b = g ∨ b = g') w _).trans (ht.mono fun b _ hb => .inl hb)
  have H2 := Lib.hid (show _ ∧ _ from ⟨hs, ht2⟩)
  have hlo := Lib.hid (show _ ∧ _ from ⟨HG.out, hs.1⟩)
  clear hs hr ht ht2 hl hts k1 k2 H
  go_wp2_with fail
  refine k3.out.mono ?_
  rintro r w2 ⟨rfl, hr, ht⟩
  have hs := H2.out.1.keep ht (fun b h1 h2 hc => HG.out ⟨by omega, by omega⟩)
  have H3 := Lib.hid (show Asked w lo hi g g' q (E, R) (.returned (.bool true)) w2 from ⟨rfl, ⟨hs, hr⟩, H2.out.2.trans (ht.mono fun b _ hb => .inr hb)⟩)
  clear hs hr ht H2 k3 hlo
  go_wp2_with fail
  go_ret
  exact H3.out
theorem ask_at {w : World} {lo hi g g' : Nat} {q : Option Nat} {e : Int} {xs : List Int} (k m : Int) (hs : SA w lo hi g e xs) (hr : SR w g' q e xs) (hhi : hi ≤ w.heap.size) (hg' : ¬ (lo ≤ g' ∧ g' < hi)) (hqq : ∀ b, q = some b → b < w.heap.size ∧ ¬ (lo ≤ b ∧ b < hi) ∧ b ≠ g) :
    Calls Try.prog 65 #[.pointer (some ⟨g, 0, none⟩), .pointer (some ⟨g', 0, none⟩), .agg #[.int .i64 k, .int .i64 m]] w (Asked w lo hi g g' q (askS k m (e, xs))) := by
  unfold askS
  by_cases h0 : k = 0
  · subst h0; rw [if_pos rfl]; exact ask_0 m hs hr hhi hg' hqq
  by_cases h1 : k = 1
  · subst h1; rw [if_neg (by decide), if_pos rfl]; exact ask_1 m hs hr hhi hg' hqq
  by_cases h2 : k = 2
  · subst h2; rw [if_neg (by decide), if_neg (by decide), if_pos rfl]; exact ask_2 m hs hr hhi hg' hqq
  by_cases h3 : k = 3
  · subst h3; rw [if_neg (by decide), if_neg (by decide), if_neg (by decide), if_pos rfl]; exact ask_3 m hs hr hhi hg' hqq
  · rw [if_neg h0, if_neg h1, if_neg h2, if_neg h3]; exact ask_4 k m (by rw [beq_eq_false_iff_ne]; exact h0) (by rw [beq_eq_false_iff_ne]; exact h1) (by rw [beq_eq_false_iff_ne]; exact h2) (by rw [beq_eq_false_iff_ne]; exact h3) hs hr hhi hg' hqq
end Go.Proofs.Ytpdenhmkpiafiaa
