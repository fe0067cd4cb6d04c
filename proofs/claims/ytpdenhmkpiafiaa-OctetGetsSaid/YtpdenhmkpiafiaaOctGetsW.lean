/-
  tallagelaw04.OctetGets, THE WALK.
-/
import Derived.Test.YtpdenhmkpiafiaaOctAsk
import Derived.Test.YtpdenhmkpiafiaaOctLives
import Derived.Test.YtpdenhmkpiafiaaFrameR
namespace Go.Proofs.Ytpdenhmkpiafiaa
open Go Go.RowKit K6

namespace K6
/-- it yields a value of a set, changes the old blocks Xo, and leaves a fact on the old blocks Lo -/
def sX (i : Nat) (D use kill : List Nat) (Xo Lo : Nat → Prop) (p : Value → Prop) (f : Value → World → Prop) : Sp := (⟨i, D, use, kill, [], [], false, true, true⟩, ⟨fun _ x => p x.v, fun g w => f (g i).v w, Xo, Lo⟩)
theorem ok_X {w1 : World} {Z : Nat → Prop} {i : Nat} {D use kill : List Nat} {Xo Lo : Nat → Prop} {p : Value → Prop} {f : Value → World → Prop} (hp : ∃ v, p v) (hl : ∀ v w w', f v w → Tr (fun b => ¬ Lo b) w w' → f v w') (hX : ∀ b, Xo b → Z b ∧ b < w1.heap.size) (hLo : ∀ b, Lo b → b < w1.heap.size) : OpOk w1 Z (sX i D use kill Xo Lo p f) where
  some_ := fun _ => by obtain ⟨v, hv⟩ := hp; exact ⟨⟨v, w1.heap.size, w1.heap.size⟩, Nat.le_refl _, Nat.le_refl _, hv⟩
  depV := fun _ _ _ _ h => h
  depF := fun g g' hg w h => by show f (g' i).v w; rw [hg i (.inl rfl)]; exact h
  loc := fun g w w' h hT => hl _ w w' h (hT.mono fun b _ hb hx => hb (.inr (.inl hx)))
  xo := fun c hc => ⟨rfl, hX c hc⟩
  lo := fun c hc => ⟨rfl, hLo c hc⟩
theorem left_X {l : List Sp} {i : Nat} {D use kill : List Nat} {Xo Lo : Nat → Prop} {p : Value → Prop} {f : Value → World → Prop} {s : Sh} (hl : look6 l s.i = (sX i D use kill Xo Lo p f).2) (hs : s = (sX i D use kill Xo Lo p f).1) {g : Ghost} {w w' : World} {v : Value}
    (hp : p v) (ht : Tr Xo w w') (hf : f v w') : Left (look6 l) s g w v w' := by
  unfold Left
  rw [hl]
  subst hs
  refine ⟨hp, ht.mono fun b _ hb => ?_, ?_⟩
  · show XX (look6 l) _ g b
    unfold XX
    rw [hl]
    exact .inl hb
  · show f (gput g i _ i).v w'
    rw [gput_self]
    exact hf
end K6
/-- a load of cells that nobody changes -/
theorem kLoadR {P : Program} {w1 : World} {o : Oper} {a : Act} {X : Nat → Prop} {ty : TypeId} {x : Operand} {b off n : Nat} {cs : List Value} (ho : o.op = .load ty x) (hx : a.eval x = .pointer (some ⟨b, off, none⟩)) (T : AggT P ty n) (hr : ∀ j v, cs[j]? = some v → w1.cell? ⟨b, off + j, none⟩ = some v) (hs : cs.length = n) (hb : b < w1.heap.size) (hX : ¬ X b) : kOut P w1 X o a (.agg cs.toArray) := by
  intro w hw
  obtain ⟨⟨d, hu, hd⟩, hi⟩ := T
  have hc : w.rangeAt b off cs := fun j v hv => (World.cell?_of_block (hw.block b hb hX)).trans (hr j v hv)
  have h := run_loadAt_mid (P := P) w b off ty cs d hc hu (by cases d <;> first | rfl | exact Bool.noConfusion hd) (by rw [hi, ← hs])
  unfold execOp
  simp only [ho, hx, Sem.run_bind, Sem.run_pure, Result.andThen_ok, h]
  exact ⟨by simp, rfl⟩
theorem aggT68 : AggT Try.prog 68 2 := ⟨⟨_, Try.underlying68, rfl⟩, by kernel_rfl⟩
theorem end_F {w : World} {lo hi g : Nat} {e : Int} {xs : List Int} {F : Int} (h : SA w lo hi g e xs) (hF : edE e xs = F) : Calls Try.prog 61 #[.pointer (some ⟨g, 0, none⟩)] w fun r w' => r = .returned (.int .i64 F) ∧ SA w' lo hi g F [] ∧ Tr (fun b => b = g) w w' := by
  subst hF
  exact end_at h
theorem rend_F {w : World} {g : Nat} {q : Option Nat} {e : Int} {xs : List Int} {F : Int} (h : SR w g q e xs) (hF : edE e xs = F) : Calls Try.prog 67 #[.pointer (some ⟨g, 0, none⟩)] w fun r w' => r = .returned (.int .i64 F) ∧ SR w' g q F [] ∧ Tr (fun b => b = g) w w' := by
  subst hF
  exact rend_at h
theorem tr2_below {B g g' : Nat} {a b : World} (h : Tr (fun x => x = g ∨ x = g') a b) (hB : B ≤ g) (hB' : B ≤ g') (hs : B ≤ a.heap.size) : Below B a b := h.below_of hs (fun c hc => by rcases hc with rfl | rfl; exact hB; exact hB')
set_option maxRecDepth 100000 in
set_option maxHeartbeats 32000000 in
theorem gets_walk (q : Option Addr) (c : Nat) (xs : List Int) (hx : By xs) (q2 : Option Addr) (n2 c2 : Nat) (f : Nat → Int × Int) (qb : Option Nat) (w : World) (hb0 : Bs w (.slice q xs.length c) xs) (hs0 : SRv w qb (.slice q xs.length c) xs) (hqb : ∀ b, qb = some b → b < w.heap.size) (ha : AsV w q2 n2 f) :
    Calls Try.prog 9 #[.slice q xs.length c, .slice q2 n2 c2] w (Ret w (.bool true)) := by
  have lv := Lib.hid lives4U
  obtain ⟨n0, hn0⟩ : ∃ n, xs.length = n := ⟨_, rfl⟩
  rw [hn0] at hb0 hs0 ⊢
  by_cases h5 : 500 < n0
  · have hn1 : (500 : Int) < (n0 : Int) := by omega
    clear hb0 h5 hn0 hs0 ha hqb hx
    go_enter Try.func9, Try.ntmps9
    go_wp2_with fail
    refine (lv.out _).mono ?_
    rintro e w1 ⟨rfl, hb⟩
    have H := Lib.hid hb
    clear hb
    go_wp2_with fail
    go_ret
    exact ⟨rfl, H.out⟩
  by_cases h6 : 60 < n2
  · have hn1 : (n0 : Int) ≤ 500 := by omega
    have hn2 : (60 : Int) < (n2 : Int) := by omega
    clear hb0 h5 h6 hn0 hs0 ha hqb hx
    go_enter Try.func9, Try.ntmps9
    go_wp2_with fail
    refine (lv.out _).mono ?_
    rintro e w1 ⟨rfl, hb⟩
    have H := Lib.hid hb
    clear hb
    go_wp2_with fail
    go_ret
    exact ⟨rfl, H.out⟩
  have hn1 : (n0 : Int) ≤ 500 := by omega
  have hn2 : (n2 : Int) ≤ 60 := by omega
  have rd := Lib.hid ((read_any _ xs w hb0 (by omega)).mono fun r w' h => h.sa hx (by omega))
  have H0 := Lib.hid (show _ ∧ _ ∧ _ ∧ _ from ⟨hs0, hqb, ha, hx⟩)
  have hL : xs.length ≤ 100000000 := by omega
  clear hb0 hs0 hqb ha hx hn0
  go_enter Try.func9, Try.ntmps9
  go_wp2_with fail
  refine rd.out.mono ?_
  rintro r w1 ⟨g, rfl, hs, hl⟩
  obtain ⟨lo, hlo⟩ : ∃ lo, w.heap.size = lo := ⟨_, rfl⟩
  obtain ⟨hi, hhi⟩ : ∃ hi, w1.heap.size = hi := ⟨_, rfl⟩
  have HS := Lib.hid (show _ ∧ _ from ⟨hs, hl⟩)
  clear hs hl rd
  go_wp2_with fail
  obtain ⟨hs, hl⟩ := HS.out
  have hA : Below w1.heap.size w1 (w1.alloc (.cells #[.slice q n0 c, .int .i64 0] 66)) := (Below.refl _ _).alloc (Nat.le_refl _) _
  have hr : SR (w1.alloc (.cells #[.slice q n0 c, .int .i64 0] 66)) w1.heap.size qb 0 xs := ⟨fun h => absurd rfl h, H0.out.2.2.2, hL, (fun e => by have := H0.out.2.1 _ e; have := hl.size; omega), _, Row.new_at rfl, by
    refine (H0.out.1.keep (X := None_) (Tr.of (hl.trans (hA.mono hl.size))) fun _ _ => id)⟩
  have hg1 := hs.1
  have hg2 := hs.2.1
  have inv0 := Lib.hid (show SA (w1.alloc (.cells #[.slice q n0 c, .int .i64 0] 66)) lo hi g 0 xs ∧ SR (w1.alloc (.cells #[.slice q n0 c, .int .i64 0] 66)) hi qb 0 xs ∧ Below lo w (w1.alloc (.cells #[.slice q n0 c, .int .i64 0] 66)) from by
    rw [← hlo, ← hhi]
    exact ⟨hs.below hA, hr, hl.trans (hA.mono hl.size)⟩)
  rw [hhi] at hg2
  rw [hlo] at hg1
  have hlh : lo ≤ hi := by omega
  have hszi := (show hi < (w1.alloc (.cells #[.slice q n0 c, .int .i64 0] 66)).heap.size by simp; omega)
  have hi1 : w1.heap.size = hi := hhi
  clear hs hl hA hr HS
  go_loopg [8, 25] n2 (fun gg s8 s25 wr => ∃ (i : Nat) (s : St), i + gg = n2 ∧ s25 = .int .i64 (i : Int) ∧ hi < wr.heap.size ∧ Hid (SA wr lo hi g s.1 s.2 ∧ SR wr hi qb s.1 s.2 ∧ Below lo w wr))
  case atStart => exact ⟨0, (0, xs), by omega, rfl, hszi, inv0⟩
  case round =>
    obtain ⟨i, ⟨e0, ys⟩, hig, rfl, hsz, hinv⟩ := hrel
    try rw [hi1]
    by_cases him : i < n2
    · have hlt : (i : Int) < (n2 : Int) := by omega
      obtain ⟨gb, o, rfl, hgb, hcell⟩ := H0.out.2.2.1 (by omega)
      obtain ⟨hc0, hc1⟩ := hcell i him
      obtain ⟨⟨k, m⟩, hkm⟩ : ∃ km, f i = km := ⟨_, rfl⟩
      rw [hkm] at hc0 hc1
      obtain ⟨hs, hr, hl⟩ := hinv.out
      have hgbl : gb < lo := by omega
      replace hc0 := (World.cell?_of_block (hl.block gb hgbl)).trans hc0
      replace hc1 := (World.cell?_of_block (hl.block gb hgbl)).trans hc1
      have hgb2 : gb < wr.heap.size := by omega
      have hcs : ∀ j v, [Value.int .i64 k, .int .i64 m][j]? = some v → wr.cell? ⟨gb, o + i * 2 + j, none⟩ = some v := fun j v hj => by
        match j, hj with
        | 0, hj => cases hj; exact hc0
        | 1, hj => cases hj; exact hc1
      obtain ⟨⟨E, R⟩, hE⟩ : ∃ s, askS k m (e0, ys) = s := ⟨_, rfl⟩
      have hqq : ∀ b, qb = some b → b < wr.heap.size ∧ ¬ (lo ≤ b ∧ b < hi) ∧ b ≠ g := fun b hb => by have := H0.out.2.1 b hb; exact ⟨by omega, by omega, by omega⟩
      clear hcell hc0 hc1 hkm hinv
      go_upto_region 6 with (fail)
      obtain ⟨g', rfl⟩ : ∃ x : Nat, x = hi := ⟨_, rfl⟩
      let L : List Sp := [sA 2 68 [3] #[.int .i64 0, .int .i64 0], sT 3 2 68 [1] (fun g => aggOf g 1)]
      refine wp_region_six0 (shs L) (look6 L) (None_) (by kernel_rfl) (by kernel_rfl) (mk_St L [] [] (by kernel_rfl) (by kernel_rfl) ⟨ok_A, ok_T aggOf_congr, trivial⟩ (by simp)) ?_
      intro QQ hQ
      -- 0: indexAddr<63> t23[t25]
      refine stepK rfl (by kernel_rfl) (fun K hK => ?_); go_simp
      apply Exists.intro; apply And.intro; (focus (intro wk hk; go_simp; exact ⟨rfl, rfl⟩)); refine hK _ _ ?_; clear hK K
      -- 1: load<68> *t27
      refine stepK rfl (by kernel_rfl) (fun K hK => ?_); go_simp
      apply Exists.intro; apply And.intro; (focus exact kLoadR rfl rfl aggT68 hcs rfl hgb2 id); refine hK _ _ ?_; clear hK K
      -- 2: alloc<68>
      refine stepS _ rfl (by kernel_rfl) (fun K hK => ?_); go_simp
      refine ⟨?_, ?_⟩
      · intro wk hk hg hu; go_simp; exact left_A rfl rfl
      rintro ⟨v2, lo2, hi2⟩ hlo2 hhi2 ⟨e2, f2⟩
      replace e2 : v2 = .pointer (some ⟨lo2, 0, none⟩) := e2; replace f2 : hi2 = lo2 + 1 := f2; replace hlo2 : _ ≤ lo2 := hlo2; subst e2; subst f2
      refine hK _ _ ?_; clear hK K
      -- 3: store<68> *t8 = t28
      refine stepS _ rfl (by kernel_rfl) (fun K hK => ?_); go_simp
      refine ⟨?_, ?_⟩
      · exact sStoreT rfl rfl rfl rfl rfl rfl rfl (by kernel_rfl) rfl (by kernel_rfl) (by decide) aggOf_congr
      rintro ⟨v3, lo3, hi3⟩ - - (rfl : v3 = undef)
      refine hK _ _ ?_; clear hK K
      refine stepN ?_
      refine hQ _ _ ?_
      intro w2 hT hG hF
      have hb2 := hT.below
      have r8 : Row w2 lo2 68 #[.int .i64 k, .int .i64 m] := (hF 3 _ rfl rfl (by decide)).2
      replace hs := hs.below hb2
      replace hr := hr.below hb2
      replace hl := hl.trans (hb2.mono (by omega))
      have hsz2 := hb2.size
      replace hqq := Lib.hid (show ∀ b, qb = some b → b < w2.heap.size ∧ ¬ (lo ≤ b ∧ b < g') ∧ b ≠ g from fun b hb => by have := hqq b hb; exact ⟨by omega, this.2⟩)
      have hr8 : g' < lo2 := by omega
      clear hT hG hF hQ QQ L hb2 hhi2 hcs hgb2 hgbl hgb
      have hszg : g' < w2.heap.size := hr.lt
      have kk := Lib.hid (fun wk (h1 : SA wk lo g' g e0 ys) (h2 : SR wk g' qb e0 ys) (h3 : w2.heap.size ≤ wk.heap.size) => ask_at k m h1 h2 (by omega) (by omega) (fun b hb => ⟨by have := (hqq.out b hb).1; omega, (hqq.out b hb).2⟩))
      rw [hE] at kk
      go_upto_region 7 with (fail)
      let L : List Sp := [sX 3 [] [] [] (fun b => b = g ∨ b = g') (fun b => (lo ≤ b ∧ b < g') ∨ (b = g' ∨ qb = some b)) (fun u => u = .bool true) (fun _ w => SA w lo g' g E R ∧ SR w g' qb E R), sV 7 [3] [3] (fun u => u = .int .i64 E), sV 11 [3] [3] (fun u => u = .int .i64 E), sV 16 [3] [3] (fun u => u = .int .i64 ((R.length : Nat) : Int)), sV 20 [3] [3] (fun u => ∃ a c, u = .slice a R.length c)]
      refine wp_region_six (shs L) (look6 L) (fun c => c = g ∨ c = g') (by kernel_rfl) (by kernel_rfl) (mk_St L [3] [3] (by kernel_rfl) (by kernel_rfl) ⟨ok_X ⟨_, rfl⟩ (fun _ w w' h hT => ⟨SA.loc w w' h.1 (hT.mono fun b _ hb hx => hb (.inl hx)), SR.loc w w' h.2 (hT.mono fun b _ hb hx => hb (.inr hx))⟩) (fun b hb => ⟨hb, by rcases hb with rfl | rfl; exact hs.lt; exact hszg⟩) (fun b hb => by rcases hb with hb | hb | hb; exact Nat.lt_of_lt_of_le hb.2 (Nat.le_of_lt hszg); exact hb ▸ hszg; exact (hqq.out b hb).1), ok_V ⟨_, rfl⟩, ok_V ⟨_, rfl⟩, ok_V ⟨_, rfl⟩, ok_V ⟨_, none, 0, rfl⟩, trivial⟩ (by simp)) ?_
      intro QQ hQ
      -- 0: t5
      refine stepK rfl (by kernel_rfl) (fun K hK => ?_); go_simp
      apply Exists.intro; apply And.intro; (focus (intro wk hk; go_simp; exact ⟨rfl, rfl⟩)); refine hK _ _ ?_; clear hK K
      -- 1: t6
      refine stepK rfl (by kernel_rfl) (fun K hK => ?_); go_simp
      apply Exists.intro; apply And.intro; (focus (intro wk hk; go_simp; exact ⟨rfl, rfl⟩)); refine hK _ _ ?_; clear hK K
      -- 2: load<68> *t8
      refine stepK rfl (by kernel_rfl) (fun K hK => ?_); go_simp
      apply Exists.intro; apply And.intro; (focus exact kLoad rfl rfl aggT68 r8 rfl (by first | exact id | (intro hc; rcases hc with hc | hc <;> omega))); refine hK _ _ ?_; clear hK K
      -- 3: call F65(t29, t30, t31)
      refine stepS _ rfl (by kernel_rfl) (fun K hK => ?_); go_simp
      refine ⟨?_, ?_⟩
      · intro wk hk hg hu; go_simp; refine upon_enter ((kk.out _ (hs.below hk.undrew.below) (hr.below hk.undrew.below) hk.undrew.below.size).mono ?_); rintro e w' ⟨rfl, hf, ht⟩; exact ⟨_, rfl, left_X (p := fun u => u = .bool true) (f := fun _ w => SA w lo g' g E R ∧ SR w g' qb E R) rfl rfl rfl ht hf⟩
      rintro ⟨v3, lo3, hi3⟩ - - (rfl : v3 = _)
      refine hK _ _ ?_; clear hK K
      -- 4: not<4> t32
      refine stepKz rfl (fun K hK => ?_); go_simp
      apply Exists.intro; apply And.intro; (focus (intro wk hk; go_simp; exact ⟨rfl, rfl⟩)); refine hK _ _ ?_; clear hK K
      -- 5: t33
      refine stepKz rfl (fun K hK => ?_); go_simp
      apply Exists.intro; apply And.intro; (focus (intro wk hk; go_simp; exact ⟨rfl, rfl⟩)); refine hK _ _ ?_; clear hK K
      -- 6: t5
      refine stepKz rfl (fun K hK => ?_); go_simp
      first | (refine hK _ _ ?_; clear hK K) | (apply Exists.intro; apply And.intro; (focus (intro wk hk; go_simp; exact ⟨rfl, rfl⟩)); refine hK _ _ ?_; clear hK K)
      -- 7: call F66(t35)
      refine stepSz _ rfl (fun K hK => ?_); go_simp
      refine ⟨?_, ?_⟩
      · intro wk hk hg hu; have u3 := hu 3 (show 3 ∈ [3] by decide); have k3 : SA wk lo g' g E R ∧ SR wk g' qb E R := u3; go_simp; refine upon_enter ((err_at k3.1).mono ?_); rintro e w' ⟨rfl, rfl⟩; exact ⟨_, rfl, left_V (p := fun u => u = .int .i64 E) rfl (Below.refl _ _) rfl⟩
      rintro ⟨v7, lo7, hi7⟩ - - (rfl : v7 = _)
      refine hK _ _ ?_; clear hK K
      -- 8: t6
      refine stepKz rfl (fun K hK => ?_); go_simp
      first | (refine hK _ _ ?_; clear hK K) | (apply Exists.intro; apply And.intro; (focus (intro wk hk; go_simp; exact ⟨rfl, rfl⟩)); refine hK _ _ ?_; clear hK K)
      -- 9: nilCheck t37
      refine stepKz rfl (fun K hK => ?_); go_simp
      first | (refine hK _ _ ?_; clear hK K) | (apply Exists.intro; apply And.intro; (focus (intro wk hk; go_simp; exact ⟨rfl, rfl⟩)); refine hK _ _ ?_; clear hK K)
      -- 10: fieldAddr<66> t38.1
      refine stepKz rfl (fun K hK => ?_); go_simp
      first | (refine hK _ _ ?_; clear hK K) | (apply Exists.intro; apply And.intro; (focus (intro wk hk; go_simp; exact ⟨rfl, rfl⟩)); refine hK _ _ ?_; clear hK K)
      -- 11: load<3> *t39
      refine stepSz _ rfl (fun K hK => ?_); go_simp
      refine ⟨?_, ?_⟩
      · intro wk hk hg hu; have u3 := hu 3 (show 3 ∈ [3] by decide); have k3 : SA wk lo g' g E R ∧ SR wk g' qb E R := u3; have cc := k3.2.e1; go_simp; exact left_V (p := fun u => u = .int .i64 E) rfl (Below.refl _ _) rfl
      rintro ⟨v11, lo11, hi11⟩ - - (rfl : v11 = _)
      refine hK _ _ ?_; clear hK K
      -- 12: neq<3> t36, t40
      refine stepKz rfl (fun K hK => ?_); go_simp
      first | (refine hK _ _ ?_; clear hK K) | (apply Exists.intro; apply And.intro; (focus (intro wk hk; go_simp; exact ⟨rfl, rfl⟩)); refine hK _ _ ?_; clear hK K)
      -- 13: pick t34 ? true : t41
      refine stepKz rfl (fun K hK => ?_); go_simp
      apply Exists.intro; apply And.intro; (focus (intro wk hk; go_simp; exact ⟨rfl, rfl⟩)); refine hK _ _ ?_; clear hK K
      -- 14: t42
      refine stepKz rfl (fun K hK => ?_); go_simp
      apply Exists.intro; apply And.intro; (focus (intro wk hk; go_simp; exact ⟨rfl, rfl⟩)); refine hK _ _ ?_; clear hK K
      -- 15: t5
      refine stepKz rfl (fun K hK => ?_); go_simp
      first | (refine hK _ _ ?_; clear hK K) | (apply Exists.intro; apply And.intro; (focus (intro wk hk; go_simp; exact ⟨rfl, rfl⟩)); refine hK _ _ ?_; clear hK K)
      -- 16: call F64(t44)
      refine stepSz _ rfl (fun K hK => ?_); go_simp
      refine ⟨?_, ?_⟩
      · intro wk hk hg hu; have u3 := hu 3 (show 3 ∈ [3] by decide); have k3 : SA wk lo g' g E R ∧ SR wk g' qb E R := u3; go_simp; refine upon_enter ((left_at k3.1).mono ?_); rintro e w' ⟨rfl, rfl⟩; exact ⟨_, rfl, left_V (p := fun u => u = .int .i64 ((R.length : Nat) : Int)) rfl (Below.refl _ _) rfl⟩
      rintro ⟨v16, lo16, hi16⟩ - - (rfl : v16 = _)
      refine hK _ _ ?_; clear hK K
      -- 17: t6
      refine stepKz rfl (fun K hK => ?_); go_simp
      first | (refine hK _ _ ?_; clear hK K) | (apply Exists.intro; apply And.intro; (focus (intro wk hk; go_simp; exact ⟨rfl, rfl⟩)); refine hK _ _ ?_; clear hK K)
      -- 18: nilCheck t46
      refine stepKz rfl (fun K hK => ?_); go_simp
      first | (refine hK _ _ ?_; clear hK K) | (apply Exists.intro; apply And.intro; (focus (intro wk hk; go_simp; exact ⟨rfl, rfl⟩)); refine hK _ _ ?_; clear hK K)
      -- 19: fieldAddr<66> t47.0
      refine stepKz rfl (fun K hK => ?_); go_simp
      first | (refine hK _ _ ?_; clear hK K) | (apply Exists.intro; apply And.intro; (focus (intro wk hk; go_simp; exact ⟨rfl, rfl⟩)); refine hK _ _ ?_; clear hK K)
      -- 20: load<33> *t48
      refine stepSz _ rfl (fun K hK => ?_); go_simp
      refine ⟨?_, ?_⟩
      · intro wk hk hg hu; have u3 := hu 3 (show 3 ∈ [3] by decide); have k3 : SA wk lo g' g E R ∧ SR wk g' qb E R := u3; obtain ⟨a, c, cc⟩ := k3.2.b0; go_simp; exact left_V (p := fun u => ∃ a c, u = .slice a R.length c) rfl (Below.refl _ _) ⟨a, c, rfl⟩
      rintro ⟨v20, lo20, hi20⟩ - - ⟨a20, c20, rfl⟩
      refine hK _ _ ?_; clear hK K
      -- 21: call builtin len<33>(t49)
      refine stepKz rfl (fun K hK => ?_); go_simp
      first | (refine hK _ _ ?_; clear hK K) | (apply Exists.intro; apply And.intro; (focus (intro wk hk; go_simp; exact ⟨rfl, rfl⟩)); refine hK _ _ ?_; clear hK K)
      -- 22: neq<3> t45, t50
      refine stepKz rfl (fun K hK => ?_); go_simp
      first | (refine hK _ _ ?_; clear hK K) | (apply Exists.intro; apply And.intro; (focus (intro wk hk; go_simp; exact ⟨rfl, rfl⟩)); refine hK _ _ ?_; clear hK K)
      -- 23: pick t43 ? true : t51
      refine stepKz rfl (fun K hK => ?_); go_simp
      apply Exists.intro; apply And.intro; (focus (intro wk hk; go_simp; exact ⟨rfl, rfl⟩)); refine hK _ _ ?_; clear hK K
      refine stepN ?_
      refine hQ _ _ ?_
      intro w3 hT hG hF
      have hT9 := hT.undrew
      have u3 : SA w3 lo g' g E R ∧ SR w3 g' qb E R := hF 3 _ rfl rfl (by decide)
      have hl3 : Below lo w w3 := hl.trans (tr2_below hT9 hg1 (by omega) (by omega))
      have hsz3 := hT9.size
      have H := Lib.hid (show _ ∧ _ ∧ _ from ⟨u3.1, u3.2, hl3⟩)
      clear hT hT9 hG hF hQ QQ L u3 hl3 hs hr hl r8 kk hqq hE
      go_wp2_with fail
      go_roundg (gk - 1)
      case measure => omega
      case rel => exact ⟨i + 1, (E, R), by omega, by go_num, by omega, H⟩
    · obtain rfl : i = n2 := by omega
      have hlt : ¬ (i : Int) < (i : Int) := by omega
      obtain ⟨hs, hr, hl⟩ := hinv.out
      obtain ⟨F, hF⟩ : ∃ F, edE e0 ys = F := ⟨_, rfl⟩
      have kE := Lib.hid (end_F hs hF)
      have H := Lib.hid (show _ ∧ _ from ⟨hr, hl⟩)
      have hq9 := Lib.hid (show ∀ b, qb = some b → b ≠ g from fun b hb => by have := H0.out.2.1 b hb; omega)
      have hgh : hi ≠ g := by omega
      clear hs hr hl hinv H0 inv0
      go_wp2_with fail
      refine kE.out.mono ?_
      rintro r w4 ⟨rfl, -, ht⟩
      have kR := Lib.hid (rend_F (H.out.1.keep ht hgh (fun b hb => hq9.out b hb)) hF)
      have hl4 := H.out.2.trans (ht.below_of (by omega) (by intro c hc; have hc' : c = g := hc; omega))
      have H4 := Lib.hid hl4
      have hsz4 := ht.size
      clear ht hl4 kE H hF
      go_wp2_with fail
      refine kR.out.mono ?_
      rintro r w5 ⟨rfl, -, ht⟩
      have H5 := Lib.hid (H4.out.trans (ht.below_of (by omega) (by intro c hc; have hc' : c = hi := hc; omega)))
      clear ht kR H4
      go_wp2_with fail
      refine (lv.out _).mono ?_
      rintro e w6 ⟨rfl, hb⟩
      have H6 := Lib.hid (H5.out.trans (hb.mono (by rw [← hlo]; exact H5.out.size)))
      clear hb H5 lv
      go_wp2_with fail
      go_ret
      exact ⟨rfl, by rw [hlo]; exact H6.out⟩
end Go.Proofs.Ytpdenhmkpiafiaa
