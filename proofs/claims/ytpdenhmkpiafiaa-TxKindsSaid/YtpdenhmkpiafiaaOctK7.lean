/-
  THE LAW K6 ONCE MORE, with one check weaker: an operation's fact may speak of blocks that another one changes, if that one comes before it (it rests on that one).
-/
import Derived.Test.YtpdenhmkpiafiaaGD
namespace Go.Proofs.Ytpdenhmkpiafiaa.K6
open Go Go.RowKit

def C7 (sh : List Sh) : Prop := ∀ s ∈ sh, ∀ t ∈ sh, s.i ≠ t.i → t.i ∈ s.kill ∨ t.i ∈ s.D ∨ ∀ k ∈ s.Li, k ∉ t.Xi
instance (sh : List Sh) : Decidable (C7 sh) := by unfold C7; infer_instance
def Cl7 (md : Region.Mode) (ops : Array Oper) (sh : List Sh) : Prop := C1 md ops sh ∧ C2 sh ∧ C3 md ops sh ∧ C4 sh ∧ C5 sh ∧ C7 sh
instance (md : Region.Mode) (ops : Array Oper) (sh : List Sh) : Decidable (Cl7 md ops sh) := by unfold Cl7; infer_instance
section
variable {P : Program} {ops : Array Oper} {md : Region.Mode} {sh : List Sh} {M : Nat → Mean} {Z : Nat → Prop} {w1 : World}

/-- an operation that is not listed leaves all as it was -/
theorem Inv.quiet7 {listed : Array Bool} {g : Ghost} {w : World} (S : St sh M Z w1) (hC : Cl7 md ops sh) (I : Inv ops md sh M w1 listed g w) {i : Nat} {o : Oper} (ho : ops[i]? = some o) (hun : listed.getD i false = false)
    (hall : ∀ e ∈ o.after, Region.binds md e = true → listed.getD e.on false = true) (hi : spOf sh i = none) (x : GV) : Inv ops md sh M w1 (listed.setIfInBounds i true) (gput g i x) w := by
  have hne : ∀ k, (spOf sh k).isSome = true → k ≠ i := fun k hk e => by subst e; rw [hi] at hk; cases hk
  have hsi : ∀ s ∈ sh, s.i ≠ i := fun s hs e => by
    have : spOf sh i ≠ none := by
      unfold spOf
      intro h
      have := List.find?_eq_none.1 h s hs
      simp [e] at this
    exact this hi
  refine ⟨I.tr.mono fun b _ ⟨s, hs, hl, hx⟩ => ⟨s, hs, getD_set_true hl, hx⟩, shut_set ho I.shut hall, ⟨fun k hk hs => ?_, fun j k hj hk hsj hsk hjk => ?_⟩, fun s hs hl hk => ?_⟩
  · rw [gput_ne (hne k hs)]
    exact I.ok.1 k ((getD_set_other (hne k hs)).symm.trans hk) hs
  · rw [gput_ne (hne k hsk), gput_ne (hne j hsj)]
    exact I.ok.2 j k ((getD_set_other (hne j hsj)).symm.trans hj) ((getD_set_other (hne k hsk)).symm.trans hk) hsj hsk hjk
  · rw [getD_set_other (hsi s hs)] at hl
    refine S.depF s hs g _ (fun x hx => gput_ne ?_) w (I.fact s hs hl fun j hj => ?_)
    · rcases hx with rfl | hx
      · exact hsi s hs
      · rintro rfl
        have := listed_pre I.shut hl (hC.1 s hs x hx).2
        rw [hun] at this
        cases this
    · have := hk j hj
      by_cases hji : j = i
      · subst hji; exact hun
      · rwa [getD_set_other hji] at this

/-- a listed operation -/
theorem Inv.step7 {listed : Array Bool} {g : Ghost} {w w' : World} (S : St sh M Z w1) (hC : Cl7 md ops sh) (I : Inv ops md sh M w1 listed g w) {o : Oper} {s : Sh} {i : Nat} (hs : spOf sh i = some s) (ho : ops[i]? = some o) (hun : listed.getD i true = false)
    (hall : ∀ e ∈ o.after, Region.binds md e = true → listed.getD e.on false = true) (v : Value) (hL : Left M s g w v w') : Inv ops md sh M w1 (listed.setIfInBounds i true) (gput g i ⟨v, w.heap.size, w'.heap.size⟩) w' := by
  obtain ⟨hmem, rfl⟩ := spOf_spec hs
  obtain ⟨hV, hT, hF⟩ := hL
  have hun' := getD_of_true hun
  have hlt := size_of_getD hun
  have hB : w1.heap.size ≤ w.heap.size := I.tr.size
  have hXi : ∀ k ∈ s.Xi, listed.getD k false = true ∧ (spOf sh k).isSome = true := fun k hk => by
    obtain ⟨hd, hso⟩ := hC.2.2.2.1 s hmem k hk
    obtain ⟨hne, hp⟩ := hC.1 s hmem k hd
    exact ⟨(ready_pre I.shut ho hall hp).resolve_right hne, hso⟩
  refine ⟨⟨hT.os.trans I.tr.os, hT.tape.trans I.tr.tape, hT.output.trans I.tr.output, Nat.le_trans hB hT.size, fun b hb hx => ?_⟩, shut_set ho I.shut hall, ⟨fun k hk hsk => ?_, fun j k hj hk hsj hsk hjk => ?_⟩, fun t ht hl hk => ?_⟩
  · rw [hT.block b (Nat.lt_of_lt_of_le hb hB) ?_, I.tr.block b hb fun ⟨t, ht, hl, hxt⟩ => hx ⟨t, ht, getD_set_true hl, hxt⟩]
    rintro (hx' | ⟨k, hk, h1, h2⟩)
    · exact hx ⟨s, hmem, getD_set_self hlt, hx'⟩
    · have := (I.ok.1 k (hXi k hk).1 (hXi k hk).2).1
      omega
  · by_cases hki : k = s.i
    · subst hki; simp only [gput, if_true]; exact ⟨hB, hT.size, Nat.le_refl _⟩
    · rw [gput_ne hki]
      have := I.ok.1 k ((getD_set_other hki).symm.trans hk) hsk
      exact ⟨this.1, this.2.1, Nat.le_trans this.2.2 hT.size⟩
  · by_cases hji : j = s.i
    · by_cases hki : k = s.i
      · exact absurd (hji.trans hki.symm) hjk
      · rw [gput_ne hki, hji]
        have := I.ok.1 k ((getD_set_other hki).symm.trans hk) hsk
        simp only [gput, if_true]
        omega
    · rw [gput_ne hji]
      have hj := (getD_set_other hji).symm.trans hj
      by_cases hki : k = s.i
      · rw [hki]
        have := I.ok.1 j hj hsj
        simp only [gput, if_true]
        omega
      · rw [gput_ne hki]
        exact I.ok.2 j k hj ((getD_set_other hki).symm.trans hk) hsj hsk hjk
  · by_cases hti : t.i = s.i
    · rw [hti]; exact hF
    · rw [getD_set_other hti] at hl
      have hkill : s.i ∉ t.kill := fun hm => by
        have := hk _ hm
        rw [getD_set_self hlt] at this
        cases this
      have hD : ∀ x, x = t.i ∨ x ∈ t.D → x ≠ s.i := fun x hx => by
        rcases hx with rfl | hx
        · exact hti
        · rintro rfl
          have := listed_pre I.shut hl (hC.1 t ht _ hx).2
          rw [hun'] at this
          cases this
      have hF0 := I.fact t ht hl fun j hj => by
        have := hk j hj
        by_cases hji : j = s.i
        · subst hji; exact hun'
        · rwa [getD_set_other hji] at this
      refine S.depF t ht g _ (fun x hx => gput_ne (hD x hx)) w' (S.loc t ht g w w' hF0 (hT.mono fun b hb hX hLb => ?_))
      have hsep := (S.sep t ht s hmem hti).resolve_left hkill
      rcases hX with hx | ⟨k, hkx, h1, h2⟩
      · rcases hLb with hany | hLo | ⟨k, hk, h1, h2⟩
        · exact (hsep.2 hany).1 b hx
        · exact hsep.1 b hLo hx
        · have hlt := (S.xo s hmem b hx).2.2
          obtain ⟨hkD, hks⟩ := hC.2.2.2.2.1 t ht k hk
          have hkl : listed.getD k false = true := by
            rcases hkD with rfl | hkD
            · exact hl
            · exact listed_pre I.shut hl (hC.1 t ht _ hkD).2
          have := (I.ok.1 k hkl hks).1
          omega
      · obtain ⟨hxl, hxs⟩ := hXi k hkx
        rcases hLb with hany | hLo | ⟨m, hm, h3, h4⟩
        · rw [(hsep.2 hany).2] at hkx; cases hkx
        · have hlt := S.lo t ht b hLo
          have := (I.ok.1 k hxl hxs).1
          omega
        · obtain ⟨hmD, hms⟩ := hC.2.2.2.2.1 t ht m hm
          have hml : listed.getD m false = true := by
            rcases hmD with rfl | hmD
            · exact hl
            · exact listed_pre I.shut hl (hC.1 t ht _ hmD).2
          have hne : m ≠ k := fun e => by
            subst e
            rcases hC.2.2.2.2.2 t ht s hmem hti with h9 | h9 | h9
            · exact hkill h9
            · exact hD _ (.inr h9) rfl
            · exact h9 m hm hkx
          have := I.ok.2 m k hml hxl hms hxs hne
          omega

theorem wp_of_outS7 (S : St sh M Z w1) (hC : Cl7 md ops sh) {listed : Array Bool} {g : Ghost} {w : World} (I : Inv ops md sh M w1 listed g w) {o : Oper} {s : Sh} {i : Nat} (hs : spOf sh i = some s) (ho : ops[i]? = some o) (hun : listed.getD i true = false)
    (hall : ∀ e ∈ o.after, Region.binds md e = true → listed.getD e.on false = true) {a : Act} {K' : Act → World → Prop} {Q' : Exit → Act → World → Prop} (hout : outS P ops md sh M Z w1 o s g a)
    (h : ∀ v w', Left M s g w v w' → K' (a.put o.dst v) w') : o.wp P a w K' Q' := by
  obtain ⟨hmem, rfl⟩ := spOf_spec hs
  have hun' := getD_of_true hun
  have hDl : ∀ k ∈ s.D, listed.getD k false = true := fun k hk => by
    obtain ⟨hne, hp⟩ := hC.1 s hmem k hk
    exact (ready_pre I.shut ho hall hp).resolve_right hne
  have hh := hout.2 w (I.kn S hun') ⟨fun k hk hsk => I.ok.1 k (hDl k hk) hsk, fun j k hj hk hsj hsk hjk => I.ok.2 j k (hDl j hj) (hDl k hk) hsj hsk hjk⟩ fun k hk => by
    obtain ⟨hkD, hks, hku⟩ := hC.2.2.1 s hmem k hk
    obtain ⟨t, ht⟩ := Option.isSome_iff_exists.1 hks
    obtain ⟨htm, rfl⟩ := spOf_spec ht
    refine I.fact t htm (hDl _ hkD) fun j hj => ?_
    rcases hku t htm rfl j hj with rfl | hp
    · exact hun'
    · by_cases hjl : listed.getD j false = true
      · have := listed_pre I.shut hjl hp
        rw [hun'] at this
        cases this
      · simpa using hjl
  unfold Oper.wp
  generalize (execOp a.eval o).run P w = r at *
  cases r with
  | ok n w' =>
    cases n <;> simp only [sUpon] at hh <;> simp only [Oper.upon]
    case enter f args =>
      refine hh.mono fun e w'' hx => ?_
      obtain ⟨v, rfl, hv⟩ := hx
      exact h v w'' hv
    all_goals exact h _ _ hh
  | halt x w' => simp only [sUpon] at hh

theorem wpAny_of_S7 (S : St sh M Z w1) (hC : Cl7 md ops sh) {Q : Ghost → Act → Prop} {Q' : Exit → Act → World → Prop}
    (hQ : ∀ g a, Q g a → ∀ w listed, Inv ops md sh M w1 listed g w → (∀ j, j < ops.size → listed.getD j false = true) → Q' .normal a w) : ∀ (fuel : Nat) (listed : Array Bool) (g : Ghost) (a : Act),
    wpAnyS P ops md sh M Z w1 Q fuel listed g a → ∀ w, Inv ops md sh M w1 listed g w → listed.size = ops.size → wpAny P md ops Q' fuel listed a w
  | 0, listed, g, a, h => fun w hI hz => ⟨h.1, hQ _ _ h.2.2 w listed hI fun j hj => (by have := h.2.1 j hj; simpa [hz, hj] using this)⟩
  | fuel + 1, listed, g, a, h => fun w hI hz => by
    refine ⟨fun h0 => absurd h0 h.1, fun i hi => ?_⟩
    have hs := h.2 i hi
    obtain ⟨hun, o', ho', hall⟩ := mem_ready.1 hi
    unfold sOp at hs
    unfold wpOp
    split
    · rename_i ho; simp only [ho] at hs
    · rename_i o ho
      simp only [ho] at hs
      have hoo : o' = o := by rw [ho'] at ho; exact Option.some.inj ho
      subst hoo
      cases hsp : spOf sh i with
      | some s =>
        simp only [hsp] at hs
        rw [if_pos hs.1.1]
        refine .inl (wp_of_outS7 S hC hI hsp ho' hun hall hs.1 fun v w' hL => ?_)
        have hst := hI.step7 S hC hsp ho' hun hall v hL
        have hi' := (spOf_spec hsp).2
        exact wpAny_of_S7 S hC hQ fuel _ _ _ (hs.2 ⟨v, w.heap.size, w'.heap.size⟩ hI.tr.size hL.2.1.size (by rw [← hi']; exact hL.1)) w' hst (by simpa using hz)
      | none =>
        simp only [hsp] at hs
        obtain ⟨v, hy, hK⟩ := hs
        have hq := hI.quiet7 S hC ho' (getD_of_true hun) hall hsp ⟨v, 0, 0⟩
        rcases hy with ⟨hw, hr⟩ | ⟨hw, rfl⟩
        · rw [if_pos hw]
          refine .inl ?_
          unfold Oper.wp
          rw [hr w (hI.kn S (getD_of_true hun))]
          exact wpAny_of_S7 S hC hQ fuel _ _ _ hK w hq (by simpa using hz)
        · rw [if_neg (by simp [hw])]
          exact wpAny_of_S7 S hC hQ fuel _ _ _ hK w hq (by simpa using hz)

/-! ### an operation that may come first may come first always -/
theorem outS_gput7 (S : St sh M Z w1) (hC : Cl7 md ops sh) {s : Sh} (hs : s ∈ sh) {o : Oper} {a : Act} {g : Ghost} {i : Nat} (x : GV) (h : i ∉ s.D) :
    outS P ops md sh M Z w1 o s (gput g i x) a ↔ outS P ops md sh M Z w1 o s g a := by
  have hn : ∀ k ∈ s.D, gput g i x k = g k := fun k hk => gput_ne (fun e : k = i => h (by rw [← e]; exact hk))
  have hX : XX M s (gput g i x) = XX M s g := XX_congr fun k hk => hn k (hC.2.2.2.1 s hs k hk).1
  have hF : ∀ y w, (M s.i).F (gput (gput g i x) s.i y) w ↔ (M s.i).F (gput g s.i y) w := fun y w => by
    have hx : ∀ k, k = s.i ∨ k ∈ s.D → gput (gput g i x) s.i y k = gput g s.i y k := fun k hk => by
      by_cases hks : k = s.i
      · subst hks; simp [gput]
      · rw [gput_ne hks, gput_ne hks]
        exact hn k (hk.resolve_left hks)
    exact ⟨S.depF s hs _ _ (fun k hk => (hx k hk).symm) w, S.depF s hs _ _ hx w⟩
  have hL : ∀ w, Left M s (gput g i x) w = Left M s g w := fun w => by
    funext v w'
    unfold Left
    rw [hX]
    apply propext
    exact and_congr (V_gput S hs x h _) (and_congr Iff.rfl (hF _ _))
  have hU : ∀ k ∈ s.use, ∀ w, (M k).F (gput g i x) w ↔ (M k).F g w := fun k hk w => by
    obtain ⟨hkD, hks, _⟩ := hC.2.2.1 s hs k hk
    obtain ⟨t, ht⟩ := Option.isSome_iff_exists.1 hks
    obtain ⟨htm, rfl⟩ := spOf_spec ht
    have hx : ∀ m, m = t.i ∨ m ∈ t.D → gput g i x m = g m := fun m hm => by
      rcases hm with rfl | hm
      · exact hn _ hkD
      · exact hn _ (hC.2.1 s hs t htm hkD m hm)
    exact ⟨S.depF t htm _ _ (fun m hm => (hx m hm).symm) w, S.depF t htm _ _ hx w⟩
  unfold outS
  refine and_congr Iff.rfl (forall_congr' fun w => forall_congr' fun _ => ?_)
  rw [hL w]
  constructor
  · intro hh hg hf
    exact hh (GOk.congr (fun k hk => hn k hk) hg) fun k hk => (hU k hk w).2 (hf k hk)
  · intro hh hg hf
    exact hh (GOk.congr (fun k hk => (hn k hk).symm) hg) fun k hk => (hU k hk w).1 (hf k hk)
theorem Yields_keep7 (S : St sh M Z w1) (hC : Cl7 md ops sh) {i j : Nat} {oi oj : Oper} (hDi : ∀ s ∈ sh, s.i = i → j ∉ s.D) (hsi : ∀ cs b, oi.op ≠ .select cs b) (h3 : ∀ d, oj.dst = some d → d ∉ oi.looksAt ops)
    {g : Ghost} {a : Act} {x : GV} (y : GV) (hy : Yields P ops md sh M Z w1 oi i g a x) : Yields P ops md sh M Z w1 oi i (gput g j y) (a.put oj.dst y.v) x := by
  unfold Yields at *
  split
  · rename_i s hs
    simp only [hs] at hy
    obtain ⟨hm, rfl⟩ := spOf_spec hs
    exact ⟨(outS_put hsi h3).2 ((outS_gput7 S hC hm y (hDi s hm rfl)).2 hy.1), hy.2.1, hy.2.2.1, (V_gput S hm y (hDi s hm rfl) x).2 hy.2.2.2⟩
  · rename_i hs
    simp only [hs] at hy
    exact ⟨(YK_put hsi h3).2 hy.1, hy.2⟩

theorem wpAnyS_first7 (S : St sh M Z w1) (hC : Cl7 md ops sh) {Q : Ghost → Act → Prop} {i : Nat} {oi : Oper} (hi : ops[i]? = some oi) (hsel : ∀ (j : Nat) (o : Oper) cs b, ops[j]? = some o → o.op ≠ .select cs b) :
    ∀ (fuel : Nat) (listed : Array Bool) (g : Ghost) (a : Act), (∀ k, listed.getD k false = true → ∀ m, edgeB md ops k m = true → listed.getD m false = true) →
      (∀ j oj, ops[j]? = some oj → j ≠ i → listed.getD j true = false → (∀ e ∈ oj.after, Region.binds md e = true → e.on ≠ i) → oi.apart ops oj = true) →
      i ∈ Region.ready md ops listed → AllY P ops md sh M Z w1 oi i g a (fun x => wpAnyS P ops md sh M Z w1 Q fuel (listed.setIfInBounds i true) (gput g i x) (a.put oi.dst x.v)) → wpAnyS P ops md sh M Z w1 Q (fuel + 1) listed g a := by
  have hnotOf : ∀ (listed : Array Bool) (i j : Nat) (oj : Oper), listed.getD i true = false → (∀ e ∈ oj.after, Region.binds md e = true → listed.getD e.on false = true) → ∀ e ∈ oj.after, Region.binds md e = true → e.on ≠ i := by
    intro listed i j oj h0 hall e he hb heq
    have h1 := hall e he hb
    rw [heq] at h1
    rcases Nat.lt_or_ge i listed.size with h' | h'
    · simp [h'] at h0 h1; rw [h0] at h1; cases h1
    · simp [Array.getElem?_eq_none h'] at h1
  intro fuel
  induction fuel with
  | zero =>
    intro listed g a hsh _ hr H
    refine ⟨fun h => (by rw [h] at hr; cases hr), fun j hj => ?_⟩
    by_cases hji : j = i
    · subst hji
      exact (sOp_iff S hi).2 H
    · exfalso
      obtain ⟨x0, hx0⟩ := H.1
      have := ready_mono hj hji
      rw [(H.2 x0 hx0).1] at this
      cases this
  | succ fuel ih =>
    intro listed g a hsh hfree hr H
    refine ⟨fun h => (by rw [h] at hr; cases hr), fun j hj => ?_⟩
    by_cases hji : j = i
    · subst hji
      exact (sOp_iff S hi).2 H
    · obtain ⟨x0, hx0⟩ := H.1
      have h1 := fun x hx => (H.2 x hx).2 j (ready_mono hj hji)
      obtain ⟨hjun, oj, hoj, hall⟩ := mem_ready.1 hj
      obtain ⟨hiun, oi', hoi', halli⟩ := mem_ready.1 hr
      have hoo : oi' = oi := by rw [hoi'] at hi; exact Option.some.inj hi
      subst hoo
      have hnot := hnotOf listed i j oj hiun hall
      have hnot' := hnotOf listed j i oi' hjun halli
      have hap := hfree j oj hoj hji hjun hnot
      obtain ⟨hp1, hp2, hp3⟩ := Oper.apart_spec hap
      have hDj : ∀ s ∈ sh, s.i = j → i ∉ s.D := fun s hs e hm => by
        obtain ⟨hne, hp⟩ := hC.1 s hs i hm
        rw [e] at hp
        rcases ready_pre hsh hoj hall hp with h' | h'
        · rw [getD_of_true hiun] at h'; cases h'
        · exact hji h'.symm
      have hDi : ∀ s ∈ sh, s.i = i → j ∉ s.D := fun s hs e hm => by
        obtain ⟨hne, hp⟩ := hC.1 s hs j hm
        rw [e] at hp
        rcases ready_pre hsh hoi' halli hp with h' | h'
        · rw [getD_of_true hjun] at h'; cases h'
        · exact hji h'
      have hselj := fun cs b => hsel j oj cs b hoj
      have hseli := fun cs b => hsel i oi' cs b hoi'
      -- what j yields behind i it yields ahead of it
      have back : ∀ x y, Yields P ops md sh M Z w1 oj j g a y → Yields P ops md sh M Z w1 oj j (gput g i x) (a.put oi'.dst x.v) y := fun x y hy =>
        Yields_keep7 S hC hDj hselj hp1 x hy
      have forth : ∀ x y, Yields P ops md sh M Z w1 oj j (gput g i x) (a.put oi'.dst x.v) y → Yields P ops md sh M Z w1 oj j g a y := fun x y hy => by
        unfold Yields at *
        split
        · rename_i s hs
          simp only [hs] at hy
          obtain ⟨hm, e⟩ := spOf_spec hs
          subst e
          exact ⟨(outS_gput7 S hC hm x (hDj s hm rfl)).1 ((outS_put hselj hp1).1 hy.1), hy.2.1, hy.2.2.1, (V_gput S hm x (hDj s hm rfl) y).1 hy.2.2.2⟩
        · rename_i hs
          simp only [hs] at hy
          exact ⟨(YK_put hselj hp1).1 hy.1, hy.2⟩
      refine (sOp_iff S hoj).2 ⟨?_, fun y hy => ?_⟩
      · obtain ⟨⟨y, hy⟩, _⟩ := (sOp_iff S hoj).1 (h1 x0 hx0)
        exact ⟨y, forth x0 y hy⟩
      · have hfree' : ∀ k ok, ops[k]? = some ok → k ≠ i → (listed.setIfInBounds j true).getD k true = false →
            (∀ e ∈ ok.after, Region.binds md e = true → e.on ≠ i) → oi'.apart ops ok = true := fun k ok hk hki hun hno => by
          refine hfree k ok hk hki ?_ hno
          by_cases hjk : j = k
          · subst hjk; exact hjun
          · rw [getD_set_ne true hjk] at hun; exact hun
        refine ih (listed.setIfInBounds j true) _ _ (shut_set hoj hsh hall) hfree' (ready_mono hr (Ne.symm hji)) ⟨?_, fun x hx => ?_⟩
        · exact ⟨x0, Yields_keep7 S hC hDi hseli hp3 y hx0⟩
        · have hx' : Yields P ops md sh M Z w1 oi' i g a x := by
            unfold Yields at *
            split
            · rename_i s hs
              simp only [hs] at hx
              obtain ⟨hm, e⟩ := spOf_spec hs
              subst e
              exact ⟨(outS_gput7 S hC hm y (hDi s hm rfl)).1 ((outS_put hseli hp3).1 hx.1), hx.2.1, hx.2.2.1, (V_gput S hm y (hDi s hm rfl) x).1 hx.2.2.2⟩
            · rename_i hs
              simp only [hs] at hx
              exact ⟨(YK_put hseli hp3).1 hx.1, hx.2⟩
          have := ((sOp_iff S hoj).1 (h1 x hx')).2 y (back x y hy)
          show wpAnyS P ops md sh M Z w1 Q fuel _ _ _
          rw [Array.setIfInBounds_comm _ _ hji, ← gput_comm g y x (Ne.symm hji), ← Act.put_comm a x.v y.v hp2]
          exact this

def lex67 (md : Region.Mode) (ops : Array Oper) (sh : List Sh) : Bool := Region.noSelect ops && lexFrom6 md ops ops.size 0 (Array.replicate ops.size false) && decide (Cl7 md ops sh)

theorem wpAnyS_lex7 (S : St sh M Z w1) (hC : Cl7 md ops sh) {Q : Ghost → Act → Prop} (hs : Region.noSelect ops = true) : ∀ (l : List Oper) (k : Nat) (listed : Array Bool) (g : Ghost) (a : Act), (∀ j, l[j]? = ops[k + j]?) →
    (∀ k, listed.getD k false = true → ∀ m, edgeB md ops k m = true → listed.getD m false = true) →
    lexFrom6 md ops l.length k listed = true → wpS P ops md sh M Z w1 Q k l g a → wpAnyS P ops md sh M Z w1 Q l.length listed g a
  | [], _, _, _, _, _, _, hB, h => by
    simp only [List.length_nil, lexFrom6, Bool.and_eq_true] at hB
    exact ⟨by simpa using hB.1, fun j hj => List.all_eq_true.1 hB.2 j (List.mem_range.2 hj), h⟩
  | o :: l, k, listed, g, a, hl, hsh, hB, h => by
    have h0 : ops[k]? = some o := by simpa using (hl 0).symm
    simp only [List.length_cons, lexFrom6, Bool.and_eq_true] at hB
    obtain ⟨⟨hr, hf⟩, hB'⟩ := hB
    have hr' : k ∈ Region.ready md ops listed := by simpa using hr
    obtain ⟨hun, o', ho', hall⟩ := mem_ready.1 hr'
    have hoo : o' = o := by rw [ho'] at h0; exact Option.some.inj h0
    subst hoo
    have hop : sOp P ops md sh M Z w1 k (fun g a => wpS P ops md sh M Z w1 Q (k + 1) l g a) g a := by
      unfold sOp
      simp only [h0]
      exact h
    obtain ⟨h1, h2⟩ := (sOp_iff S h0).1 hop
    refine wpAnyS_first7 S hC h0 (Region.noSelect_spec hs) l.length listed g a hsh (Region.free_spec h0 hf) hr' ⟨h1, fun x hx => ?_⟩
    exact wpAnyS_lex7 S hC hs l (k + 1) _ _ _ (fun j => by have := hl (j + 1); simpa [Nat.add_assoc, Nat.add_comm 1 j] using this) (shut_set h0 hsh hall) hB' (h2 x hx)

theorem wpAny_six7 {Q : Exit → Act → World → Prop} {a : Act} {l : List Oper} (hB : lex67 .any l.toArray sh = true) (S : St sh M Z w1)
    (h : ∀ QQ : Ghost → Act → Prop, (∀ g a', After sh M Z w1 l.length (fun a w => Q .normal a w) g a' → QQ g a') → wpS P l.toArray .any sh M Z w1 QQ 0 l (fun _ => ⟨undef, 0, 0⟩) a) :
    wpAny P .any l.toArray Q l.toArray.size (Array.replicate l.toArray.size false) a w1 := by
  simp only [lex67, Bool.and_eq_true, decide_eq_true_eq] at hB
  have hno : ∀ k, (Array.replicate l.toArray.size false).getD k false = true → False := fun k hk => by
    rw [Array.getD_eq_getD_getElem?, Array.getElem?_replicate] at hk
    split at hk <;> cases hk
  have h1 := wpAnyS_lex7 (md := .any) S hB.2 hB.1.1 l 0 (Array.replicate l.toArray.size false) (fun _ => ⟨undef, 0, 0⟩) a (by simp) (fun k hk => (hno k hk).elim) (by simpa using hB.1.2) (h _ fun _ _ h => h)
  have := wpAny_of_S7 S hB.2 (Q' := Q) (fun g a h w listed I hall => h w (I.tr.mono fun b _ ⟨s, hs, _, hx⟩ => (S.xo s hs b hx).2.1)
    ⟨fun k hk hsk => I.ok.1 k (hall k (by simpa using hk)) hsk, fun j k hj hk hsj hsk hjk => I.ok.2 j k (hall j (by simpa using hj)) (hall k (by simpa using hk)) hsj hsk hjk⟩
    fun i s hs hk hlt => (spOf_spec hs).2 ▸ I.fact s (spOf_spec hs).1 (by rw [(spOf_spec hs).2]; exact hall _ (by simpa using hlt)) fun j hj => by rw [hk] at hj; cases hj) _ _ _ _ h1 w1
    ⟨Tr.refl _ _, fun k hk => (hno k hk).elim, ⟨fun k hk => (hno k hk).elim, fun j k hj => (hno j hj).elim⟩, fun s _ hl => (hno _ hl).elim⟩ (by simp)
  simpa using this

/-- THE LAW -/
theorem wp_region_six7 {id : Nat} {Q : Exit → Act → World → Prop} {a : Act} {w : World} {l : List Oper} (sh : List Sh) (M : Nat → Mean) (Z : Nat → Prop) (hm : P.follows .mixedOrders = true) (hB : lex67 .any l.toArray sh = true)
    (S : St sh M Z w.drew)
    (h : ∀ QQ : Ghost → Act → Prop, (∀ g a', After sh M Z w.drew l.length (fun a w => Q .normal a w) g a' → QQ g a') → wpS P l.toArray .any sh M Z w.drew QQ 0 l (fun _ => ⟨undef, 0, 0⟩) a) : (Code.region id l.toArray true).wp P Q a w :=
  wp_region_any hm (wpAny_six7 hB S h)
/-- the same for a region that draws nothing -/
theorem wp_region_six07 {id : Nat} {Q : Exit → Act → World → Prop} {a : Act} {w : World} {l : List Oper} (sh : List Sh) (M : Nat → Mean) (Z : Nat → Prop) (hm : Region.linearise .any l.toArray 0 = List.range l.toArray.size) (hB : lex67 .any l.toArray sh = true)
    (S : St sh M Z w)
    (h : ∀ QQ : Ghost → Act → Prop, (∀ g a', After sh M Z w l.length (fun a w => Q .normal a w) g a' → QQ g a') → wpS P l.toArray .any sh M Z w QQ 0 l (fun _ => ⟨undef, 0, 0⟩) a) : (Code.region id l.toArray false).wp P Q a w :=
  wp_region (hm ▸ wpAny_sound _ 0 _ _ _ (wpAny_six7 hB S h))
end
end Go.Proofs.Ytpdenhmkpiafiaa.K6
