/-
  Slices of numbers of four words: of the call's own (Oe), as read (Us), append.
-/
import Derived.Test.YtpdenhmkpiafiaaGD
import Derived.Test.YtpdenhmkpiafiaaGE
namespace Go.Proofs.Ytpdenhmkpiafiaa
open Go Go.RowKit K6

/-- numbers as words -/
def uw (l : List Nat) : List Value := l.flatMap fun a => (W4 a).toList
theorem uw_len (l : List Nat) : (uw l).length = l.length * 4 := by
  unfold uw
  induction l with
  | nil => rfl
  | cons a l ih => rw [List.flatMap_cons, List.length_append, ih, List.length_cons, show (W4 a).toList.length = 4 from rfl]; omega
theorem uw_app (l k : List Nat) : uw (l ++ k) = uw l ++ uw k := List.flatMap_append
theorem uw_one (l : List Nat) : ∀ u ∈ uw l, u.oneCell' = true := fun u hu => by
  obtain ⟨a, -, h⟩ := List.mem_flatMap.1 hu
  have h4 : (W4 a).toList.all (·.oneCell') = true := by kernel_rfl
  exact List.all_eq_true.1 h4 u h
theorem uw_get (l : List Nat) (i j : Nat) (hi : i < l.length) (hj : j < 4) : (uw l)[i * 4 + j]? = (W4 (l[i]))[j]? := by
  induction l generalizing i with
  | nil => exact absurd hi (Nat.not_lt_zero _)
  | cons a l ih =>
    have hl4 : (W4 a).toList.length = 4 := rfl
    show ((W4 a).toList ++ uw l)[i * 4 + j]? = _
    match i, hi with
    | 0, _ =>
      rw [List.getElem?_append_left (by rw [hl4]; omega), Nat.zero_mul, Nat.zero_add]
      simp
    | i + 1, hi =>
      rw [List.getElem?_append_right (by rw [hl4]; omega), hl4, show (i + 1) * 4 + j - 4 = i * 4 + j by omega, ih i (by simpa using hi)]
      rfl
/-- a slice of the call's own holds these numbers -/
def Oe (w : World) (base : Nat) (v : Value) (l : List Nat) : Prop := w.ownsRow base 31 4 v l.length (uw l)
/-- a slice value reads as these numbers -/
def Us (w : World) (u : Value) (l : List Nat) : Prop := ∃ q c, u = .slice q l.length c ∧ (q = none → c = 0 ∧ l = []) ∧ ∀ a, q = some a → ∀ j v, (uw l)[j]? = some v → w.cell? (a.add j) = some v
theorem Oe.base {w : World} {b b' : Nat} {v : Value} {l : List Nat} (h : Oe w b v l) (hb : b' ≤ b) : Oe w b' v l := by
  refine ⟨h.1, ?_⟩
  rcases h.2 with h0 | ⟨g, cap, cur, rfl, h1, rest⟩
  · exact .inl h0
  · exact .inr ⟨g, cap, cur, rfl, Nat.le_trans hb h1, rest⟩
theorem Oe.nil (w : World) (b : Nat) : Oe w b (.slice none 0 0) [] := ⟨rfl, .inl ⟨rfl, rfl⟩⟩
theorem Us.nil (w : World) : Us w (.slice none 0 0) [] := ⟨none, 0, rfl, fun _ => ⟨rfl, rfl⟩, fun _ ha => (by cases ha)⟩
theorem Oe.us {w : World} {b : Nat} {v : Value} {l : List Nat} (h : Oe w b v l) : Us w v l := by
  rcases h.2 with ⟨rfl, h0⟩ | ⟨g, cap, cur, rfl, h1, hg, h2, h3, h4, h5⟩
  · obtain rfl : l = [] := List.eq_nil_of_length_eq_zero h0
    exact Us.nil w
  · refine ⟨some ⟨g, 0, none⟩, cap, rfl, (fun h => (by cases h)), fun a ha j u hj => ?_⟩
    cases ha
    exact World.ownsRow.cells h (g := g) rfl j u hj
theorem Us.keep {X : Nat → Prop} {w w' : World} {u : Value} {l : List Nat} (h : Us w u l) (hT : Tr X w w') (hx : ∀ b, u.ownBlock = some b → ¬ X b) : Us w' u l := by
  obtain ⟨q, c, rfl, h0, h1⟩ := h
  refine ⟨q, c, rfl, h0, fun a ha j v hj => ?_⟩
  subst ha
  have h2 := h1 a rfl j v hj
  rw [← h2]
  refine World.cell?_of_block ?_
  rw [add_block]
  have h3 := cell_lt h2
  rw [add_block] at h3
  exact hT.block _ h3 (hx _ rfl)
theorem Us.below {w w' : World} {u : Value} {l : List Nat} (h : Us w u l) (hb : Below w.heap.size w w') : Us w' u l := h.keep (X := None_) (Tr.of hb) (fun _ _ => id)
theorem Oe.keep {X : Nat → Prop} {w w' : World} {b : Nat} {v : Value} {l : List Nat} (h : Oe w b v l) (hT : Tr X w w') (hx : ∀ b, v.ownBlock = some b → ¬ X b) : Oe w' b v l := own_tr h hT hx
theorem Oe.below {w w' : World} {b : Nat} {v : Value} {l : List Nat} (h : Oe w b v l) (hb : Below w.heap.size w w') : Oe w' b v l := own_tr h (X := None_) (Tr.of hb) (fun _ _ => id)
/-- element i of a slice that is no nil: where it lies -/
theorem Us.at_ {w : World} {u : Value} {l : List Nat} (h : Us w u l) {i : Nat} (hi : i < l.length) : ∃ g o c, u = .slice (some ⟨g, o, none⟩) l.length c ∧ g < w.heap.size ∧ ∀ i (hi : i < l.length) j v, (W4 (l[i])).toList[j]? = some v → w.cell? ⟨g, o + i * 4 + j, none⟩ = some v := by
  obtain ⟨q, c, rfl, h0, h1⟩ := h
  cases q with
  | none => rw [(h0 rfl).2] at hi; exact absurd hi (Nat.not_lt_zero _)
  | some a =>
    have hc : ∀ i (hi : i < l.length) j v, (W4 (l[i])).toList[j]? = some v → w.cell? (a.add (i * 4 + j)) = some v := fun i hi j v hj => by
      have hj4 : j < 4 := (List.getElem?_eq_some_iff.1 hj).1
      refine h1 a rfl _ _ ?_
      rw [uw_get l i j hi hj4, ← hj]
      simp
    have h2 := hc 0 (by omega) 0 _ rfl
    rw [show a.add (0 * 4 + 0) = a from by unfold Addr.add; rfl] at h2
    have h3 := cell_lt h2
    have hs : a.spot = none := by
      unfold World.cell? at h2
      split at h2
      · cases hs : a.spot with
        | none => rfl
        | some k => rw [hs] at h2; simp at h2
      · cases h2
    obtain ⟨g, o, s⟩ := a
    simp only at hs
    subst hs
    refine ⟨g, o, c, rfl, h3, fun i hi j v hj => ?_⟩
    rw [Nat.add_assoc, ← add_off]
    exact hc i hi j v hj
set_option maxRecDepth 100000 in
theorem appendU_nil {w : World} {base : Nat} {v : Value} {l : List Nat} (h : Oe w base v l) : (Builtin.append_ #[23, 23] 23 #[v, .slice none 0 0]).run Try.prog w = .ok v w := by
  obtain ⟨i, hi⟩ : ∃ i, Try.prog.info? 31 = some i := ⟨_, rfl⟩
  rcases h.2 with ⟨rfl, h0⟩ | ⟨g, cap, cur, rfl, hb, hg, h2, h3, h4, h5⟩
  · simp [Builtin.append_, run_underlying Try.underlying23, sizeOf, typeInfo, hi, Builtin.lenOf, Builtin.firstCells]
  · simp [Builtin.append_, run_underlying Try.underlying23, sizeOf, typeInfo, hi, Builtin.lenOf, Builtin.firstCells, h2, storeCells]
set_option maxRecDepth 100000 in
set_option maxHeartbeats 4000000 in
/-- append, as it runs -/
theorem appendU_run {w : World} {base : Nat} {v u : Value} {l k : List Nat} (h : Oe w base v l) (hu : Us w u k) (hL : l.length + k.length ≤ 10000000) (hb : base ≤ w.heap.size) :
    ∃ v' w', (Builtin.append_ #[23, 23] 23 #[v, u]).run Try.prog w = .ok v' w' ∧ Oe w' base v' (l ++ k) ∧ w.grownBy w' v.ownBlock ∧ (v'.ownBlock = v.ownBlock ∨ v'.ownBlock = some w.heap.size) := by
  obtain ⟨q, c, rfl, hn, h1⟩ := hu
  cases q with
  | none =>
    obtain ⟨rfl, rfl⟩ := hn rfl
    refine ⟨v, w, appendU_nil h, by rw [List.append_nil]; exact h, ⟨rfl, rfl, rfl, Nat.le_refl _, fun _ _ _ => rfl⟩, .inl rfl⟩
  | some a =>
    obtain ⟨v', w', hrun, ho, hg, -, hw⟩ := run_append_own_at (P := Try.prog) w base 23 23 31 _ _ 4 32 rfl rfl rfl rfl rfl rfl (by decide) v l.length (uw l) h a k.length c (uw k) (uw_len k) (h1 a rfl) (uw_one k) (by simp only [maxLen]; omega) (by omega) hb
    refine ⟨v', w', hrun, ?_, hg, hw⟩
    unfold Oe
    rw [List.length_append, uw_app]
    exact ho
namespace K6
/-- append onto an own slice v of elements of size z -/
def sPz (i : Nat) (D use : List Nat) (base e z : Nat) (v : Value) (n : Nat) (zs : List Value) : Sp :=
  (⟨i, D, use, [], [], [i], false, true, true⟩, ⟨fun _ x => Grew v x ∧ ∃ q m c, x.v = .slice q m c, fun g w => Grew v (g i) ∧ w.ownsRow base e z (g i).v n zs, fun b => v.ownBlock = some b, fun b => v.ownBlock = some b⟩)
theorem own_trz {X : Nat → Prop} {w w' : World} {base e z n : Nat} {v : Value} {zs : List Value} (h : w.ownsRow base e z v n zs) (hT : Tr X w w') (hx : ∀ b, v.ownBlock = some b → ¬ X b) : w'.ownsRow base e z v n zs := own_tr h hT hx
theorem ok_Pz {w1 : World} {Z : Nat → Prop} {i : Nat} {D use : List Nat} {base e z : Nat} {v : Value} {n : Nat} {zs : List Value} (hsl : ∃ q m c, v = .slice q m c) (hv : ∀ b, v.ownBlock = some b → Z b ∧ b < w1.heap.size) : OpOk w1 Z (sPz i D use base e z v n zs) where
  some_ := fun _ => ⟨⟨v, w1.heap.size, w1.heap.size⟩, Nat.le_refl _, Nat.le_refl _, .inl rfl, hsl⟩
  depV := fun _ _ _ _ h => h
  depF := fun g g' hg w h => by
    show Grew v (g' i) ∧ w.ownsRow base e z (g' i).v n zs
    rw [hg i (.inl rfl)]; exact h
  loc := fun g w w' h hT => by
    refine ⟨h.1, own_trz h.2 hT fun b hb hn => hn ?_⟩
    rcases h.1 with h1 | ⟨h1, h2⟩
    · rw [h1] at hb; exact .inr (.inl hb)
    · rw [h1] at hb
      cases hb
      exact .inr (.inr ⟨i, by simp [sPz], Nat.le_refl _, h2⟩)
  xo := fun b hb => ⟨rfl, hv b hb⟩
  lo := fun b hb => ⟨rfl, (hv b hb).2⟩
theorem left_Pz {l : List Sp} {i : Nat} {D use : List Nat} {base e z : Nat} {v : Value} {n : Nat} {zs : List Value} {s : Sh} (hl : look6 l s.i = (sPz i D use base e z v n zs).2) (hs : s = (sPz i D use base e z v n zs).1) {g : Ghost} {w w' : World} {v' : Value}
    (hg : w.grownBy w' v.ownBlock) (ho : w'.ownsRow base e z v' n zs) (hlt : ∀ b, v'.ownBlock = some b → b < w'.heap.size) (hw : v'.ownBlock = v.ownBlock ∨ v'.ownBlock = some w.heap.size) : Left (look6 l) s g w v' w' := by
  have hG : Grew v ⟨v', w.heap.size, w'.heap.size⟩ := by
    rcases hw with h | h
    · exact .inl h
    · exact .inr ⟨h, hlt _ h⟩
  unfold Left
  rw [hl]
  subst hs
  have hsl : ∃ q m c, v' = .slice q m c := by
    rcases ho.2 with ⟨rfl, -⟩ | ⟨g, cap, cur, rfl, -⟩
    · exact ⟨_, _, _, rfl⟩
    · exact ⟨_, _, _, rfl⟩
  refine ⟨⟨hG, hsl⟩, ⟨hg.os, hg.tape, hg.output, hg.size, fun b hb hx => hg.block b hb fun hn => hx (.inl (by rw [hl]; exact hn.symm))⟩, ?_⟩
  show Grew v (gput g i _ i) ∧ w'.ownsRow base e z (gput g i _ i).v n zs
  rw [gput_self]
  exact ⟨hG, ho⟩
end K6
theorem Oe.lt {w : World} {base : Nat} {v : Value} {l : List Nat} (h : Oe w base v l) (b : Nat) (hb : v.ownBlock = some b) : base ≤ b ∧ b < w.heap.size := by
  rcases h.2 with ⟨rfl, -⟩ | ⟨g, cap, cur, rfl, h1, hg, -⟩
  · cases hb
  · have h2 : some g = some b := hb
    injection h2 with h2
    subst h2
    exact ⟨h1, (Array.getElem?_eq_some_iff.1 hg).1⟩
end Go.Proofs.Ytpdenhmkpiafiaa
