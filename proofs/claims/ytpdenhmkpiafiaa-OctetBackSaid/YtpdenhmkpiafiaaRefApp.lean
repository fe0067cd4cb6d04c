/-
  append onto a slice of the call's own, as a listed operation of the region law K6.
-/
import Derived.Test.YtpdenhmkpiafiaaRefTrim
import Derived.Test.YtpdenhmkpiafiaaR6W
import Derived.Maps.AppendAt
namespace Go.Proofs.Ytpdenhmkpiafiaa.K6
open Go Go.RowKit

theorem own_tr {X : Nat → Prop} {w w' : World} {base e size n : Nat} {v : Value} {zs : List Value} (h : w.ownsRow base e size v n zs) (hT : Tr X w w') (hx : ∀ b, v.ownBlock = some b → ¬ X b) : w'.ownsRow base e size v n zs := by
  refine ⟨h.1, ?_⟩
  rcases h.2 with hn | ⟨g, cap, cur, rfl, hb, hgg, rest⟩
  · exact .inl hn
  · refine .inr ⟨g, cap, cur, rfl, hb, ?_, rest⟩
    rw [hT.block g (Array.getElem?_eq_some_iff.1 hgg).1 (hx g rfl)]
    exact hgg

/-- where the grown slice lies: in the old one's block, or in a new one -/
def Grew (v : Value) (x : GV) : Prop := x.v.ownBlock = v.ownBlock ∨ (x.v.ownBlock = some x.lo ∧ x.lo < x.hi)
/-- append onto the slice v of the call's own: it then holds zs -/
def sP (i : Nat) (D use : List Nat) (base e : Nat) (v : Value) (n : Nat) (zs : List Value) : Sp :=
  (⟨i, D, use, [], [], [i], false, true, true⟩, ⟨fun _ x => Grew v x, fun g w => Grew v (g i) ∧ w.ownsRow base e 1 (g i).v n zs, fun b => v.ownBlock = some b, fun b => v.ownBlock = some b⟩)
theorem ok_P {w1 : World} {Z : Nat → Prop} {i : Nat} {D use : List Nat} {base e : Nat} {v : Value} {n : Nat} {zs : List Value} (hv : ∀ b, v.ownBlock = some b → Z b ∧ b < w1.heap.size) : OpOk w1 Z (sP i D use base e v n zs) where
  some_ := fun _ => ⟨⟨v, w1.heap.size, w1.heap.size⟩, Nat.le_refl _, Nat.le_refl _, .inl rfl⟩
  depV := fun _ _ _ _ h => h
  depF := fun g g' hg w h => by
    show Grew v (g' i) ∧ w.ownsRow base e 1 (g' i).v n zs
    rw [hg i (.inl rfl)]; exact h
  loc := fun g w w' h hT => by
    refine ⟨h.1, own_tr h.2 hT fun b hb hn => hn ?_⟩
    rcases h.1 with h1 | ⟨h1, h2⟩
    · rw [h1] at hb; exact .inr (.inl hb)
    · rw [h1] at hb
      cases hb
      exact .inr (.inr ⟨i, by simp [sP], Nat.le_refl _, h2⟩)
  xo := fun b hb => ⟨rfl, hv b hb⟩
  lo := fun b hb => ⟨rfl, (hv b hb).2⟩
theorem left_P {l : List Sp} {i : Nat} {D use : List Nat} {base e : Nat} {v : Value} {n : Nat} {zs : List Value} {s : Sh} (hl : look6 l s.i = (sP i D use base e v n zs).2) (hs : s = (sP i D use base e v n zs).1) {g : Ghost} {w w' : World} {v' : Value}
    (hg : w.grownBy w' v.ownBlock) (ho : w'.ownsRow base e 1 v' n zs) (hw : v'.ownBlock = v.ownBlock ∨ v'.ownBlock = some w.heap.size) : Left (look6 l) s g w v' w' := by
  have hG : Grew v ⟨v', w.heap.size, w'.heap.size⟩ := by
    rcases hw with h | h
    · exact .inl h
    · exact .inr ⟨h, (ho.lt _ h).2⟩
  unfold Left
  rw [hl]
  subst hs
  refine ⟨hG, ⟨hg.os, hg.tape, hg.output, hg.size, fun b hb hx => hg.block b hb fun hn => hx (.inl (by rw [hl]; exact hn.symm))⟩, ?_⟩
  show Grew v (gput g i _ i) ∧ w'.ownsRow base e 1 (gput g i _ i).v n zs
  rw [gput_self]
  exact ⟨hG, ho⟩
theorem run_append_op {P : Program} {o : Oper} {a : Act} {x y : Operand} {t : TypeId} {v u v2 : Value} {w w2 : World} (ho : o.op = .call { callee := .builtin .append, args := #[x, y], argTypes := #[t, t] }) (hx : a.eval x = v) (hy : a.eval y = u)
    (hrun : (Builtin.append_ #[t, t] o.type #[v, u]).run P w = .ok v2 w2) : (execOp a.eval o).run P w = .ok (.value v2) w2 := by
  unfold execOp
  simp only [ho, resolve, invoke, builtin, Sem.run_bind, Sem.run_pure, Result.andThen_ok, List.map_toArray, List.map_cons, List.map_nil, hx, hy, hrun]
end Go.Proofs.Ytpdenhmkpiafiaa.K6
