/-
  A listed call that changes one old block and leaves a fact of its own new blocks; bytes as a text.
-/
import Derived.Test.YtpdenhmkpiafiaaOctCopy
namespace Go.Proofs.Ytpdenhmkpiafiaa
open Go Go.RowKit K6

namespace K6
/-- it yields a value, changes the old block G, and leaves a fact that speaks of its own new blocks and of the old blocks Lo -/
def sU (i : Nat) (D use kill : List Nat) (G : Nat) (Lo : Nat → Prop) (p : GV → Prop) (f : GV → World → Prop) : Sp := (⟨i, D, use, kill, [], [i], false, true, true⟩, ⟨fun _ x => p x, fun g w => f (g i) w, (· = G), Lo⟩)
theorem ok_U {w1 : World} {Z : Nat → Prop} {i : Nat} {D use kill : List Nat} {G : Nat} {Lo : Nat → Prop} {p : GV → Prop} {f : GV → World → Prop} (hp : ∃ x : GV, w1.heap.size ≤ x.lo ∧ x.lo ≤ x.hi ∧ p x) (hl : ∀ (x : GV) w w', f x w → Tr (fun b => ¬ (Lo b ∨ (x.lo ≤ b ∧ b < x.hi))) w w' → f x w') (hG : G < w1.heap.size) (hz : Z G) (hLo : ∀ b, Lo b → b < w1.heap.size) : OpOk w1 Z (sU i D use kill G Lo p f) where
  some_ := fun _ => hp
  depV := fun _ _ _ _ h => h
  depF := fun g g' hg w h => by show f (g' i) w; rw [hg i (.inl rfl)]; exact h
  loc := fun g w w' h hT => hl _ w w' h (hT.mono fun b _ hb hx => hb (by
    rcases hx with hx | hx
    · exact .inr (.inl hx)
    · exact .inr (.inr ⟨i, by simp [sU], hx⟩)))
  xo := fun c hc => by
    have hc' : c = G := hc
    subst hc'; exact ⟨rfl, hz, hG⟩
  lo := fun c hc => ⟨rfl, hLo c hc⟩
theorem left_U {l : List Sp} {i : Nat} {D use kill : List Nat} {G : Nat} {Lo : Nat → Prop} {p : GV → Prop} {f : GV → World → Prop} {s : Sh} (hl : look6 l s.i = (sU i D use kill G Lo p f).2) (hs : s = (sU i D use kill G Lo p f).1) {g : Ghost} {w w' : World} {v : Value}
    (hp : p ⟨v, w.heap.size, w'.heap.size⟩) (ht : Tr (fun b => b = G) w w') (hf : f ⟨v, w.heap.size, w'.heap.size⟩ w') : Left (look6 l) s g w v w' := by
  unfold Left
  rw [hl]
  subst hs
  refine ⟨hp, ht.mono fun b _ hb => ?_, ?_⟩
  · show XX (look6 l) _ g b
    unfold XX
    rw [hl]
    exact .inl hb
  · show f (gput g i _ i) w'
    rw [gput_self]
    exact hf
end K6
theorem conv_emptyA (a : Addr) (c : Nat) (w : World) : (convert 33 9 (.slice (some a) 0 c)).run Try.prog w = .ok (.string (strOfNums [])) w := by
  kernel_rfl
theorem Bs.convA {w : World} {u : Value} {xs : List Int} (h : Bs w u xs) : (convert 33 9 u).run Try.prog w = .ok (.string (strOfNums xs)) w := by
  by_cases h0 : xs = []
  · obtain ⟨q, c, rfl, hn, h1⟩ := h
    subst h0
    cases q with
    | none => kernel_rfl
    | some a => exact conv_emptyA a c w
  · exact h.conv h0
/-- what a call on the source leaves, as a fact: the value's bytes, and the source -/
def ObF (I : World → Prop) (L : List Int) (x : GV) (w : World) : Prop := Ob w x.lo x.v L ∧ (∀ b, x.v.ownBlock = some b → b < x.hi) ∧ I w
theorem ObF.loc {I : World → Prop} {Lo : Nat → Prop} {L : List Int} (hI : ∀ w w', I w → Tr (fun b => ¬ Lo b) w w' → I w') (x : GV) (w w' : World) (h : ObF I L x w) (hT : Tr (fun b => ¬ (Lo b ∨ (x.lo ≤ b ∧ b < x.hi))) w w') : ObF I L x w' :=
  ⟨h.1.keep hT fun b hb hx => hx (.inr ⟨(h.1.lt b hb).1, h.2.1 b hb⟩), h.2.1, hI w w' h.2.2 (hT.mono fun _ _ hb hx => hb (.inl hx))⟩
theorem SA.loc {lo hi g : Nat} {e : Int} {xs : List Int} (w w' : World) (h : SA w lo hi g e xs) (hT : Tr (fun b => ¬ (lo ≤ b ∧ b < hi)) w w') : SA w' lo hi g e xs := h.keep hT fun _ h1 h2 hx => hx ⟨h1, h2⟩
end Go.Proofs.Ytpdenhmkpiafiaa
