/-
  THE LAW K6 MADE READY: kinds of listed operations (a value of a set; a fact; a block made; a store), and the steps of the walk.
-/
import Derived.Test.YtpdenhmkpiafiaaK6
import Derived.Laws.Tables
import Derived.Deep.MidRow
namespace Go.Proofs.Ytpdenhmkpiafiaa.K6
open Go Go.RowKit

abbrev Sp := Sh × Mean
def dflt : Mean := ⟨fun _ _ => True, fun _ _ => True, None_, None_⟩
def shs (l : List Sp) : List Sh := l.map (·.1)
def look6 (l : List Sp) (i : Nat) : Mean := match l with
  | [] => dflt
  | p :: l => if p.1.i = i then p.2 else look6 l i

structure OpOk (w1 : World) (Z : Nat → Prop) (p : Sp) : Prop where
  some_ : ∀ g, ∃ x : GV, w1.heap.size ≤ x.lo ∧ x.lo ≤ x.hi ∧ p.2.V g x
  depV : ∀ g g', (∀ x ∈ p.1.D, g' x = g x) → ∀ x, p.2.V g x → p.2.V g' x
  depF : ∀ g g', (∀ x, x = p.1.i ∨ x ∈ p.1.D → g' x = g x) → ∀ w, p.2.F g w → p.2.F g' w
  loc : ∀ g w w', p.2.F g w → Tr (fun b => ¬ (p.1.any = true ∨ p.2.Lo b ∨ ∃ k ∈ p.1.Li, (g k).lo ≤ b ∧ b < (g k).hi)) w w' → p.2.F g w'
  xo : ∀ b, p.2.Xo b → p.1.x = true ∧ Z b ∧ b < w1.heap.size
  lo : ∀ b, p.2.Lo b → p.1.l = true ∧ b < w1.heap.size
def AllOk (w1 : World) (Z : Nat → Prop) : List Sp → Prop
  | [] => True
  | p :: l => OpOk w1 Z p ∧ AllOk w1 Z l
theorem AllOk.mem {w1 : World} {Z : Nat → Prop} : ∀ {l : List Sp}, AllOk w1 Z l → ∀ p ∈ l, OpOk w1 Z p
  | _ :: _, h, p, hp => by
    rcases List.mem_cons.1 hp with rfl | hp
    · exact h.1
    · exact h.2.mem p hp

def onceB : List Sp → Bool
  | [] => true
  | p :: l => l.all (fun q => q.1.i != p.1.i) && onceB l
theorem look_mem : ∀ {l : List Sp}, onceB l = true → ∀ p ∈ l, look6 l p.1.i = p.2
  | q :: l, h, p, hp => by
    simp only [onceB, Bool.and_eq_true] at h
    rcases List.mem_cons.1 hp with rfl | hp
    · simp [look6]
    · have := List.all_eq_true.1 h.1 p hp
      have hne : q.1.i ≠ p.1.i := fun e => by simp [e] at this
      simp only [look6, if_neg hne]
      exact look_mem h.2 p hp

def isX (s : Sh) : Bool := s.x || !s.Xi.isEmpty
/-- each listed operation but those of 'fi' is undone by all that change memory; 'fi' and 'xi' are held against each other by the prover -/
def sepB (sh : List Sh) (fi xi : List Nat) : Bool := sh.all fun s => (!s.any && !s.l) || (fi.contains s.i && !s.any && sh.all fun t => !isX t || xi.contains t.i) || sh.all fun t => !isX t || t.i == s.i || s.kill.contains t.i

theorem mk_St {w1 : World} {Z : Nat → Prop} (l : List Sp) (fi xi : List Nat) (h1 : onceB l = true) (h2 : sepB (shs l) fi xi = true) (h : AllOk w1 Z l)
    (h3 : ∀ i ∈ fi, ∀ j ∈ xi, i ≠ j → ∀ b, (look6 l i).Lo b → ¬ (look6 l j).Xo b) : St (shs l) (look6 l) Z w1 := by
  have hm : ∀ s ∈ shs l, ∃ m, (s, m) ∈ l ∧ look6 l s.i = m := fun s hs => by
    obtain ⟨⟨s', m⟩, hp, rfl⟩ := List.mem_map.1 hs
    exact ⟨m, hp, look_mem h1 _ hp⟩
  have hx : ∀ s ∈ shs l, isX s = false → (∀ b, ¬ (look6 l s.i).Xo b) ∧ s.Xi = [] := fun s hs he => by
    obtain ⟨m, hp, hl⟩ := hm s hs
    simp only [isX, Bool.or_eq_false_iff, Bool.not_eq_false', List.isEmpty_iff] at he
    refine ⟨fun b hb => ?_, he.2⟩
    rw [hl] at hb
    have := ((h.mem _ hp).xo b hb).1
    simp only at this
    rw [he.1] at this
    cases this
  refine ⟨fun s hs => ?_, fun s hs => ?_, fun s hs => ?_, fun s hs => ?_, fun s hs => ?_, fun s hs => ?_, fun s hs t ht hne => ?_⟩
  · obtain ⟨m, hp, hl⟩ := hm s hs; rw [hl]; exact (h.mem _ hp).some_
  · obtain ⟨m, hp, hl⟩ := hm s hs; rw [hl]; exact (h.mem _ hp).depV
  · obtain ⟨m, hp, hl⟩ := hm s hs; rw [hl]; exact (h.mem _ hp).depF
  · obtain ⟨m, hp, hl⟩ := hm s hs
    unfold LL
    rw [hl]; exact (h.mem _ hp).loc
  · obtain ⟨m, hp, hl⟩ := hm s hs; rw [hl]; exact (h.mem _ hp).xo
  · obtain ⟨m, hp, hl⟩ := hm s hs; rw [hl]; exact fun b hb => ((h.mem _ hp).lo b hb).2
  · have hs2 := List.all_eq_true.1 h2 s hs
    cases ht' : isX t with
    | false =>
      obtain ⟨h5, h6⟩ := hx t ht ht'
      exact .inr ⟨fun b _ => h5 b, fun _ => ⟨h5, h6⟩⟩
    | true =>
      simp only [Bool.or_eq_true, Bool.and_eq_true] at hs2
      rcases hs2 with (⟨hna, hnl⟩ | ⟨⟨hf, hany⟩, hxi⟩) | hk
      · obtain ⟨m, hp, hl⟩ := hm s hs
        refine .inr ⟨fun b hb => ?_, fun ha => by rw [ha] at hna; cases hna⟩
        rw [hl] at hb
        have := ((h.mem _ hp).lo b hb).1
        simp only at this
        rw [this] at hnl
        cases hnl
      · have := List.all_eq_true.1 hxi t ht
        simp only [ht', Bool.not_true, Bool.false_or] at this
        refine .inr ⟨h3 s.i (by simpa using hf) t.i (by simpa using this) hne, fun ha => ?_⟩
        rw [ha] at hany; cases hany
      · have := List.all_eq_true.1 hk t ht
        simp only [ht', Bool.not_true, Bool.false_or, Bool.or_eq_true, beq_iff_eq] at this
        exact .inl (by simpa using this.resolve_left (Ne.symm hne))

/-! ### kinds -/
/-- it yields a value of a set -/
def sV (i : Nat) (D use : List Nat) (p : Value → Prop) : Sp := (⟨i, D, use, [], [], [], false, false, false⟩, ⟨fun _ x => p x.v, fun _ _ => True, None_, None_⟩)
theorem ok_V {w1 : World} {Z : Nat → Prop} {i : Nat} {D use : List Nat} {p : Value → Prop} (h : ∃ v, p v) : OpOk w1 Z (sV i D use p) where
  some_ := fun _ => by obtain ⟨v, hv⟩ := h; exact ⟨⟨v, w1.heap.size, w1.heap.size⟩, Nat.le_refl _, Nat.le_refl _, hv⟩
  depV := fun _ _ _ _ h => h
  depF := fun _ _ _ _ h => h
  loc := fun _ _ _ _ _ => trivial
  xo := fun _ h => h.elim
  lo := fun _ h => h.elim
/-- it leaves a fact of its value, which new memory does not undo -/
def sF (i : Nat) (D use kill : List Nat) (p : GV → Prop) (f : GV → World → Prop) : Sp := (⟨i, D, use, kill, [], [], true, false, false⟩, ⟨fun _ x => p x, fun g w => f (g i) w, None_, None_⟩)
theorem ok_F {w1 : World} {Z : Nat → Prop} {i : Nat} {D use kill : List Nat} {p : GV → Prop} {f : GV → World → Prop} (h : ∃ x : GV, w1.heap.size ≤ x.lo ∧ x.lo ≤ x.hi ∧ p x) (hl : ∀ x w w', f x w → Below w.heap.size w w' → f x w') : OpOk w1 Z (sF i D use kill p f) where
  some_ := fun _ => h
  depV := fun _ _ _ _ h => h
  depF := fun g g' hg w h => by show f (g' i) w; rw [hg i (.inl rfl)]; exact h
  loc := fun g w w' h hT => hl _ w w' h ((hT.mono fun b _ hb => hb (.inl rfl)).below)
  xo := fun _ h => h.elim
  lo := fun _ h => h.elim
/-- its fact speaks of its own blocks alone -/
def sG (i : Nat) (D use kill : List Nat) (p : GV → Prop) (f : GV → World → Prop) : Sp := (⟨i, D, use, kill, [], [i], false, false, false⟩, ⟨fun _ x => p x, fun g w => f (g i) w, None_, None_⟩)
theorem ok_G {w1 : World} {Z : Nat → Prop} {i : Nat} {D use kill : List Nat} {p : GV → Prop} {f : GV → World → Prop} (h : ∃ x : GV, w1.heap.size ≤ x.lo ∧ x.lo ≤ x.hi ∧ p x)
    (hl : ∀ (x : GV) w w', f x w → Tr (fun b => ¬ (x.lo ≤ b ∧ b < x.hi)) w w' → f x w') : OpOk w1 Z (sG i D use kill p f) where
  some_ := fun _ => h
  depV := fun _ _ _ _ h => h
  depF := fun g g' hg w h => by show f (g' i) w; rw [hg i (.inl rfl)]; exact h
  loc := fun g w w' h hT => hl _ w w' h (hT.mono fun b _ hb hx => hb (.inr (.inr ⟨i, by simp [sG], hx⟩)))
  xo := fun _ h => h.elim
  lo := fun _ h => h.elim
/-- it makes a block -/
def sA (i t : Nat) (kill : List Nat) (cs : Array Value) : Sp := (⟨i, [], [], kill, [], [i], false, false, false⟩, ⟨fun _ x => x.v = .pointer (some ⟨x.lo, 0, none⟩) ∧ x.hi = x.lo + 1, fun g w => (g i).hi = (g i).lo + 1 ∧ Row w (g i).lo t cs, None_, None_⟩)
theorem Row.tr {X : Nat → Prop} {w w' : World} {g t : Nat} {cs : Array Value} (h : Row w g t cs) (hT : Tr X w w') (hx : ¬ X g) : Row w' g t cs := (hT.block g h.lt hx).trans h
theorem ok_A {w1 : World} {Z : Nat → Prop} {i t : Nat} {kill : List Nat} {cs : Array Value} : OpOk w1 Z (sA i t kill cs) where
  some_ := fun _ => ⟨⟨.pointer (some ⟨w1.heap.size, 0, none⟩), w1.heap.size, w1.heap.size + 1⟩, Nat.le_refl _, Nat.le_succ _, rfl, rfl⟩
  depV := fun _ _ _ _ h => h
  depF := fun g g' hg w h => by show (g' i).hi = (g' i).lo + 1 ∧ Row w (g' i).lo t cs; rw [hg i (.inl rfl)]; exact h
  loc := fun g w w' h hT => ⟨h.1, Row.tr h.2 hT fun hn => hn (.inr (.inr ⟨i, by simp [sA], Nat.le_refl _, by have : (g i).hi = (g i).lo + 1 := h.1; omega⟩))⟩
  xo := fun _ h => h.elim
  lo := fun _ h => h.elim
/-- a store of a whole row into the block that operation k made -/
def sT (i k t : Nat) (D : List Nat) (cells : Ghost → Array Value) : Sp := (⟨i, k :: D, [k], [], [k], [k], false, false, false⟩, ⟨fun _ x => x.v = undef, fun g w => (g k).hi = (g k).lo + 1 ∧ Row w (g k).lo t (cells g), None_, None_⟩)
theorem ok_T {w1 : World} {Z : Nat → Prop} {i k t : Nat} {D : List Nat} {cells : Ghost → Array Value} (h : ∀ g g', (∀ x ∈ D, g' x = g x) → cells g' = cells g) : OpOk w1 Z (sT i k t D cells) where
  some_ := fun _ => ⟨⟨undef, w1.heap.size, w1.heap.size⟩, Nat.le_refl _, Nat.le_refl _, rfl⟩
  depV := fun _ _ _ _ h => h
  depF := fun g g' hg w hf => by
    show (g' k).hi = (g' k).lo + 1 ∧ Row w (g' k).lo t (cells g')
    rw [hg k (.inr (by simp [sT])), h g g' fun x hx => hg x (.inr (by simp [sT, hx]))]; exact hf
  loc := fun g w w' h hT => ⟨h.1, Row.tr h.2 hT fun hn => hn (.inr (.inr ⟨k, by simp [sT], Nat.le_refl _, by have : (g k).hi = (g k).lo + 1 := h.1; omega⟩))⟩
  xo := fun _ h => h.elim
  lo := fun _ h => h.elim
/-- a store of a whole row into an old block -/
def sO (i b t : Nat) (D : List Nat) (cells : Ghost → Array Value) : Sp := (⟨i, D, [], [], [], [], false, true, true⟩, ⟨fun _ x => x.v = undef, fun g w => Row w b t (cells g), (· = b), (· = b)⟩)
theorem ok_O {w1 : World} {Z : Nat → Prop} {i b t : Nat} {D : List Nat} {cells : Ghost → Array Value} (h : ∀ g g', (∀ x ∈ D, g' x = g x) → cells g' = cells g) (hb : b < w1.heap.size) (hz : Z b) : OpOk w1 Z (sO i b t D cells) where
  some_ := fun _ => ⟨⟨undef, w1.heap.size, w1.heap.size⟩, Nat.le_refl _, Nat.le_refl _, rfl⟩
  depV := fun _ _ _ _ h => h
  depF := fun g g' hg w hf => by
    show Row w b t (cells g')
    rw [h g g' fun x hx => hg x (.inr hx)]; exact hf
  loc := fun g w w' h hT => Row.tr h hT fun hn => hn (.inr (.inl rfl))
  xo := fun c hc => by
    have hc' : c = b := hc
    subst hc'; exact ⟨rfl, hz, hb⟩
  lo := fun c hc => by
    have hc' : c = b := hc
    subst hc'; exact ⟨rfl, hb⟩

/-! ### the world as a letter -/
def RowL : List (Nat × Nat × Array Value) → World → Prop
  | [], _ => True
  | (g, t, cs) :: L, w => Row w g t cs ∧ RowL L w
theorem RowL.keep {w w' : World} (hb : Below w.heap.size w w') : ∀ {L : List (Nat × Nat × Array Value)}, RowL L w → RowL L w'
  | [], _ => trivial
  | _ :: _, hr => ⟨hr.1.below hb hr.1.lt, hr.2.keep hb⟩
/-- what is known of a world: below it is as it was; these rows stand -/
def Mem (w : World) (L : List (Nat × Nat × Array Value)) (wc : World) : Prop := Below w.heap.size w wc ∧ RowL L wc
theorem Mem.keep {w wc w' : World} {L : List (Nat × Nat × Array Value)} (h : Mem w L wc) (hb : Below wc.heap.size wc w') : Mem w L w' := ⟨h.1.trans (hb.mono h.1.size), h.2.keep hb⟩
theorem Mem.drew {w wc : World} {L : List (Nat × Nat × Array Value)} (h : Mem w L wc) : Mem w L wc.drew := h.keep ((Below.refl _ _).drew)
theorem Mem.tr {w wc w' : World} {L : List (Nat × Nat × Array Value)} (h : Mem w L wc) (hb : Tr None_ wc w') : Mem w L w' := h.keep hb.below
theorem wp_abs {P : Program} {Q : Exit → Act → World → Prop} {a : Act} {W : World} {c : Code} (Fa : World → Prop) (h : Fa W) (k : ∀ W0, Fa W0 → c.wp P Q a W0) : c.wp P Q a W := k W h

/-- the first statement of two, walked by itself to one frame and world -/
theorem wp_seq_eq {P : Program} {Q : Exit → Act → World → Prop} {a a1 : Act} {w W1 : World} {A B : Code} (h1 : ∀ J : Act → World → Prop, J a1 W1 → A.wp P (Exit.then J Q) a w) (h2 : B.wp P Q a1 W1) : (A.seq B).wp P Q a w := wp_seq (h1 _ h2)

/-! ### the steps -/
section
variable {P : Program} {ops : Array Oper} {md : Region.Mode} {sh : List Sh} {M : Nat → Mean} {Z : Nat → Prop} {w1 : World} {Q : Ghost → Act → Prop} {k : Nat} {o : Oper} {rest : List Oper} {g : Ghost} {a : Act}

def gives (v : Value) (w : World) : Result Next → Prop
  | .ok (.value u) w' => u = v ∧ w' = w
  | _ => False
theorem gives_eq {v : Value} {w : World} {r : Result Next} (h : gives v w r) : r = .ok (.value v) w := by
  cases r with
  | ok n w' =>
    cases n <;> simp only [gives] at h
    obtain ⟨rfl, rfl⟩ := h
    rfl
  | halt x w' => simp only [gives] at h
/-- an operation that is not listed, in every world of the kind -/
def kOut (P : Program) (w1 : World) (X : Nat → Prop) (o : Oper) (a : Act) (v : Value) : Prop := ∀ w, Tr X w1 w → gives v w ((execOp a.eval o).run P w)
theorem xu_full {b : Nat} (hf : fullB md ops sh k = true) (h : XU ops md sh M k b) : False := by
  obtain ⟨s, hs, hx, hp, _⟩ := h
  have := List.all_eq_true.1 hf s hs
  rw [hx] at this
  exact hp (by simpa using this)
/-- the listed operations that may change old blocks and are not bound behind operation k -/
def xuOf (md : Region.Mode) (ops : Array Oper) (sh : List Sh) (k : Nat) : List Nat := (sh.filter fun s => s.x && !(pre md ops s.i).contains k).map (·.i)
theorem xu_list {b : Nat} {l : List Nat} (hl : xuOf md ops sh k = l) (h : XU ops md sh M k b) : ∃ i ∈ l, (M i).Xo b := by
  obtain ⟨s, hs, hx, hp, hb⟩ := h
  refine ⟨s.i, ?_, hb⟩
  subst hl
  exact List.mem_map.2 ⟨s, List.mem_filter.2 ⟨hs, by simp [hx, hp]⟩, rfl⟩
theorem stepK (h0 : spOf sh k = none) (hf : fullB md ops sh k = true)
    (h : ∀ K : Ghost → Act → Prop, (∀ g a, wpS P ops md sh M Z w1 Q (k + 1) rest g a → K g a) → if Region.wanted o (yielded ops a.tmps) then ∃ v, kOut P w1 None_ o a v ∧ K (gput g k ⟨v, 0, 0⟩) (a.put o.dst v) else K (gput g k ⟨undef, 0, 0⟩) (a.put o.dst undef)) :
    wpS P ops md sh M Z w1 Q k (o :: rest) g a := by
  have hh := h _ (fun _ _ h => h)
  unfold wpS
  simp only [h0]
  split at hh
  · rename_i hw
    obtain ⟨v, h1, h2⟩ := hh
    refine ⟨v, .inl ⟨hw, fun w hk => gives_eq (h1 w ?_)⟩, h2⟩
    exact hk.1.mono fun b _ hb => (xu_full hf hb).elim
  · rename_i hw
    exact ⟨undef, .inr ⟨by simpa using hw, rfl⟩, hh⟩
theorem stepKz (h0 : spOf sh k = none)
    (h : ∀ K : Ghost → Act → Prop, (∀ g a, wpS P ops md sh M Z w1 Q (k + 1) rest g a → K g a) → if Region.wanted o (yielded ops a.tmps) then ∃ v, kOut P w1 Z o a v ∧ K (gput g k ⟨v, 0, 0⟩) (a.put o.dst v) else K (gput g k ⟨undef, 0, 0⟩) (a.put o.dst undef)) :
    wpS P ops md sh M Z w1 Q k (o :: rest) g a := by
  have hh := h _ (fun _ _ h => h)
  unfold wpS
  simp only [h0]
  split at hh
  · rename_i hw
    obtain ⟨v, h1, h2⟩ := hh
    exact ⟨v, .inl ⟨hw, fun w hk => gives_eq (h1 w hk.2)⟩, h2⟩
  · rename_i hw
    exact ⟨undef, .inr ⟨by simpa using hw, rfl⟩, hh⟩

def sOut (P : Program) (w1 : World) (sh : List Sh) (M : Nat → Mean) (X : Nat → Prop) (o : Oper) (a : Act) (s : Sh) (g : Ghost) : Prop :=
  ∀ w, Tr X w1 w → GOk sh w1 (· ∈ s.D) g w.heap.size → (∀ k ∈ s.use, (M k).F g w) → sUpon P (Left M s g w) ((execOp a.eval o).run P w)
theorem stepS (s : Sh) (h0 : spOf sh k = some s) (hf : fullB md ops sh k = true)
    (h : ∀ K : Ghost → Act → Prop, (∀ g a, wpS P ops md sh M Z w1 Q (k + 1) rest g a → K g a) → Region.wanted o (yielded ops a.tmps) = true ∧ sOut P w1 sh M None_ o a s g ∧ ∀ x : GV, w1.heap.size ≤ x.lo → x.lo ≤ x.hi → (M k).V g x → K (gput g k x) (a.put o.dst x.v)) :
    wpS P ops md sh M Z w1 Q k (o :: rest) g a := by
  have hh := h _ (fun _ _ h => h)
  unfold wpS
  simp only [h0]
  refine ⟨⟨hh.1, fun w hk => hh.2.1 w ?_⟩, hh.2.2⟩
  rw [(spOf_spec h0).2] at hk
  exact hk.1.mono fun b _ hb => (xu_full hf hb).elim
theorem stepSz (s : Sh) (h0 : spOf sh k = some s)
    (h : ∀ K : Ghost → Act → Prop, (∀ g a, wpS P ops md sh M Z w1 Q (k + 1) rest g a → K g a) → Region.wanted o (yielded ops a.tmps) = true ∧ sOut P w1 sh M Z o a s g ∧ ∀ x : GV, w1.heap.size ≤ x.lo → x.lo ≤ x.hi → (M k).V g x → K (gput g k x) (a.put o.dst x.v)) :
    wpS P ops md sh M Z w1 Q k (o :: rest) g a := by
  have hh := h _ (fun _ _ h => h)
  unfold wpS
  simp only [h0]
  exact ⟨⟨hh.1, fun w hk => hh.2.1 w hk.2⟩, hh.2.2⟩
/-- a listed operation behind some that changed old blocks -/
theorem stepSx (s : Sh) (l : List Nat) (X : Nat → Prop) (h0 : spOf sh k = some s) (hl : xuOf md ops sh k = l) (hX : ∀ i ∈ l, ∀ b, (M i).Xo b → X b)
    (h : ∀ K : Ghost → Act → Prop, (∀ g a, wpS P ops md sh M Z w1 Q (k + 1) rest g a → K g a) → Region.wanted o (yielded ops a.tmps) = true ∧ sOut P w1 sh M X o a s g ∧ ∀ x : GV, w1.heap.size ≤ x.lo → x.lo ≤ x.hi → (M k).V g x → K (gput g k x) (a.put o.dst x.v)) :
    wpS P ops md sh M Z w1 Q k (o :: rest) g a := by
  have hh := h _ (fun _ _ h => h)
  unfold wpS
  simp only [h0]
  refine ⟨⟨hh.1, fun w hk => hh.2.1 w ?_⟩, hh.2.2⟩
  rw [(spOf_spec h0).2] at hk
  exact hk.1.mono fun b _ hb => by
    obtain ⟨i, hi, hx⟩ := xu_list hl hb
    exact hX i hi b hx
theorem stepKx (l : List Nat) (X : Nat → Prop) (h0 : spOf sh k = none) (hl : xuOf md ops sh k = l) (hX : ∀ i ∈ l, ∀ b, (M i).Xo b → X b)
    (h : ∀ K : Ghost → Act → Prop, (∀ g a, wpS P ops md sh M Z w1 Q (k + 1) rest g a → K g a) → if Region.wanted o (yielded ops a.tmps) then ∃ v, kOut P w1 X o a v ∧ K (gput g k ⟨v, 0, 0⟩) (a.put o.dst v) else K (gput g k ⟨undef, 0, 0⟩) (a.put o.dst undef)) :
    wpS P ops md sh M Z w1 Q k (o :: rest) g a := by
  have hh := h _ (fun _ _ h => h)
  unfold wpS
  simp only [h0]
  split at hh
  · rename_i hw
    obtain ⟨v, h1, h2⟩ := hh
    refine ⟨v, .inl ⟨hw, fun w hk => gives_eq (h1 w (hk.1.mono fun b _ hb => ?_))⟩, h2⟩
    obtain ⟨i, hi, hx⟩ := xu_list hl hb
    exact hX i hi b hx
  · rename_i hw
    exact ⟨undef, .inr ⟨by simpa using hw, rfl⟩, hh⟩
theorem stepN (h : Q g a) : wpS P ops md sh M Z w1 Q k [] g a := h
theorem upon_value {V : Value → World → Prop} {u : Value} {w : World} (h : V u w) : sUpon P V (.ok (.value u) w) := h
theorem upon_skip {V : Value → World → Prop} {w : World} (h : V undef w) : sUpon P V (.ok .skip w) := h
theorem upon_enter {V : Value → World → Prop} {f : FuncId} {args : Array Value} {w : World} (h : Calls P f args w (fun e w' => ∃ v, e = .returned v ∧ V v w')) : sUpon P V (.ok (.enter f args) w) := h
theorem gput_self (g : Ghost) (i : Nat) (x : GV) : gput g i x i = x := by simp [gput]

/-- what a call leaves -/
theorem left_F {l : List Sp} {i : Nat} {D use kill : List Nat} {p : GV → Prop} {f : GV → World → Prop} {s : Sh} (hl : look6 l s.i = (sF i D use kill p f).2) (hs : s = (sF i D use kill p f).1) {g : Ghost} {w w' : World} {v : Value}
    (hb : Below w.heap.size w w') (hp : p ⟨v, w.heap.size, w'.heap.size⟩) (hf : f ⟨v, w.heap.size, w'.heap.size⟩ w') : Left (look6 l) s g w v w' := by
  unfold Left
  rw [hl]
  subst hs
  exact ⟨hp, Tr.of hb, by show f (gput g i _ i) w'; rw [gput_self]; exact hf⟩
theorem left_G {l : List Sp} {i : Nat} {D use kill : List Nat} {p : GV → Prop} {f : GV → World → Prop} {s : Sh} (hl : look6 l s.i = (sG i D use kill p f).2) (hs : s = (sG i D use kill p f).1) {g : Ghost} {w w' : World} {v : Value}
    (hb : Below w.heap.size w w') (hp : p ⟨v, w.heap.size, w'.heap.size⟩) (hf : f ⟨v, w.heap.size, w'.heap.size⟩ w') : Left (look6 l) s g w v w' := by
  unfold Left
  rw [hl]
  subst hs
  exact ⟨hp, Tr.of hb, by show f (gput g i _ i) w'; rw [gput_self]; exact hf⟩
theorem left_V {l : List Sp} {i : Nat} {D use : List Nat} {p : Value → Prop} {s : Sh} (hl : look6 l s.i = (sV i D use p).2) {g : Ghost} {w w' : World} {v : Value}
    (hb : Below w.heap.size w w') (hp : p v) : Left (look6 l) s g w v w' := by
  unfold Left
  rw [hl]
  exact ⟨hp, Tr.of hb, trivial⟩
theorem left_A {l : List Sp} {i t : Nat} {kill : List Nat} {cs : Array Value} {s : Sh} (hl : look6 l s.i = (sA i t kill cs).2) (hs : s = (sA i t kill cs).1) {g : Ghost} {w : World} : Left (look6 l) s g w (.pointer (some ⟨w.heap.size, 0, none⟩)) (w.alloc (.cells cs t)) := by
  unfold Left
  rw [hl]
  subst hs
  refine ⟨⟨rfl, by simp⟩, Tr.of ((Below.refl _ _).alloc (Nat.le_refl _) _), ?_⟩
  show (gput g i _ i).hi = (gput g i _ i).lo + 1 ∧ Row _ (gput g i _ i).lo t cs
  rw [gput_self]
  exact ⟨by simp, Row.new_at rfl⟩
theorem left_T {l : List Sp} {i k t : Nat} {D : List Nat} {cells : Ghost → Array Value} {s : Sh} (hl : look6 l s.i = (sT i k t D cells).2) (hs : s = (sT i k t D cells).1) (hik : i ∉ k :: D) (hc : ∀ g g', (∀ x ∈ D, g' x = g x) → cells g' = cells g) {g : Ghost} {w w' : World}
    (hh : (g k).hi = (g k).lo + 1) (hb : ∀ b, b ≠ (g k).lo → w'.heap[b]? = w.heap[b]?) (ho : w'.os = w.os) (ht : w'.tape = w.tape) (hu : w'.output = w.output) (hz : w'.heap.size = w.heap.size) (hr : Row w' (g k).lo t (cells g)) : Left (look6 l) s g w undef w' := by
  unfold Left
  rw [hl]
  subst hs
  simp only [List.mem_cons, not_or] at hik
  refine ⟨rfl, ⟨ho, ht, hu, by omega, fun b _ hx => hb b fun e => hx (.inr ⟨k, by simp [sT], by omega, by omega⟩)⟩, ?_⟩
  show (gput g i _ k).hi = (gput g i _ k).lo + 1 ∧ Row _ (gput g i _ k).lo t (cells (gput g i _))
  rw [gput_ne (Ne.symm hik.1), hc g _ fun x hx => gput_ne (fun e : x = i => hik.2 (by rw [← e]; exact hx))]
  exact ⟨hh, hr⟩
theorem left_O {l : List Sp} {i b t : Nat} {D : List Nat} {cells : Ghost → Array Value} {s : Sh} (hl : look6 l s.i = (sO i b t D cells).2) (hs : s = (sO i b t D cells).1) (hik : i ∉ D) (hc : ∀ g g', (∀ x ∈ D, g' x = g x) → cells g' = cells g) {g : Ghost} {w w' : World}
    (hb : ∀ c, c ≠ b → w'.heap[c]? = w.heap[c]?) (ho : w'.os = w.os) (ht : w'.tape = w.tape) (hu : w'.output = w.output) (hz : w'.heap.size = w.heap.size) (hr : Row w' b t (cells g)) : Left (look6 l) s g w undef w' := by
  unfold Left
  rw [hl]
  subst hs
  refine ⟨rfl, ⟨ho, ht, hu, by omega, fun c _ hx => hb c fun e => hx (.inl (by rw [hl]; exact e))⟩, ?_⟩
  show Row _ b t (cells (gput g i _))
  rw [hc g _ fun x hx => gput_ne (fun e : x = i => hik (by rw [← e]; exact hx))]
  exact hr

/-! ### operations on whole rows -/
theorem heap_setRow_ne {w : World} {g b : Nat} {cs : Array Value} (h : b ≠ g) : (w.setRow g cs).heap[b]? = w.heap[b]? := by
  simp only [World.setRow, Array.getElem?_modify]
  rw [if_neg (fun e => h e.symm)]
theorem row_setRow {w : World} {g t : Nat} {cs old : Array Value} (h : Row w g t old) : Row (w.setRow g cs) g t cs := by
  unfold Row at h ⊢
  simp [World.setRow, Array.getElem?_modify, h]
theorem kLoad {X : Nat → Prop} {ty : TypeId} {x : Operand} {b t n : Nat} {cs : Array Value} (ho : o.op = .load ty x) (hx : a.eval x = .pointer (some ⟨b, 0, none⟩)) (T : AggT P ty n) (hr : Row w1 b t cs) (hs : cs.size = n) (hX : ¬ X b) : kOut P w1 X o a (.agg cs) := by
  intro w hw
  have h := T.load (w := w) (Row.tr hr hw hX) hs
  unfold execOp
  simp only [ho, hx, Instr.loadAt, Instr.sureAddr, Sem.run_bind, Sem.run_pure, Result.andThen_ok, h]
  exact ⟨rfl, rfl⟩
/-- a part of a row -/
theorem kLoadMid {X : Nat → Prop} {ty : TypeId} {x : Operand} {b off t n : Nat} {cs cs' : Array Value} (ho : o.op = .load ty x) (hx : a.eval x = .pointer (some ⟨b, off, none⟩)) (T : AggT P ty n) (hr : Row w1 b t cs) (hsub : ∀ j v, cs'[j]? = some v → cs[off + j]? = some v) (hs : cs'.size = n) (hX : ¬ X b) : kOut P w1 X o a (.agg cs') := by
  intro w hw
  have hr' := Row.tr hr hw hX
  obtain ⟨⟨d, hu, hd⟩, hi⟩ := T
  have hc : w.rangeAt b off cs'.toList := fun j v hv => by rw [hr'.cell]; exact hsub j v (by simpa using hv)
  have h := run_loadAt_mid (P := P) w b off ty cs'.toList d hc hu (by cases d <;> first | rfl | exact Bool.noConfusion hd) (by rw [hi, ← hs]; simp)
  unfold execOp
  simp only [ho, hx, Sem.run_bind, Sem.run_pure, Result.andThen_ok, h]
  exact ⟨by simp, rfl⟩
theorem sLoad {ty : TypeId} {x : Operand} {b t n : Nat} {cs : Array Value} {V : Value → World → Prop} {w : World} (ho : o.op = .load ty x) (hx : a.eval x = .pointer (some ⟨b, 0, none⟩)) (T : AggT P ty n) (hr : Row w b t cs) (hs : cs.size = n) (h : V (.agg cs) w) : sUpon P V ((execOp a.eval o).run P w) := by
  have h' := T.load (w := w) hr hs
  unfold execOp
  simp only [ho, hx, Instr.loadAt, Instr.sureAddr, Sem.run_bind, Sem.run_pure, Result.andThen_ok, h']
  exact h
theorem run_store_row {ty : TypeId} {x y : Operand} {b t : Nat} {old cells : Array Value} {w : World} (ho : o.op = .store ty x y) (hx : a.eval x = .pointer (some ⟨b, 0, none⟩)) (hy : a.eval y = .agg cells) (hr : Row w b t old)
    (hi : (P.info? ty).map (·.size) = some cells.size) (hold : old.size = cells.size) (h1 : cells.all (·.oneCell') = true) : (execOp a.eval o).run P w = .ok .skip (w.setRow b cells) := by
  unfold execOp
  simp only [ho, hx, hy, Instr.storeAt, Instr.sureAddr, Sem.run_bind, Sem.run_pure, Result.andThen_ok, run_storeVar_row w b t ty old cells hr hi hold h1]
/-- a store into a block that operation k made -/
theorem sStoreT {X : Nat → Prop} {l : List Sp} {i k' t : Nat} {D : List Nat} {kill : List Nat} {old : Array Value} {cells : Ghost → Array Value} {cs : Array Value} {s : Sh} (hl : look6 l s.i = (sT i k' t D cells).2) (hs : s = (sT i k' t D cells).1) (hk : look6 l k' = (sA k' t kill old).2)
    {ty : TypeId} {x y : Operand} (ho : o.op = .store ty x y) (hx : a.eval x = .pointer (some ⟨(g k').lo, 0, none⟩)) (hy : a.eval y = .agg cs) (hcs : cells g = cs)
    (hi : (P.info? ty).map (·.size) = some cs.size) (hold : old.size = cs.size) (h1 : cs.all (·.oneCell') = true) (hik : i ∉ k' :: D) (hc : ∀ g g', (∀ x ∈ D, g' x = g x) → cells g' = cells g) :
    sOut P w1 sh (look6 l) X o a s g := by
  subst hcs
  intro w hT hg hu
  have hf := hu k' (by subst hs; simp [sT])
  rw [hk] at hf
  obtain ⟨h2, h3⟩ : (g k').hi = (g k').lo + 1 ∧ Row w (g k').lo t old := hf
  rw [run_store_row ho hx hy h3 hi hold h1]
  exact left_T hl hs hik hc h2 (fun b hb => heap_setRow_ne hb) rfl rfl rfl (by simp) (row_setRow h3)
/-- a store into an old block -/
theorem sStoreO {X : Nat → Prop} {l : List Sp} {i b t : Nat} {D : List Nat} {old : Array Value} {cells : Ghost → Array Value} {cs : Array Value} {s : Sh} (hl : look6 l s.i = (sO i b t D cells).2) (hs : s = (sO i b t D cells).1)
    {ty : TypeId} {x y : Operand} (ho : o.op = .store ty x y) (hx : a.eval x = .pointer (some ⟨b, 0, none⟩)) (hy : a.eval y = .agg cs) (hcs : cells g = cs) (hr : Row w1 b t old) (hX : ¬ X b)
    (hi : (P.info? ty).map (·.size) = some cs.size) (hold : old.size = cs.size) (h1 : cs.all (·.oneCell') = true) (hik : i ∉ D) (hc : ∀ g g', (∀ x ∈ D, g' x = g x) → cells g' = cells g) :
    sOut P w1 sh (look6 l) X o a s g := by
  subst hcs
  intro w hT hg hu
  rw [run_store_row ho hx hy (Row.tr hr hT hX) hi hold h1]
  exact left_O hl hs hik hc (fun b hb => heap_setRow_ne hb) rfl rfl rfl (by simp) (row_setRow (Row.tr hr hT hX))
end
end Go.Proofs.Ytpdenhmkpiafiaa.K6
