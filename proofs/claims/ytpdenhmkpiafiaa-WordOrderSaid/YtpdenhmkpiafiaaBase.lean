/-
  WORDS FOR ALL TEXTS OF THIS SEAT: a block of words in memory ('Row'), what a function gives for a prefix of it ('psum'), four words that are a number ('IsW'). No function of the program is named here.
-/
import Derived.WalkKit
import Derived.Lib.Hide
import Derived.Deep.Draws
namespace Go.Proofs.Ytpdenhmkpiafiaa
open Go Go.RowKit

/-! ### a block of memory that is known whole -/
def Row (w : World) (g t : Nat) (cs : Array Value) : Prop := w.heap[g]? = some (.cells cs t (0, 0))

section
variable {w w' : World} {g t : Nat} {cs : Array Value}
theorem Row.lt (h : Row w g t cs) : g < w.heap.size := by
  rcases Nat.lt_or_ge g w.heap.size with hlt | hge
  · exact hlt
  · unfold Row at h; rw [Array.getElem?_eq_none hge] at h; cases h
theorem Row.cell (h : Row w g t cs) (i : Nat) : w.cell? ⟨g, i, none⟩ = cs[i]? := cell_of_row w g i cs t (0, 0) h
theorem Row.frozen (h : Row w g t cs) (i : Nat) : w.frozen? ⟨g, i, none⟩ = false := by
  unfold Row at h
  simp [World.frozen?, h]
theorem Row.new_at (hg : w.heap.size = g) : Row (w.alloc (.cells cs t)) g t cs := by subst hg; exact heap_alloc_new w _
theorem Row.alloc (h : Row w g t cs) (o : Obj) : Row (w.alloc o) g t cs := (Below.heap_alloc w o g h.lt).trans h
theorem Row.drew (h : Row w g t cs) : Row w.drew g t cs := h
theorem Row.drewN (h : Row w g t cs) (n : Nat) : Row (w.drewN n) g t cs := h
theorem belowDN {B : Nat} {a w : World} (h : Below B a w) (n : Nat) : Below B a (w.drewN n) := ⟨h.os, h.tape, h.output, h.size, h.block⟩
theorem Row.far (h : Row w g t cs) {p : Addr} (hp : g ≠ p.block) (u : Value) : Row (w.setCell p u) g t cs := (Below.heap_setCell w p u g hp).trans h
theorem Row.set (h : Row w g t cs) (i : Nat) (u : Value) : Row (w.setCell ⟨g, i, none⟩ u) g t (cs.setIfInBounds i u) := by
  unfold Row at h ⊢
  simp [World.setCell, Array.getElem?_modify, h]
theorem Row.below {B : Nat} (h : Row w g t cs) (hb : Below B w w') (hg : g < B) : Row w' g t cs := (hb.block g hg).trans h
theorem Row.congr {cs' : Array Value} (h : Row w g t cs) (e : cs = cs') : Row w g t cs' := e ▸ h
end

theorem Row.store4 {w : World} {g t : Nat} {cs : Array Value} (h : Row w g t cs) (hs : cs.size = 4) (v0 v1 v2 v3 : Value) :
    Row ((((w.setCell ⟨g, 0, none⟩ v0).setCell ⟨g, 1, none⟩ v1).setCell ⟨g, 2, none⟩ v2).setCell ⟨g, 3, none⟩ v3) g t #[v0, v1, v2, v3] := by
  refine ((((h.set 0 v0).set 1 v1).set 2 v2).set 3 v3).congr ?_
  obtain ⟨l⟩ := cs
  match l, hs with
  | [a, b, c, d], _ => rfl

theorem bcell {B : Nat} {w w1 : World} (hb : Below B w w1) : (∀ b o, b < B → w1.cell? ⟨b, o, none⟩ = w.cell? ⟨b, o, none⟩) ∧ (∀ b o, b < B → w1.frozen? ⟨b, o, none⟩ = w.frozen? ⟨b, o, none⟩) :=
  ⟨fun b o h => hb.cell (p := ⟨b, o, none⟩) h, fun b o h => hb.frozen (p := ⟨b, o, none⟩) h⟩

/-- WHAT IS KNOWN OF THE MEMORY BEHIND SOME STEPS: below the call's own blocks it is as it was; these rows stand. Behind a name: nothing of it is a rule for the walk. -/
def Kept (w : World) (L : List (Nat × Nat × Array Value)) (wc : World) : Prop := Below w.heap.size w wc ∧ ∀ x ∈ L, Row wc x.1 x.2.1 x.2.2
theorem Kept.step {w wc w' : World} {L : List (Nat × Nat × Array Value)} {B : Nat} (h : Kept w L wc) (hb : Below B wc w') (hB : wc.heap.size ≤ B) : Kept w L w' :=
  ⟨h.1.trans (hb.mono (Nat.le_trans h.1.size hB)), fun x hx => (h.2 x hx).below hb (Nat.lt_of_lt_of_le (h.2 x hx).lt hB)⟩
theorem Kept.one {w wc : World} (h : Below w.heap.size w wc) : Kept w [] wc := ⟨h, fun _ hx => by simp at hx⟩
theorem Kept.more {w wc : World} {L : List (Nat × Nat × Array Value)} (h : Kept w L wc) {g t : Nat} {cs : Array Value} (hr : Row wc g t cs) : Kept w ((g, t, cs) :: L) wc :=
  ⟨h.1, fun x hx => by
    rcases List.mem_cons.1 hx with e | hx
    · rw [e]; exact hr
    · exact h.2 x hx⟩
theorem Kept.head {w wc : World} {L : List (Nat × Nat × Array Value)} {g t : Nat} {cs : Array Value} (h : Kept w ((g, t, cs) :: L) wc) : Row wc g t cs := h.2 (g, t, cs) (List.mem_cons_self ..)
theorem Kept.tail {w wc : World} {L : List (Nat × Nat × Array Value)} {x : Nat × Nat × Array Value} (h : Kept w (x :: L) wc) : Kept w L wc := ⟨h.1, fun y hy => h.2 y (List.mem_cons_of_mem _ hy)⟩
theorem Kept.drew {w wc : World} {L : List (Nat × Nat × Array Value)} (h : Kept w L wc) : Kept w L wc.drew := ⟨h.1.drew, h.2⟩

/-! ### results that lie in memory -/
def aggB : TypeDesc → Bool
  | .struct _ => true
  | .array _ _ => true
  | _ => false
def AggT (P : Program) (ty n : Nat) : Prop := (∃ d, P.underlying ty = some d ∧ aggB d = true) ∧ (P.info? ty).map (·.size) = some n
section
variable {P : Program} {w : World} {g t ty ty' g' t' n n' : Nat} {cs cs' : Array Value} {tmps : Array Value} {fn : Func} {p p' q : Tmp}
theorem AggT.load (T : AggT P ty n) (hr : Row w g t cs) (hs : cs.size = n) : (loadVar ty ⟨g, 0, none⟩).run P w = .ok (.agg cs) w := by
  subst hs
  obtain ⟨⟨d, hu, hd⟩, hi⟩ := T
  cases d
  case struct => exact run_loadVar_row w g t ty cs (0, 0) _ hr hu rfl hi
  case array => exact run_loadVar_row w g t ty cs (0, 0) _ hr hu rfl hi
  all_goals exact Bool.noConfusion hd
theorem results_c (h : fn.results = #[.cell p ty]) (T : AggT P ty n) (hp : tmps.getD p undef = .pointer (some ⟨g, 0, none⟩)) (hr : Row w g t cs) (hs : cs.size = n) :
    (results fn tmps).run P w = .ok (.agg cs) w := by
  have hp' : tmps[p]?.getD undef = .pointer (some ⟨g, 0, none⟩) := by simpa using hp
  simp [results, h, hp', asAddr, T.load hr hs]
theorem results_ct (h : fn.results = #[.cell p ty, .tmp q]) (T : AggT P ty n) (hp : tmps.getD p undef = .pointer (some ⟨g, 0, none⟩)) (hr : Row w g t cs) (hs : cs.size = n) :
    (results fn tmps).run P w = .ok (.tuple #[.agg cs, tmps.getD q undef]) w := by
  have hp' : tmps[p]?.getD undef = .pointer (some ⟨g, 0, none⟩) := by simpa using hp
  simp [results, h, hp', asAddr, T.load hr hs]
theorem results_cct (h : fn.results = #[.cell p ty, .cell p' ty', .tmp q]) (T : AggT P ty n) (T' : AggT P ty' n') (hp : tmps.getD p undef = .pointer (some ⟨g, 0, none⟩)) (hp2 : tmps.getD p' undef = .pointer (some ⟨g', 0, none⟩)) (hr : Row w g t cs) (hr' : Row w g' t' cs') (hs : cs.size = n) (hs' : cs'.size = n') :
    (results fn tmps).run P w = .ok (.tuple #[.agg cs, .agg cs', tmps.getD q undef]) w := by
  have hp' : tmps[p]?.getD undef = .pointer (some ⟨g, 0, none⟩) := by simpa using hp
  have hp2' : tmps[p']?.getD undef = .pointer (some ⟨g', 0, none⟩) := by simpa using hp2
  simp [results, h, hp', hp2', asAddr, T.load hr hs, T'.load hr' hs']
end

/-! ### a row of numbers of one kind, by a function -/
def arr (k : IntKind) (f : Nat → Int) (L : Nat) : Array Value := ((List.range L).map fun i => Value.int k (f i)).toArray
def upd (f : Nat → Int) (i : Nat) (x : Int) : Nat → Int := fun j => if j = i then x else f j
theorem upd_same (f : Nat → Int) (i : Nat) (x : Int) : upd f i x i = x := by simp [upd]
theorem upd_ne (f : Nat → Int) (i j : Nat) (x : Int) (h : j ≠ i) : upd f i x j = f j := by simp [upd, h]
theorem arr_get (k : IntKind) (f : Nat → Int) (L i : Nat) (h : i < L) : (arr k f L)[i]? = some (.int k (f i)) := by simp [arr, h]
theorem arr_size (k : IntKind) (f : Nat → Int) (L : Nat) : (arr k f L).size = L := by simp [arr]
theorem arr_set (k : IntKind) (f : Nat → Int) (L i : Nat) (x : Int) (h : i < L) : (arr k f L).setIfInBounds i (.int k x) = arr k (upd f i x) L := by
  apply Array.ext
  · simp [arr]
  · intro j h1 h2
    have hj : j < L := by simpa [arr] using h2
    by_cases e : j = i
    · subst e; simp [arr, upd]
    · simp [arr, upd, e, Ne.symm e]
theorem Row.at_ {w : World} {g t L : Nat} {k : IntKind} {f : Nat → Int} (h : Row w g t (arr k f L)) (i : Nat) (hi : i < L) : w.cell? ⟨g, i, none⟩ = some (.int k (f i)) := by
  rw [h.cell, arr_get _ _ _ _ hi]
theorem Row.put {w : World} {g t L : Nat} {k : IntKind} {f : Nat → Int} (h : Row w g t (arr k f L)) (i : Nat) (hi : i < L) (x : Int) : Row (w.setCell ⟨g, i, none⟩ (.int k x)) g t (arr k (upd f i x) L) :=
  (h.set i _).congr (arr_set k f L i x hi)
def sel4 (x0 x1 x2 x3 : Int) : Nat → Int := fun i => if i = 0 then x0 else if i = 1 then x1 else if i = 2 then x2 else x3
theorem arr_sel4 (k : IntKind) (x0 x1 x2 x3 : Int) : #[Value.int k x0, Value.int k x1, Value.int k x2, Value.int k x3] = arr k (sel4 x0 x1 x2 x3) 4 := rfl
theorem arr4 (k : IntKind) (f : Nat → Int) : arr k f 4 = #[Value.int k (f 0), Value.int k (f 1), Value.int k (f 2), Value.int k (f 3)] := rfl

/-! ### the number that a row of words is -/
def W : Int := 18446744073709551616
def psum (f : Nat → Int) : Nat → Int
  | 0 => 0
  | n + 1 => psum f n + f n * W ^ n
theorem psum_congr {f g : Nat → Int} : ∀ {n : Nat}, (∀ i, i < n → f i = g i) → psum f n = psum g n
  | 0, _ => rfl
  | n + 1, h => by
    unfold psum
    rw [psum_congr fun i hi => h i (by omega), h n (by omega)]
theorem psum_upd_ge (f : Nat → Int) (i : Nat) (x : Int) {n : Nat} (h : n ≤ i) : psum (upd f i x) n = psum f n :=
  psum_congr fun j hj => upd_ne _ _ _ _ (by omega)
/-- every cell is a word -/
def Wordy (f : Nat → Int) : Prop := ∀ i, 0 ≤ f i ∧ f i < W
theorem Wordy.upd {f : Nat → Int} (h : Wordy f) (i : Nat) {x : Int} (hx : 0 ≤ x ∧ x < W) : Wordy (upd f i x) := fun j => by
  by_cases e : j = i
  · rw [e, upd_same]; exact hx
  · rw [upd_ne _ _ _ _ e]; exact h j
theorem wordy_zero : Wordy fun _ => 0 := fun _ => ⟨Int.le_refl _, by show (0 : Int) < W; unfold W; decide⟩
theorem W_pos : (0 : Int) < W := by unfold W; omega
theorem Wpow_pos (n : Nat) : (0 : Int) < W ^ n := Int.pow_pos W_pos
theorem psum_bd {f : Nat → Int} (h : Wordy f) : ∀ n, 0 ≤ psum f n ∧ psum f n < W ^ n
  | 0 => ⟨Int.le_refl _, by simp [psum]⟩
  | n + 1 => by
    have ih := psum_bd h n
    have hn := h n
    have hp := Wpow_pos n
    unfold psum
    rw [Int.pow_succ]
    have h1 : 0 ≤ f n * W ^ n := Int.mul_nonneg hn.1 (by omega)
    have h2 : f n * W ^ n ≤ (W - 1) * W ^ n := Int.mul_le_mul_of_nonneg_right (by omega) (by omega)
    have h3 : (W - 1) * W ^ n = W ^ n * W - W ^ n := by rw [Int.sub_mul, Int.one_mul, Int.mul_comm]
    omega
theorem psum_zero : ∀ n, psum (fun _ => 0) n = 0
  | 0 => rfl
  | n + 1 => by unfold psum; rw [psum_zero n]; simp

/-- four words that are the number n -/
structure IsW (x0 x1 x2 x3 : Int) (n : Nat) : Prop where
  wordy : Wordy (sel4 x0 x1 x2 x3)
  val : (n : Int) = psum (sel4 x0 x1 x2 x3) 4
theorem Wordy.four {f : Nat → Int} (h : Wordy f) : Wordy (sel4 (f 0) (f 1) (f 2) (f 3)) := fun i => by
  unfold sel4; split
  · exact h 0
  · split
    · exact h 1
    · split
      · exact h 2
      · exact h 3
theorem psum_four (f : Nat → Int) : psum (sel4 (f 0) (f 1) (f 2) (f 3)) 4 = psum f 4 := by
  apply psum_congr
  intro i hi
  have : i = 0 ∨ i = 1 ∨ i = 2 ∨ i = 3 := by omega
  rcases this with rfl | rfl | rfl | rfl <;> rfl
theorem IsW.of {f : Nat → Int} (h : Wordy f) {n : Nat} (hn : (n : Int) = psum f 4) : IsW (f 0) (f 1) (f 2) (f 3) n := ⟨h.four, by rw [psum_four]; exact hn⟩
theorem IsW.lt {x0 x1 x2 x3 : Int} {n : Nat} (h : IsW x0 x1 x2 x3 n) : (n : Int) < W ^ 4 := h.val ▸ (psum_bd h.wordy 4).2

end Go.Proofs.Ytpdenhmkpiafiaa
