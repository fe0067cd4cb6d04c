/-
  What the statement rests on, part 1: Head GA GC.
-/
import Derived.Test.YtpdenhmkpiafiaaRows
import Derived.WalkKit
import Derived.ProofKit
import Derived.OpenShut
import Derived.Lib.Hide
import Derived.Deep.Draws
import Derived.Test.YtpdenhmkpiafiaaProg
import Derived.WalkLawsBesides
import Derived.Deep.LoopGhost
import Derived.Deep.RegionWith
import Derived.Handy
import Derived.Deep.QuietTactic
import Derived.BigQuiet
import Derived.BigRegion
import Derived.ChangeKeysEq
import Derived.Deep.DeepCutAuto
namespace Go.Proofs.Ytpdenhmkpiafiaa
open Go Go.ChangeShapes Go.WideShapes Go.ChangeAt Go.RowKit
def w1 : List Nat := [104, 97, 114, 110, 101, 115, 115]
def w2 : List Nat := [49, 57, 55, 48, 53, 99, 97, 98, 51, 53, 49, 51, 56, 49, 54, 54, 50, 49, 49, 51, 55, 52, 98, 100, 55, 50, 56, 51, 98, 54, 56, 54, 97, 101, 48, 53, 53, 50, 98, 56, 52, 57, 56, 101, 56, 52, 48, 99, 55, 102, 53, 52, 57, 49, 57, 99, 50, 102, 53, 55, 50, 55, 57, 97]
def w3 : List Nat := [99, 117, 116]
def wr : List Nat := [97, 116, 32, 116, 97, 108, 108, 97, 103, 101, 47, 116, 97, 108, 108, 97, 103, 101, 108, 97, 119, 49, 52, 46, 69, 118, 101, 110, 116, 77, 97, 107, 101, 115, 32, 116, 97, 108, 108, 97, 103, 101, 47, 116, 97, 108, 108, 97, 103, 101, 108, 97, 119, 48, 52, 46, 79, 99, 116, 101, 116, 80, 117, 116, 115, 32, 116, 97, 108, 108, 97, 103, 101, 47, 116, 97, 108, 108, 97, 103, 101, 108, 97, 119, 48, 49, 46, 87, 111, 114, 100, 79, 114, 100, 101, 114, 32, 116, 97, 108, 108, 97, 103, 101, 47, 116, 97, 108, 108, 97, 103, 101, 108, 97, 119, 48, 49, 46, 87, 111, 114, 100, 82, 101, 99, 107, 111, 110, 115, 32, 116, 97, 108, 108, 97, 103, 101, 47, 116, 97, 108, 108, 97, 103, 101, 108, 97, 119, 48, 52, 46, 79, 99, 116, 101, 116, 79, 110, 99, 101, 32, 116, 97, 108, 108, 97, 103, 101, 47, 116, 97, 108, 108, 97, 103, 101, 108, 97, 119, 48, 52, 46, 79, 99, 116, 101, 116, 66, 97, 99, 107, 32, 116, 97, 108, 108, 97, 103, 101, 47, 116, 97, 108, 108, 97, 103, 101, 108, 97, 119, 48, 52, 46, 79, 99, 116, 101, 116, 71, 101, 116, 115, 32, 116, 97, 108, 108, 97, 103, 101, 47, 116, 97, 108, 108, 97, 103, 101, 108, 97, 119, 48, 52, 46, 79, 99, 116, 101, 116, 78, 111, 110, 101, 32, 116, 97, 108, 108, 97, 103, 101, 47, 116, 97, 108, 108, 97, 103, 101, 108, 97, 119, 49, 52, 46, 69, 118, 101, 110, 116, 70, 111, 114, 109, 115, 32, 116, 97, 108, 108, 97, 103, 101, 47, 116, 97, 108, 108, 97, 103, 101, 108, 97, 119, 48, 49, 46, 87, 111, 114, 100, 66, 97, 99, 107, 32, 116, 97, 108, 108, 97, 103, 101, 47, 116, 97, 108, 108, 97, 103, 101, 108, 97, 119, 48, 50, 46, 77, 117, 108, 100, 105, 118, 68, 105, 118, 105, 100, 101, 115, 32, 116, 97, 108, 108, 97, 103, 101, 47, 116, 97, 108, 108, 97, 103, 101, 108, 97, 119, 48, 50, 46, 77, 117, 108, 100, 105, 118, 81, 117, 111, 32, 116, 97, 108, 108, 97, 103, 101, 47, 116, 97, 108, 108, 97, 103, 101, 108, 97, 119, 48, 50, 46, 77, 117, 108, 100, 105, 118, 82, 111, 117, 110, 100, 115, 32, 116, 97, 108, 108, 97, 103, 101, 47, 116, 97, 108, 108, 97, 103, 101, 108, 97, 119, 48, 50, 46, 77, 117, 108, 100, 105, 118, 83, 99, 97, 108, 101, 115, 32, 116, 97, 108, 108, 97, 103, 101, 47, 116, 97, 108, 108, 97, 103, 101, 108, 97, 119, 48, 49, 46, 87, 111, 114, 100, 70, 111, 114, 109, 115, 32, 116, 97, 108, 108, 97, 103, 101, 47, 116, 97, 108, 108, 97, 103, 101, 108, 97, 119, 48, 51, 46, 87, 97, 100, 80, 97, 114, 116, 115, 32, 116, 97, 108, 108, 97, 103, 101, 47, 116, 97, 108, 108, 97, 103, 101, 108, 97, 119, 48, 51, 46, 87, 97, 100, 83, 116, 101, 112, 115, 32, 116, 97, 108, 108, 97, 103, 101, 47, 116, 97, 108, 108, 97, 103, 101, 108, 97, 119, 48, 51, 46, 87, 97, 100, 83, 99, 97, 108, 101, 115, 32, 116, 97, 108, 108, 97, 103, 101, 47, 116, 97, 108, 108, 97, 103, 101, 108, 97, 119, 49, 56, 46, 82, 97, 116, 101, 84, 101, 108, 108, 115, 32, 116, 97, 108, 108, 97, 103, 101, 47, 116, 97, 108, 108, 97, 103, 101, 108, 97, 119, 49, 56, 46, 82, 97, 116, 101, 83, 116, 97, 121, 115, 32, 116, 97, 108, 108, 97, 103, 101, 47, 116, 97, 108, 108, 97, 103, 101, 108, 97, 119, 49, 56, 46, 82, 97, 116, 101, 66, 97, 99, 107, 32, 116, 97, 108, 108, 97, 103, 101, 47, 116, 97, 108, 108, 97, 103, 101, 108, 97, 119, 48, 51, 46, 87, 97, 100, 82, 101, 99, 107, 111, 110, 115, 32, 116, 97, 108, 108, 97, 103, 101, 47, 116, 97, 108, 108, 97, 103, 101, 108, 97, 119, 49, 53, 46, 84, 120, 75, 105, 110, 100, 115, 32, 116, 97, 108, 108, 97, 103, 101, 47, 116, 97, 108, 108, 97, 103, 101, 108, 97, 119, 49, 53, 46, 84, 120, 70, 111, 114, 109, 115, 32, 116, 97, 108, 108, 97, 103, 101, 47, 116, 97, 108, 108, 97, 103, 101, 108, 97, 119, 49, 52, 46, 69, 118, 101, 110, 116, 82, 101, 97, 100, 115, 32, 116, 97, 108, 108, 97, 103, 101, 47, 116, 97, 108, 108, 97, 103, 101, 108, 97, 119, 50, 48, 46, 70, 97, 99, 116, 111, 114, 71, 114, 111, 119, 115, 32, 116, 97, 108, 108, 97, 103, 101, 47, 116, 97, 108, 108, 97, 103, 101, 108, 97, 119, 50, 48, 46, 70, 97, 99, 116, 111, 114, 80, 97, 114, 116, 115, 32, 116, 97, 108, 108, 97, 103, 101, 47, 116, 97, 108, 108, 97, 103, 101, 108, 97, 119, 50, 48, 46, 70, 97, 99, 116, 111, 114, 77, 111, 118, 101, 115, 32, 116, 97, 108, 108, 97, 103, 101, 47, 116, 97, 108, 108, 97, 103, 101, 108, 97, 119, 49, 52, 46, 69, 118, 101, 110, 116, 66, 97, 99, 107, 32, 116, 97, 108, 108, 97, 103, 101, 47, 116, 97, 108, 108, 97, 103, 101, 108, 97, 119, 49, 53, 46, 84, 120, 82, 101, 97, 100, 115, 32, 116, 97, 108, 108, 97, 103, 101, 47, 116, 97, 108, 108, 97, 103, 101, 108, 97, 119, 49, 53, 46, 84, 120, 66, 97, 99, 107]
def signs (l : List Nat) : List Char := l.map Char.ofNat
set_option maxRecDepth 100000 in
theorem head_text : Try.prog.initOrder = String.ofList (signs w1 ++ (Char.ofNat 32 :: (signs w2 ++ (Char.ofNat 32 :: (signs w3 ++ (Char.ofNat 32 :: signs wr)))))) := by kernel_rfl
theorem words_at : ∀ (a : List Char) (r : List Char), (a.all fun c => !(c == Char.ofNat 32)) = true → wordsSigns (a ++ Char.ofNat 32 :: r) = a :: wordsSigns r
  | [], r, _ => wordsSigns.eq_2 r
  | c :: a, r, h => by
    rw [List.all_cons, Bool.and_eq_true] at h
    have hc : c = Char.ofNat 32 → False := by simpa using h.1
    rw [List.cons_append, wordsSigns.eq_3 c _ hc, words_at a r h.2]
theorem behind_of (r : List (List Char)) : behindMainWord (signs w1 :: signs w2 :: signs w3 :: r) = signs w3 :: r := by
  have h : ((signs w1 == "harness".toList || signs w1 == "ownmain".toList) && isSumSigns (signs w2)) = true := by kernel_rfl
  rw [behindMainWord.eq_1, if_pos h]
theorem head_words : behindMainWord (wordsSigns Try.prog.initOrder.toList) = signs w3 :: wordsSigns (signs wr) := by
  rw [head_text, String.toList_ofList, words_at _ _ (by kernel_rfl), words_at _ _ (by kernel_rfl), words_at _ _ (by kernel_rfl)]
  exact behind_of _
theorem strip_at (ws : List (List Char)) : stripLifts liftWords (signs w3 :: ws) = ([], signs w3 :: ws) := by kernel_rfl
section
variable {P : Program} {ws : List (List Char)} (hP : behindMainWord (wordsSigns P.initOrder.toList) = signs w3 :: ws)
include hP
theorem lifts_of : P.headLifts = [] := by
  unfold Program.headLifts
  rw [hP, strip_at]
  simp
theorem make_of : P.make = some .cut := by
  have h1 : (signs w3 == "gc".toList || signs w3 == "spec".toList) = false := by kernel_rfl
  have h2 : (signs w3 == "cut".toList) = true := by kernel_rfl
  unfold Program.make
  rw [hP]
  simp only [h1, h2, Bool.true_or]
  simp
theorem final_of : P.liftsFinal = false := by
  have h : (some (signs w3) == some "carried".toList) = false := by kernel_rfl
  unfold Program.liftsFinal
  rw [hP, lifts_of hP]
  simp only [List.head?_cons, h, Bool.false_and, Bool.false_or]
  rfl
theorem enter_of (h1 : P.laysLater = false) (h2 : P.bearsReflect = false) (h3 : P.doorFits [] = true) : P.mayEnter = true := by
  have h : (some (signs w3) == some "cut".toList) = true := by kernel_rfl
  unfold Program.mayEnter
  rw [hP]
  simp only [strip_at, List.head?_cons, h, h1, h2, h3]
  simp
end
theorem laysNo : Try.prog.laysLater = false := by kernel_rfl
theorem bearsNo : Try.prog.bearsReflect = false := by kernel_rfl
theorem doorOk : Try.prog.doorFits [] = true := by kernel_rfl
theorem head_make : Try.prog.make = some .cut := make_of head_words
theorem head_final : Try.prog.liftsFinal = false := final_of head_words
theorem head_enter : Try.prog.mayEnter = true := enter_of head_words laysNo bearsNo doorOk
end Go.Proofs.Ytpdenhmkpiafiaa

namespace Go.Proofs.Ytpdenhmkpiafiaa
open Go Go.RowKit
def Row (w : World) (g t : Nat) (cs : Array Value) : Prop := w.heap[g]? = some (.cells cs t (0, 0))
section
variable {w w' : World} {g t : Nat} {cs : Array Value}
theorem Row.lt (h : Row w g t cs) : g < w.heap.size := by
  rcases Nat.lt_or_ge g w.heap.size with hlt | hge
  · exact hlt
  · unfold Row at h; rw [Array.getElem?_eq_none hge] at h; cases h
theorem Row.cell (h : Row w g t cs) (i : Nat) : w.cell? ⟨g, i, none⟩ = cs[i]? := cell_of_row w g i cs t (0, 0) h
theorem Row.frozen (h : Row w g t cs) (i : Nat) : w.frozen? ⟨g, i, none⟩ = false := by
  unfold Row at h
  simp [World.frozen?, h]
theorem Row.new_at (hg : w.heap.size = g) : Row (w.alloc (.cells cs t)) g t cs := by subst hg; exact heap_alloc_new w _
theorem Row.alloc (h : Row w g t cs) (o : Obj) : Row (w.alloc o) g t cs := (Below.heap_alloc w o g h.lt).trans h
theorem Row.drew (h : Row w g t cs) : Row w.drew g t cs := h
theorem Row.drewN (h : Row w g t cs) (n : Nat) : Row (w.drewN n) g t cs := h
theorem belowDN {B : Nat} {a w : World} (h : Below B a w) (n : Nat) : Below B a (w.drewN n) := ⟨h.os, h.tape, h.output, h.size, h.block⟩
theorem Row.far (h : Row w g t cs) {p : Addr} (hp : g ≠ p.block) (u : Value) : Row (w.setCell p u) g t cs := (Below.heap_setCell w p u g hp).trans h
theorem Row.set (h : Row w g t cs) (i : Nat) (u : Value) : Row (w.setCell ⟨g, i, none⟩ u) g t (cs.setIfInBounds i u) := by
  unfold Row at h ⊢
  simp [World.setCell, Array.getElem?_modify, h]
theorem Row.below {B : Nat} (h : Row w g t cs) (hb : Below B w w') (hg : g < B) : Row w' g t cs := (hb.block g hg).trans h
theorem Row.congr {cs' : Array Value} (h : Row w g t cs) (e : cs = cs') : Row w g t cs' := e ▸ h
end
theorem Row.store4 {w : World} {g t : Nat} {cs : Array Value} (h : Row w g t cs) (hs : cs.size = 4) (v0 v1 v2 v3 : Value) :
    Row ((((w.setCell ⟨g, 0, none⟩ v0).setCell ⟨g, 1, none⟩ v1).setCell ⟨g, 2, none⟩ v2).setCell ⟨g, 3, none⟩ v3) g t #[v0, v1, v2, v3] := by
  refine ((((h.set 0 v0).set 1 v1).set 2 v2).set 3 v3).congr ?_
  obtain ⟨l⟩ := cs
  match l, hs with
  | [a, b, c, d], _ => rfl
theorem bcell {B : Nat} {w w1 : World} (hb : Below B w w1) : (∀ b o, b < B → w1.cell? ⟨b, o, none⟩ = w.cell? ⟨b, o, none⟩) ∧ (∀ b o, b < B → w1.frozen? ⟨b, o, none⟩ = w.frozen? ⟨b, o, none⟩) :=
  ⟨fun b o h => hb.cell (p := ⟨b, o, none⟩) h, fun b o h => hb.frozen (p := ⟨b, o, none⟩) h⟩
def Kept (w : World) (L : List (Nat × Nat × Array Value)) (wc : World) : Prop := Below w.heap.size w wc ∧ ∀ x ∈ L, Row wc x.1 x.2.1 x.2.2
theorem Kept.step {w wc w' : World} {L : List (Nat × Nat × Array Value)} {B : Nat} (h : Kept w L wc) (hb : Below B wc w') (hB : wc.heap.size ≤ B) : Kept w L w' :=
  ⟨h.1.trans (hb.mono (Nat.le_trans h.1.size hB)), fun x hx => (h.2 x hx).below hb (Nat.lt_of_lt_of_le (h.2 x hx).lt hB)⟩
theorem Kept.one {w wc : World} (h : Below w.heap.size w wc) : Kept w [] wc := ⟨h, fun _ hx => by simp at hx⟩
theorem Kept.head {w wc : World} {L : List (Nat × Nat × Array Value)} {g t : Nat} {cs : Array Value} (h : Kept w ((g, t, cs) :: L) wc) : Row wc g t cs := h.2 (g, t, cs) (List.mem_cons_self ..)
theorem Kept.tail {w wc : World} {L : List (Nat × Nat × Array Value)} {x : Nat × Nat × Array Value} (h : Kept w (x :: L) wc) : Kept w L wc := ⟨h.1, fun y hy => h.2 y (List.mem_cons_of_mem _ hy)⟩
theorem Kept.drew {w wc : World} {L : List (Nat × Nat × Array Value)} (h : Kept w L wc) : Kept w L wc.drew := ⟨h.1.drew, h.2⟩
def aggB : TypeDesc → Bool
  | .struct _ => true
  | .array _ _ => true
  | _ => false
def AggT (P : Program) (ty n : Nat) : Prop := (∃ d, P.underlying ty = some d ∧ aggB d = true) ∧ (P.info? ty).map (·.size) = some n
section
variable {P : Program} {w : World} {g t ty ty' g' t' n n' : Nat} {cs cs' : Array Value} {tmps : Array Value} {fn : Func} {p p' q : Tmp}
theorem AggT.load (T : AggT P ty n) (hr : Row w g t cs) (hs : cs.size = n) : (loadVar ty ⟨g, 0, none⟩).run P w = .ok (.agg cs) w := by
  subst hs
  obtain ⟨⟨d, hu, hd⟩, hi⟩ := T
  cases d
  case struct => exact run_loadVar_row w g t ty cs (0, 0) _ hr hu rfl hi
  case array => exact run_loadVar_row w g t ty cs (0, 0) _ hr hu rfl hi
  all_goals exact Bool.noConfusion hd
theorem results_c (h : fn.results = #[.cell p ty]) (T : AggT P ty n) (hp : tmps.getD p undef = .pointer (some ⟨g, 0, none⟩)) (hr : Row w g t cs) (hs : cs.size = n) :
    (results fn tmps).run P w = .ok (.agg cs) w := by
  have hp' : tmps[p]?.getD undef = .pointer (some ⟨g, 0, none⟩) := by simpa using hp
  simp [results, h, hp', asAddr, T.load hr hs]
theorem results_ct (h : fn.results = #[.cell p ty, .tmp q]) (T : AggT P ty n) (hp : tmps.getD p undef = .pointer (some ⟨g, 0, none⟩)) (hr : Row w g t cs) (hs : cs.size = n) :
    (results fn tmps).run P w = .ok (.tuple #[.agg cs, tmps.getD q undef]) w := by
  have hp' : tmps[p]?.getD undef = .pointer (some ⟨g, 0, none⟩) := by simpa using hp
  simp [results, h, hp', asAddr, T.load hr hs]
end
def arr (k : IntKind) (f : Nat → Int) (L : Nat) : Array Value := ((List.range L).map fun i => Value.int k (f i)).toArray
def upd (f : Nat → Int) (i : Nat) (x : Int) : Nat → Int := fun j => if j = i then x else f j
theorem upd_same (f : Nat → Int) (i : Nat) (x : Int) : upd f i x i = x := by simp [upd]
theorem upd_ne (f : Nat → Int) (i j : Nat) (x : Int) (h : j ≠ i) : upd f i x j = f j := by simp [upd, h]
theorem arr_get (k : IntKind) (f : Nat → Int) (L i : Nat) (h : i < L) : (arr k f L)[i]? = some (.int k (f i)) := by simp [arr, h]
theorem arr_set (k : IntKind) (f : Nat → Int) (L i : Nat) (x : Int) (h : i < L) : (arr k f L).setIfInBounds i (.int k x) = arr k (upd f i x) L := by
  apply Array.ext
  · simp [arr]
  · intro j h1 h2
    have hj : j < L := by simpa [arr] using h2
    by_cases e : j = i
    · subst e; simp [arr, upd]
    · simp [arr, upd, e, Ne.symm e]
theorem Row.at_ {w : World} {g t L : Nat} {k : IntKind} {f : Nat → Int} (h : Row w g t (arr k f L)) (i : Nat) (hi : i < L) : w.cell? ⟨g, i, none⟩ = some (.int k (f i)) := by
  rw [h.cell, arr_get _ _ _ _ hi]
theorem Row.put {w : World} {g t L : Nat} {k : IntKind} {f : Nat → Int} (h : Row w g t (arr k f L)) (i : Nat) (hi : i < L) (x : Int) : Row (w.setCell ⟨g, i, none⟩ (.int k x)) g t (arr k (upd f i x) L) :=
  (h.set i _).congr (arr_set k f L i x hi)
def sel4 (x0 x1 x2 x3 : Int) : Nat → Int := fun i => if i = 0 then x0 else if i = 1 then x1 else if i = 2 then x2 else x3
def W : Int := 18446744073709551616
def psum (f : Nat → Int) : Nat → Int
  | 0 => 0
  | n + 1 => psum f n + f n * W ^ n
theorem psum_congr {f g : Nat → Int} : ∀ {n : Nat}, (∀ i, i < n → f i = g i) → psum f n = psum g n
  | 0, _ => rfl
  | n + 1, h => by
    unfold psum
    rw [psum_congr fun i hi => h i (by omega), h n (by omega)]
theorem psum_upd_ge (f : Nat → Int) (i : Nat) (x : Int) {n : Nat} (h : n ≤ i) : psum (upd f i x) n = psum f n :=
  psum_congr fun j hj => upd_ne _ _ _ _ (by omega)
def Wordy (f : Nat → Int) : Prop := ∀ i, 0 ≤ f i ∧ f i < W
theorem Wordy.upd {f : Nat → Int} (h : Wordy f) (i : Nat) {x : Int} (hx : 0 ≤ x ∧ x < W) : Wordy (upd f i x) := fun j => by
  by_cases e : j = i
  · rw [e, upd_same]; exact hx
  · rw [upd_ne _ _ _ _ e]; exact h j
theorem wordy_zero : Wordy fun _ => 0 := fun _ => ⟨Int.le_refl _, by show (0 : Int) < W; unfold W; decide⟩
theorem W_pos : (0 : Int) < W := by unfold W; omega
theorem Wpow_pos (n : Nat) : (0 : Int) < W ^ n := Int.pow_pos W_pos
theorem psum_bd {f : Nat → Int} (h : Wordy f) : ∀ n, 0 ≤ psum f n ∧ psum f n < W ^ n
  | 0 => ⟨Int.le_refl _, by simp [psum]⟩
  | n + 1 => by
    have ih := psum_bd h n
    have hn := h n
    have hp := Wpow_pos n
    unfold psum
    rw [Int.pow_succ]
    have h1 : 0 ≤ f n * W ^ n := Int.mul_nonneg hn.1 (by omega)
    have h2 : f n * W ^ n ≤ (W - 1) * W ^ n := Int.mul_le_mul_of_nonneg_right (by omega) (by omega)
    have h3 : (W - 1) * W ^ n = W ^ n * W - W ^ n := by rw [Int.sub_mul, Int.one_mul, Int.mul_comm]
    omega
theorem psum_zero : ∀ n, psum (fun _ => 0) n = 0
  | 0 => rfl
  | n + 1 => by unfold psum; rw [psum_zero n]; simp
structure IsW (x0 x1 x2 x3 : Int) (n : Nat) : Prop where
  wordy : Wordy (sel4 x0 x1 x2 x3)
  val : (n : Int) = psum (sel4 x0 x1 x2 x3) 4
theorem Wordy.four {f : Nat → Int} (h : Wordy f) : Wordy (sel4 (f 0) (f 1) (f 2) (f 3)) := fun i => by
  unfold sel4; split
  · exact h 0
  · split
    · exact h 1
    · split
      · exact h 2
      · exact h 3
theorem psum_four (f : Nat → Int) : psum (sel4 (f 0) (f 1) (f 2) (f 3)) 4 = psum f 4 := by
  apply psum_congr
  intro i hi
  have : i = 0 ∨ i = 1 ∨ i = 2 ∨ i = 3 := by omega
  rcases this with rfl | rfl | rfl | rfl <;> rfl
theorem IsW.of {f : Nat → Int} (h : Wordy f) {n : Nat} (hn : (n : Int) = psum f 4) : IsW (f 0) (f 1) (f 2) (f 3) n := ⟨h.four, by rw [psum_four]; exact hn⟩
theorem IsW.lt {x0 x1 x2 x3 : Int} {n : Nat} (h : IsW x0 x1 x2 x3 n) : (n : Int) < W ^ 4 := h.val ▸ (psum_bd h.wordy 4).2
end Go.Proofs.Ytpdenhmkpiafiaa
namespace Go.Proofs.Ytpdenhmkpiafiaa
open Go Go.RowKit
def cS (a b c : Int) : Int := (a + b + c) % 18446744073709551616
def cC (a b c : Int) : Int := (a + b + c) / 18446744073709551616
def bS (a b c : Int) : Int := (a - b - c) % 18446744073709551616
def bC (a b c : Int) : Int := -((a - b - c) / 18446744073709551616)
def pH (a b : Int) : Int := a * b / 18446744073709551616
def pL (a b : Int) : Int := a * b % 18446744073709551616
theorem cS_bd (a b c : Int) : 0 ≤ cS a b c ∧ cS a b c < W := by unfold cS W; omega
theorem carry_val (a b c : Int) : cS a b c + W * cC a b c = a + b + c := by unfold cS cC W; omega
theorem bC_bd (a b c : Int) (ha : 0 ≤ a ∧ a < 18446744073709551616) (hb : 0 ≤ b ∧ b < 18446744073709551616) (hc : 0 ≤ c ∧ c ≤ 1) : 0 ≤ bC a b c ∧ bC a b c ≤ 1 := by
  unfold bC; omega
theorem bS_bd (a b c : Int) : 0 ≤ bS a b c ∧ bS a b c < W := by unfold bS W; omega
theorem borrow_val (a b c : Int) : bS a b c - W * bC a b c = a - b - c := by unfold bS bC W; omega
end Go.Proofs.Ytpdenhmkpiafiaa
namespace Go.Proofs.Ytpdenhmkpiafiaa
open Go Go.RowKit
end Go.Proofs.Ytpdenhmkpiafiaa
namespace Go.Proofs.Ytpdenhmkpiafiaa
open Go Go.RowKit
def M : Nat := 115792089237316195423570985008687907853269984665640564039457584007913129639936
theorem M_W : (M : Int) = W ^ 4 := by unfold M W; decide
theorem IsW.ltM {x0 x1 x2 x3 : Int} {n : Nat} (h : IsW x0 x1 x2 x3 n) : n < M := by have := h.lt; rw [← M_W] at this; omega
theorem isW_zero : IsW 0 0 0 0 0 := ⟨fun i => by unfold sel4; (repeat' split) <;> exact ⟨Int.le_refl _, W_pos⟩, by simp [psum, sel4]⟩
def addN (a b : Nat) : Nat := if a + b < M then a + b else 0
def addB (a b : Nat) : Bool := decide (a + b < M)
def subB (a b : Nat) : Bool := decide (b ≤ a)
theorem aggT31 : AggT Try.prog 31 4 := ⟨⟨_, Try.underlying31, rfl⟩, by kernel_rfl⟩
def Pair (w : World) (n : Nat) (ok : Bool) (e : Ending) (w' : World) : Prop :=
  ∃ x0 x1 x2 x3 : Int, e = .returned (.tuple #[.agg #[.int .u64 x0, .int .u64 x1, .int .u64 x2, .int .u64 x3], .bool ok]) ∧ IsW x0 x1 x2 x3 n ∧ Below w.heap.size w w'
def AddInv (f : Nat → Int) (C : Int) (a b : Nat → Int) (k : Nat) : Prop := Wordy f ∧ psum f k + C * W ^ k = psum a k + psum b k
theorem AddInv.step {f a b : Nat → Int} {C : Int} {k : Nat} (h : AddInv f C a b k) : AddInv (upd f k (cS (a k) (b k) C)) (cC (a k) (b k) C) a b (k + 1) := by
  refine ⟨h.1.upd k (cS_bd _ _ _), ?_⟩
  have h2 := h.2
  have hv := carry_val (a k) (b k) C
  simp only [psum]
  rw [psum_upd_ge _ _ _ (Nat.le_refl k), upd_same, Int.pow_succ]
  generalize W ^ k = X at *
  generalize cS (a k) (b k) C = s at *
  generalize cC (a k) (b k) C = t at *
  grind
def SubInv (f : Nat → Int) (C : Int) (a b : Nat → Int) (k : Nat) : Prop := Wordy f ∧ psum f k - C * W ^ k = psum a k - psum b k
theorem SubInv.step {f a b : Nat → Int} {C : Int} {k : Nat} (h : SubInv f C a b k) : SubInv (upd f k (bS (a k) (b k) C)) (bC (a k) (b k) C) a b (k + 1) := by
  refine ⟨h.1.upd k (bS_bd _ _ _), ?_⟩
  have h2 := h.2
  have hv := borrow_val (a k) (b k) C
  simp only [psum]
  rw [psum_upd_ge _ _ _ (Nat.le_refl k), upd_same, Int.pow_succ]
  generalize W ^ k = X at *
  generalize bS (a k) (b k) C = s at *
  generalize bC (a k) (b k) C = t at *
  grind
theorem AddInv.none {f : Nat → Int} {C a0 a1 a2 a3 b0 b1 b2 b3 : Int} {a b : Nat} (h : AddInv f C (sel4 a0 a1 a2 a3) (sel4 b0 b1 b2 b3) 4) (ha : IsW a0 a1 a2 a3 a) (hb : IsW b0 b1 b2 b3 b) (hC : C = 0) :
    IsW (f 0) (f 1) (f 2) (f 3) (addN a b) ∧ addB a b = true := by
  have h2 := h.2
  rw [hC, Int.zero_mul, Int.add_zero, ← ha.val, ← hb.val] at h2
  have hl := (psum_bd h.1 4).2
  rw [← M_W] at hl
  have hlt : a + b < M := by omega
  exact ⟨IsW.of h.1 (by unfold addN; rw [if_pos hlt, h2]; omega), by simp [addB, hlt]⟩
theorem AddInv.some_ {f : Nat → Int} {C a0 a1 a2 a3 b0 b1 b2 b3 : Int} {a b : Nat} (h : AddInv f C (sel4 a0 a1 a2 a3) (sel4 b0 b1 b2 b3) 4) (ha : IsW a0 a1 a2 a3 a) (hb : IsW b0 b1 b2 b3 b) (hC : C = 1) :
    addN a b = 0 ∧ addB a b = false := by
  have h2 := h.2
  rw [hC, Int.one_mul, ← M_W, ← ha.val, ← hb.val] at h2
  have hl := (psum_bd h.1 4).1
  have hge : ¬ a + b < M := by omega
  exact ⟨by unfold addN; rw [if_neg hge], by simp [addB, hge]⟩
theorem SubInv.none {f : Nat → Int} {C a0 a1 a2 a3 b0 b1 b2 b3 : Int} {a b : Nat} (h : SubInv f C (sel4 a0 a1 a2 a3) (sel4 b0 b1 b2 b3) 4) (ha : IsW a0 a1 a2 a3 a) (hb : IsW b0 b1 b2 b3 b) (hC : C = 0) :
    IsW (f 0) (f 1) (f 2) (f 3) (a - b) ∧ subB a b = true := by
  have h2 := h.2
  rw [hC, Int.zero_mul, Int.sub_zero, ← ha.val, ← hb.val] at h2
  have hl := (psum_bd h.1 4).1
  have hle : b ≤ a := by omega
  exact ⟨IsW.of h.1 (by rw [h2]; omega), by simp [subB, hle]⟩
theorem SubInv.some_ {f : Nat → Int} {C a0 a1 a2 a3 b0 b1 b2 b3 : Int} {a b : Nat} (h : SubInv f C (sel4 a0 a1 a2 a3) (sel4 b0 b1 b2 b3) 4) (ha : IsW a0 a1 a2 a3 a) (hb : IsW b0 b1 b2 b3 b) (hC : C = 1) :
    a - b = 0 ∧ subB a b = false := by
  have h2 := h.2
  rw [hC, Int.one_mul, ← M_W, ← ha.val, ← hb.val] at h2
  have hl := (psum_bd h.1 4).2
  rw [← M_W] at hl
  have hge : ¬ b ≤ a := by omega
  exact ⟨by omega, by simp [subB, hge]⟩
end Go.Proofs.Ytpdenhmkpiafiaa
namespace Go.Proofs.Ytpdenhmkpiafiaa
open Go Go.RowKit
def wlen (n : Nat) : Nat := if n = 0 then 0 else if n < 18446744073709551616 then 1 else if n < 340282366920938463463374607431768211456 then 2 else if n < 6277101735386680763835789423207666416102355444464034512896 then 3 else 4
theorem wlen_le (n : Nat) : wlen n ≤ 4 := by unfold wlen; (repeat' split) <;> omega
theorem psum_top {f : Nat → Int} (h : Wordy f) (k : Nat) (hk : f k ≠ 0) : W ^ k ≤ psum f (k + 1) := by
  have h1 := (psum_bd h k).1
  have h2 := h k
  have h3 := Wpow_pos k
  have h4 : 1 * W ^ k ≤ f k * W ^ k := Int.mul_le_mul_of_nonneg_right (by omega) (by omega)
  unfold psum; omega
theorem wlen_eq {n k : Nat} {f : Nat → Int} (h : Wordy f) (hk : f k ≠ 0) (hlt : k < 4) (hn : (n : Int) = psum f (k + 1)) : wlen n = k + 1 := by
  have h1 := psum_top h k hk
  have h2 := (psum_bd h (k + 1)).2
  rw [← hn] at h1 h2
  have : k = 0 ∨ k = 1 ∨ k = 2 ∨ k = 3 := by omega
  rcases this with rfl | rfl | rfl | rfl <;> simp [W] at h1 h2 <;> unfold wlen <;> (repeat' split) <;> omega
set_option maxHeartbeats 400000 in
theorem used_any (a0 a1 a2 a3 : Int) (a : Nat) (ha : IsW a0 a1 a2 a3 a) (w : World) :
    Calls Try.prog 159 #[.agg #[.int .u64 a0, .int .u64 a1, .int .u64 a2, .int .u64 a3]] w fun e w' => e = .returned (.int .i64 (wlen a)) ∧ Below w.heap.size w w' := by
  go_enter Try.func159, Try.ntmps159
  go_wp2
  go_loopg [3] 4 (fun g i wr => ∃ (k : Nat), k = g ∧ k ≤ 4 ∧ i = .int .i64 (k : Int) ∧ Below w.heap.size w wr ∧ Row wr w.heap.size 31 (arr .u64 (sel4 a0 a1 a2 a3) 4) ∧ Hid ((a : Int) = psum (sel4 a0 a1 a2 a3) k))
  case atStart =>
    refine ⟨4, rfl, by omega, rfl, by go_grown, ?_, ha.val⟩ <;> repeat (first | (refine Row.new_at ?_; simp; done) | refine Row.alloc ?_ _)
  case round =>
    obtain ⟨k, rfl, hk, rfl, hbl, ra, hv⟩ := hrel
    by_cases h0 : 0 < k
    · obtain ⟨j, rfl⟩ : ∃ j, k = j + 1 := ⟨k - 1, by omega⟩
      have ca := ra.at_ j (by omega)
      have wa := ha.wordy j
      have H := Lib.hid (show _ ∧ _ from ⟨ra, hv⟩)
      clear ra hv
      have e1 : ((j + 1 : Nat) : Int) - 1 = (j : Int) := by omega
      have e2 : ((j + 1 : Nat) : Int).toNat - 1 = j := by omega
      by_cases hz : sel4 a0 a1 a2 a3 j = 0
      · have hz' : (sel4 a0 a1 a2 a3 j != 0) = false := by simp [hz]
        have HZ := Lib.hid hz
        clear hz
        go_wp2
        go_roundg j
        case measure => omega
        case rel =>
          obtain ⟨ra, hv⟩ := H.out
          refine ⟨j, rfl, by omega, rfl, by go_grown, ra, ?_⟩
          have h := hv.out
          simp only [psum] at h
          rw [HZ.out] at h
          show (a : Int) = _
          rw [h]; simp
      · have hz' : (sel4 a0 a1 a2 a3 j != 0) = true := by simp [hz]
        have fin := Lib.hid (wlen_eq ha.wordy hz (by omega) H.out.2.out)
        clear hz
        go_wp2
        go_ret
        exact ⟨by rw [fin.out]; rfl, by go_grown⟩
    · obtain rfl : k = 0 := by omega
      have hz : a = 0 := by have := hv.out; simp [psum] at this; exact this
      have fin := Lib.hid hz
      clear hv hz h0
      go_wp2
      go_ret
      exact ⟨by rw [fin.out]; rfl, by go_grown⟩
def cmpN (a b : Nat) : Int := if a < b then -1 else if b < a then 1 else 0
theorem psum_lt {f g : Nat → Int} (hf : Wordy f) (hg : Wordy g) {k : Nat} (h : f k < g k) : psum f (k + 1) < psum g (k + 1) := by
  have h1 := (psum_bd hf k).2
  have h2 := (psum_bd hg k).1
  have h3 := Wpow_pos k
  have h4 : (f k + 1) * W ^ k ≤ g k * W ^ k := Int.mul_le_mul_of_nonneg_right (by omega) (by omega)
  rw [Int.add_mul, Int.one_mul] at h4
  simp only [psum]; omega
def CmpInv (a b : Nat) (f g : Nat → Int) (k : Nat) : Prop := (a : Int) - b = psum f k - psum g k
theorem CmpInv.lt {a b : Nat} {f g : Nat → Int} {k : Nat} (h : CmpInv a b f g (k + 1)) (hf : Wordy f) (hg : Wordy g) (hl : f k < g k) : cmpN a b = -1 := by
  have := psum_lt hf hg hl
  unfold CmpInv at h
  unfold cmpN; rw [if_pos (by omega)]
end Go.Proofs.Ytpdenhmkpiafiaa
namespace Go.Proofs.Ytpdenhmkpiafiaa
open Go Go.RowKit
def dblN (a b : Nat) : Nat := (2 * a + b) % M
def dblC (a b : Nat) : Nat := (2 * a + b) / M
def DblInv (f : Nat → Int) (C : Int) (a : Nat → Int) (b : Int) (k : Nat) : Prop := Wordy f ∧ 0 ≤ C ∧ C ≤ 1 ∧ (∀ i, k ≤ i → f i = a i) ∧ psum f k + C * W ^ k = 2 * psum a k + b
theorem DblInv.step {f a : Nat → Int} {C b : Int} {k : Nat} (h : DblInv f C a b k) : DblInv (upd f k ((2 * f k) % 18446744073709551616 + C)) (f k / 9223372036854775808) a b (k + 1) := by
  obtain ⟨h1, h2, h3, h4, h5⟩ := h
  have hk := h4 k (Nat.le_refl k)
  have hw := h1 k
  unfold W at hw
  refine ⟨h1.upd k (by unfold W; omega), by omega, by omega, fun i hi => ?_, ?_⟩
  · rw [upd_ne _ _ _ _ (by omega)]; exact h4 i (by omega)
  · simp only [psum]
    rw [psum_upd_ge _ _ _ (Nat.le_refl k), upd_same, Int.pow_succ, ← hk]
    have hv : (2 * f k) % 18446744073709551616 + W * (f k / 9223372036854775808) = 2 * f k := by unfold W; omega
    generalize W ^ k = X at *
    generalize (2 * f k) % 18446744073709551616 = s at *
    generalize f k / 9223372036854775808 = t at *
    grind
theorem DblInv.fin {f : Nat → Int} {C a0 a1 a2 a3 : Int} {a b : Nat} (h : DblInv f C (sel4 a0 a1 a2 a3) b 4) (ha : IsW a0 a1 a2 a3 a) : IsW (f 0) (f 1) (f 2) (f 3) (dblN a b) ∧ (dblC a b : Int) = C := by
  obtain ⟨h1, h2, h3, h4, h5⟩ := h
  rw [← ha.val, ← M_W] at h5
  have hb := psum_bd h1 4
  rw [← M_W] at hb
  have hM : (0 : Int) < M := by rw [M_W]; exact Wpow_pos 4
  obtain ⟨F, hF⟩ := Int.eq_ofNat_of_zero_le hb.1
  obtain ⟨c, rfl⟩ := Int.eq_ofNat_of_zero_le h2
  rw [hF] at h5 hb
  have h6 : F + c * M = 2 * a + b := by
    have : ((F + c * M : Nat) : Int) = ((2 * a + b : Nat) : Int) := by rw [Int.natCast_add, Int.natCast_mul]; omega
    exact Int.ofNat_inj.1 this
  have hFM : F < M := by omega
  refine ⟨IsW.of h1 ?_, ?_⟩
  · unfold dblN; rw [hF, ← h6, Nat.add_mul_mod_self_right, Nat.mod_eq_of_lt hFM]
  · unfold dblC; rw [← h6, Nat.add_mul_div_right _ _ (by omega), Nat.div_eq_of_lt hFM, Nat.zero_add]
def wrapN (a b : Nat) : Nat := (a + M - b) % M
def WrapInv (f : Nat → Int) (C : Int) (a b : Nat → Int) (k : Nat) : Prop := (∀ i, k ≤ i → f i = a i) ∧ 0 ≤ C ∧ C ≤ 1 ∧ SubInv f C a b k
theorem WrapInv.step {f a b : Nat → Int} {C : Int} {k : Nat} (h : WrapInv f C a b k) (ha : Wordy a) (hb : Wordy b) : WrapInv (upd f k (bS (f k) (b k) C)) (bC (f k) (b k) C) a b (k + 1) := by
  obtain ⟨h1, h2, h3, h4⟩ := h
  have hk := h1 k (Nat.le_refl k)
  have hc := bC_bd (a k) (b k) C (ha k) (hb k) ⟨h2, h3⟩
  rw [hk]
  exact ⟨fun i hi => by rw [upd_ne _ _ _ _ (by omega)]; exact h1 i (by omega), hc.1, hc.2, h4.step⟩
theorem WrapInv.fin {f : Nat → Int} {C a0 a1 a2 a3 b0 b1 b2 b3 : Int} {a b : Nat} (h : WrapInv f C (sel4 a0 a1 a2 a3) (sel4 b0 b1 b2 b3) 4) (ha : IsW a0 a1 a2 a3 a) (hb : IsW b0 b1 b2 b3 b) : IsW (f 0) (f 1) (f 2) (f 3) (wrapN a b) := by
  obtain ⟨h1, h2, h3, h4, h5⟩ := h
  rw [← ha.val, ← hb.val, ← M_W] at h5
  have hp := psum_bd h4 4
  rw [← M_W] at hp
  have la := ha.ltM
  have lb := hb.ltM
  refine IsW.of h4 ?_
  unfold wrapN
  rcases (show C = 0 ∨ C = 1 by omega) with rfl | rfl
  · rw [Int.zero_mul] at h5
    have e : a + M - b = (a - b) + M := by omega
    rw [e, Nat.add_mod_right, Nat.mod_eq_of_lt (by omega)]; omega
  · rw [Int.one_mul] at h5
    rw [Nat.mod_eq_of_lt (by omega)]; omega
end Go.Proofs.Ytpdenhmkpiafiaa
namespace Go.Proofs.Ytpdenhmkpiafiaa
open Go Go.RowKit
theorem psum_succ (f : Nat → Int) (n : Nat) : psum f (n + 1) = psum f n + f n * W ^ n := rfl
theorem psum_upd {f : Nat → Int} {k : Nat} (x : Int) : ∀ {n : Nat}, k < n → psum (upd f k x) n = psum f n + (x - f k) * W ^ k
  | 0, h => absurd h (by omega)
  | n + 1, h => by
    unfold psum
    by_cases e : k = n
    · subst e
      rw [psum_upd_ge _ _ _ (Nat.le_refl k), upd_same, Int.sub_mul]; omega
    · rw [psum_upd x (by omega), upd_ne _ _ _ _ (by omega)]; omega
def smQ (r x d : Int) : Int := (r * 18446744073709551616 + x) / d
def smR (r x d : Int) : Int := (r * 18446744073709551616 + x) % d
theorem quo_rem_of {n d q r : Int} (h0 : 0 ≤ r) (h1 : r < d) (h : n = d * q + r) : n / d = q ∧ n % d = r := by
  subst h
  have hd : d ≠ 0 := by omega
  exact ⟨by rw [Int.add_comm, Int.add_mul_ediv_left _ _ hd, Int.ediv_eq_zero_of_lt h0 h1, Int.zero_add], by rw [Int.add_comm, Int.add_mul_emod_self_left, Int.emod_eq_of_lt h0 h1]⟩
def SmInv (f : Nat → Int) (R : Int) (a : Nat → Int) (D : Int) (k : Nat) : Prop := Wordy f ∧ 0 ≤ R ∧ R < D ∧ (∀ i, i < k → f i = a i) ∧ D * (psum f 4 - psum f k) + R * W ^ k = psum a 4 - psum a k
theorem sm_ring {D F G y X R A B r q V : Int} (h5 : D * (F - (G + y * X)) + R * (X * V) = A - (B + y * X)) (h : (r + D * q) * X = (R * V + y) * X) : D * (F + (q - y) * X - G) + r * X = A - B := by
  grind
theorem SmInv.step {f a : Nat → Int} {R D : Int} {k : Nat} (h : SmInv f R a D (k + 1)) (hk : k < 4) : SmInv (upd f k (smQ R (f k) D)) (smR R (f k) D) a D k := by
  obtain ⟨h1, h2, h3, h4, h5⟩ := h
  have wk := h1 k
  have hD : 0 < D := by omega
  have e := Int.emod_add_mul_ediv (R * 18446744073709551616 + f k) D
  have q0 : 0 ≤ smQ R (f k) D := Int.ediv_nonneg (by omega) (by omega)
  have q1 : smQ R (f k) D < W := Int.ediv_lt_of_lt_mul hD (by unfold W at *; have : (R + 1) * 18446744073709551616 ≤ D * 18446744073709551616 := Int.mul_le_mul_of_nonneg_right (by omega) (by omega); rw [Int.mul_comm]; omega)
  refine ⟨h1.upd k ⟨q0, q1⟩, Int.emod_nonneg _ (by omega), Int.emod_lt_of_pos _ hD, fun i hi => ?_, ?_⟩
  · rw [upd_ne _ _ _ _ (by omega)]; exact h4 i (by omega)
  · rw [psum_upd _ hk, psum_upd_ge _ _ _ (Nat.le_refl k)]
    have ha := h4 k (by omega)
    rw [psum_succ f k, psum_succ a k, Int.pow_succ] at h5
    unfold smQ smR
    rw [← ha] at h5
    rw [show (18446744073709551616 : Int) = W from rfl] at *
    generalize (R * W + f k) % D = r at *
    generalize (R * W + f k) / D = q at *
    generalize psum f 4 = F at *
    generalize psum f k = G at *
    generalize W ^ k = X at *
    generalize psum a 4 = A at *
    generalize psum a k = B at *
    generalize f k = y at *
    have : (r + D * q) * X = (R * W + y) * X := by rw [e]
    exact sm_ring h5 this
theorem SmInv.fin {f : Nat → Int} {R a0 a1 a2 a3 : Int} {a D : Nat} (h : SmInv f R (sel4 a0 a1 a2 a3) D 0) (ha : IsW a0 a1 a2 a3 a) : IsW (f 0) (f 1) (f 2) (f 3) (a / D) ∧ ((a % D : Nat) : Int) = R := by
  obtain ⟨h1, h2, h3, h4, h5⟩ := h
  rw [← ha.val] at h5
  rw [show psum f 0 = 0 from rfl, show psum (sel4 a0 a1 a2 a3) 0 = 0 from rfl, Int.pow_zero, Int.mul_one, Int.sub_zero, Int.sub_zero] at h5
  have := quo_rem_of h2 h3 h5.symm
  refine ⟨IsW.of h1 ?_, ?_⟩
  · rw [Int.natCast_ediv]; exact this.1
  · rw [Int.natCast_emod]; exact this.2
end Go.Proofs.Ytpdenhmkpiafiaa
namespace Go.Proofs.Ytpdenhmkpiafiaa
open Go Go.RowKit
def mS (x y f c : Int) : Int := (x * y + f + c) % 18446744073709551616
def mC (x y f c : Int) : Int := (x * y + f + c) / 18446744073709551616
theorem mul_step (x y f c : Int) (hx : 0 ≤ x ∧ x < 18446744073709551616) (hy : 0 ≤ y ∧ y < 18446744073709551616) (hf : 0 ≤ f ∧ f < 18446744073709551616) (hc : 0 ≤ c ∧ c < 18446744073709551616) :
    cS (cS (pL x y) f 0) c 0 = mS x y f c ∧ IntKind.u64.wrap (IntKind.u64.wrap (pH x y + cC (pL x y) f 0) + cC (cS (pL x y) f 0) c 0) = mC x y f c ∧ 0 ≤ mC x y f c ∧ mC x y f c < 18446744073709551616 ∧ 0 ≤ mS x y f c ∧ mS x y f c < 18446744073709551616 := by
  have h0 : 0 ≤ x * y := Int.mul_nonneg hx.1 hy.1
  have h1 : x * y ≤ 18446744073709551615 * y := Int.mul_le_mul_of_nonneg_right (by omega) hy.1
  rw [IntKind.wrap_u64, IntKind.wrap_u64]
  unfold cS cC pL pH mS mC
  generalize x * y = t at *
  omega
theorem mul_step_val (x y f c : Int) : mS x y f c + W * mC x y f c = x * y + f + c := by unfold mS mC W; omega
def MulInv (f a b : Nat → Int) (i : Nat) : Prop := Wordy f ∧ (∀ m, i + 4 ≤ m → f m = 0) ∧ psum f (i + 4) = psum a i * psum b 4
def MulMid (f : Nat → Int) (c : Int) (a b : Nat → Int) (i j : Nat) : Prop :=
  Wordy f ∧ (∀ m, i + 4 ≤ m → f m = 0) ∧ 0 ≤ c ∧ c < 18446744073709551616 ∧ psum f (i + 4) + c * W ^ (i + j) = psum a i * psum b 4 + a i * psum b j * W ^ i
theorem MulInv.zero (a b : Nat → Int) : MulInv (fun _ => 0) a b 0 := ⟨wordy_zero, fun _ _ => rfl, by rw [psum_zero]; simp [psum]⟩
theorem mid_ring {F f c A x B y X s t V P Q : Int} (h : F + c * (P * Q) = A * X + x * B * P) (hv : s + V * t = x * y + f + c) : F + (s - f) * (P * Q) + t * (P * (Q * V)) = A * X + x * (B + y * Q) * P := by
  have : (s + V * t) * (P * Q) = (x * y + f + c) * (P * Q) := by rw [hv]
  grind
theorem MulMid.step {f a b : Nat → Int} {c : Int} {i j : Nat} (h : MulMid f c a b i j) (ha : Wordy a) (hb : Wordy b) (hj : j < 4) :
    MulMid (upd f (i + j) (mS (a i) (b j) (f (i + j)) c)) (mC (a i) (b j) (f (i + j)) c) a b i (j + 1) := by
  obtain ⟨h1, h2, h3, h4, h5⟩ := h
  have hs := mul_step (a i) (b j) (f (i + j)) c (ha i) (hb j) (h1 _) ⟨h3, h4⟩
  have hv := mul_step_val (a i) (b j) (f (i + j)) c
  refine ⟨h1.upd _ hs.2.2.2.2, fun m hm => ?_, hs.2.2.1, hs.2.2.2.1, ?_⟩
  · rw [upd_ne _ _ _ _ (by omega)]; exact h2 m hm
  · rw [psum_upd _ (by omega), psum_succ b j, ← Nat.add_assoc, Int.pow_succ (W) (i + j), Int.pow_add, Int.mul_assoc (W ^ i)]
    rw [Int.pow_add] at h5
    exact mid_ring h5 hv
theorem MulMid.done {f a b : Nat → Int} {c : Int} {i : Nat} (h : MulMid f c a b i 4) : MulInv (upd f (i + 4) c) a b (i + 1) := by
  obtain ⟨h1, h2, h3, h4, h5⟩ := h
  refine ⟨h1.upd _ ⟨h3, h4⟩, fun m hm => ?_, ?_⟩
  · rw [upd_ne _ _ _ _ (by omega)]; exact h2 m (by omega)
  · rw [show i + 1 + 4 = (i + 4) + 1 by omega, psum_succ, psum_upd_ge _ _ _ (Nat.le_refl _), upd_same, psum_succ a i, h5]
    grind
end Go.Proofs.Ytpdenhmkpiafiaa
namespace Go.Proofs.Ytpdenhmkpiafiaa
open Go Go.RowKit
theorem run_eq4 {P : Program} {t e : TypeId} {i : TypeInfo} (d : Nat) (ht : P.underlying t = some (.array 4 e)) (he : P.underlying e = some (.int .u64)) (hi : P.info? e = some i) (hc : P.cellsOf e = 1)
    (x0 x1 x2 x3 y0 y1 y2 y3 : Int) (w : World) :
    (Op.equalIn (d + 2) t (.agg #[.int .u64 x0, .int .u64 x1, .int .u64 x2, .int .u64 x3]) (.agg #[.int .u64 y0, .int .u64 y1, .int .u64 y2, .int .u64 y3])).run P w = .ok (x0 == y0 && (x1 == y1 && (x2 == y2 && x3 == y3))) w := by
  rw [run_equalIn_array w (d + 1) _ _ ht hi, hc]
  have r4 : List.range 4 = [0, 1, 2, 3] := rfl
  rw [r4]
  have e1 : ∀ (a b : Int) (wx : World), (Op.equalIn (d + 1) e (.int .u64 a) (.int .u64 b)).run P wx = .ok (a == b) wx := fun a b wx => by
    simp [Op.equalIn, run_underlying he]
  simp [Op.eqItems, part, isAgg, run_underlying he, e1]
  by_cases h0 : x0 = y0 <;> by_cases h1 : x1 = y1 <;> by_cases h2 : x2 = y2 <;> by_cases h3 : x3 = y3 <;> simp [h0, h1, h2, h3]
theorem cells29 : Try.prog.cellsOf 29 = 1 := by kernel_rfl
theorem some29 : (Try.prog.info? 29).isSome = true := by kernel_rfl
theorem eq31 (x0 x1 x2 x3 y0 y1 y2 y3 : Int) (w : World) :
    (Op.equalIn 10000 31 (.agg #[.int .u64 x0, .int .u64 x1, .int .u64 x2, .int .u64 x3]) (.agg #[.int .u64 y0, .int .u64 y1, .int .u64 y2, .int .u64 y3])).run Try.prog w = .ok (x0 == y0 && (x1 == y1 && (x2 == y2 && x3 == y3))) w := by
  obtain ⟨i, hi⟩ := Option.isSome_iff_exists.1 some29
  exact run_eq4 9998 Try.underlying31 Try.underlying29 hi cells29 x0 x1 x2 x3 y0 y1 y2 y3 w
end Go.Proofs.Ytpdenhmkpiafiaa
namespace Go.Proofs.Ytpdenhmkpiafiaa
open Go Go.RowKit
theorem Row.four {w : World} {g t : Nat} {k : IntKind} {f : Nat → Int} (h : Row w g t (arr k f 4)) :
    (w.cell? ⟨g, 0, none⟩ = some (.int k (f 0)) ∧ w.cell? ⟨g, 1, none⟩ = some (.int k (f 1)) ∧ w.cell? ⟨g, 2, none⟩ = some (.int k (f 2)) ∧ w.cell? ⟨g, 3, none⟩ = some (.int k (f 3))) ∧
    w.frozen? ⟨g, 0, none⟩ = false ∧ w.frozen? ⟨g, 1, none⟩ = false ∧ w.frozen? ⟨g, 2, none⟩ = false ∧ w.frozen? ⟨g, 3, none⟩ = false :=
  ⟨⟨h.at_ 0 (by omega), h.at_ 1 (by omega), h.at_ 2 (by omega), h.at_ 3 (by omega)⟩, h.frozen 0, h.frozen 1, h.frozen 2, h.frozen 3⟩
end Go.Proofs.Ytpdenhmkpiafiaa
namespace Go.Proofs.Ytpdenhmkpiafiaa
open Go Go.RowKit
def blen (n : Nat) : Nat := if n = 0 then 0 else Nat.log2 n + 1
theorem blen_shift {n s : Nat} (h : n / 2 ^ s ≠ 0) : blen n = s + blen (n / 2 ^ s) := by
  have hn : n ≠ 0 := by rintro rfl; simp at h
  unfold blen
  rw [if_neg hn, if_neg h]
  have h1 := (Nat.log2_eq_iff h).1 rfl
  have h2 : n.log2 = (n / 2 ^ s).log2 + s := by
    refine (Nat.log2_eq_iff hn).2 ⟨?_, ?_⟩
    · rw [Nat.pow_add]
      exact Nat.le_trans (Nat.mul_le_mul_right _ h1.1) (Nat.div_mul_le_self _ _)
    · rw [show (n / 2 ^ s).log2 + s + 1 = (n / 2 ^ s).log2 + 1 + s by omega, Nat.pow_add]
      exact (Nat.div_lt_iff_lt_mul (Nat.two_pow_pos s)).1 h1.2
  omega
theorem blen_le {n k : Nat} (h : n < 2 ^ k) : blen n ≤ k := by
  unfold blen
  split
  · omega
  · rename_i h0
    have := (Nat.log2_lt h0).2 h
    omega
theorem blen_one {n : Nat} (h : n < 2) : blen n = n := by
  have : n = 0 ∨ n = 1 := by omega
  rcases this with rfl | rfl <;> decide
def stp : Nat → Int
  | 0 => 0
  | 1 => 1
  | 2 => 2
  | 3 => 4
  | 4 => 8
  | 5 => 16
  | _ => 32
def bnd : Nat → Int
  | 0 => 2
  | 1 => 4
  | 2 => 16
  | 3 => 256
  | 4 => 65536
  | 5 => 4294967296
  | _ => 18446744073709551616
def LenInv (x N X : Int) (g : Nat) : Prop := g ≤ 6 ∧ 0 ≤ X ∧ X < bnd g ∧ 0 ≤ N ∧ N ≤ 64 ∧ (blen x.toNat : Int) = N + blen X.toNat
theorem LenInv.low {x N X : Int} {g : Nat} (h : LenInv x N X (g + 1)) (p : Int) (hp : 0 < p) (hb : bnd g = p) (hz : X / p = 0) : LenInv x N X g := by
  obtain ⟨h1, h2, h3, h4, h5, h6⟩ := h
  refine ⟨by omega, h2, ?_, h4, h5, h6⟩
  rw [hb]
  have h7 := Int.emod_add_mul_ediv X p
  have h8 := Int.emod_lt_of_pos X hp
  rw [hz, Int.mul_zero] at h7
  omega
theorem LenInv.big {x N X : Int} {g : Nat} (h : LenInv x N X (g + 1)) (hx : x < 18446744073709551616) (p : Nat) (s : Nat) (hp : p = 2 ^ s) (hb : bnd g = p) (hb2 : bnd (g + 1) = p * p) (hz : ¬ X / (p : Int) = 0) : LenInv x (N + s) (X / p) g := by
  obtain ⟨h1, h2, h3, h4, h5, h6⟩ := h
  obtain ⟨Y, rfl⟩ := Int.eq_ofNat_of_zero_le h2
  have hp0 : 0 < p := by rw [hp]; exact Nat.two_pow_pos s
  have e : (Y : Int) / (p : Int) = ((Y / p : Nat) : Int) := (Int.natCast_ediv _ _).symm
  rw [e] at hz ⊢
  rw [hb2] at h3
  have h3' : Y < p * p := by have : (Y : Int) < ((p * p : Nat) : Int) := by rw [Int.natCast_mul]; exact h3
                             exact Int.ofNat_lt.1 this
  have hq : Y / p < p := (Nat.div_lt_iff_lt_mul hp0).2 h3'
  have hs : blen Y = s + blen (Y / p) := by
    rw [hp] at hz ⊢
    exact blen_shift (by omega)
  have h64 : blen x.toNat ≤ 64 := blen_le (by omega)
  rw [Int.toNat_natCast] at h6
  refine ⟨by omega, Int.natCast_nonneg _, by rw [hb]; exact Int.ofNat_lt.2 hq, by omega, by omega, ?_⟩
  rw [Int.toNat_natCast]
  omega
theorem LenInv.last {x N X : Int} (h : LenInv x N X 0) : (blen x.toNat : Int) = N + X := by
  obtain ⟨h1, h2, h3, h4, h5, h6⟩ := h
  rw [blen_one (n := X.toNat) (by have : X < 2 := h3; omega)] at h6
  omega
set_option maxHeartbeats 2000000 in
theorem length_any (x : Int) (hx : 0 ≤ x ∧ x < 18446744073709551616) (w : World) :
    Calls Try.prog 161 #[.int .u64 x] w fun e w' => e = .returned (.int .i64 (blen x.toNat)) ∧ ∃ n, w' = w.drewN n := by
  go_enter Try.func161, Try.ntmps161
  go_wp2
  go_loopg [0, 3, 4] 6 (fun g s0 s3 s4 wr => ∃ N X : Int, s0 = .int .u64 X ∧ s3 = .int .i64 N ∧ s4 = .int .i64 (stp g) ∧ (∃ n, wr = w.drewN n) ∧ LenInv x N X g)
  case atStart => exact ⟨0, x, rfl, rfl, rfl, ⟨0, rfl⟩, by omega, hx.1, hx.2, by omega, by omega, by omega⟩
  case round =>
    obtain ⟨N, X, rfl, rfl, rfl, ⟨n, rfl⟩, inv⟩ := hrel
    have h6 := inv.1
    have hX := inv.2.1
    have hXb := inv.2.2.1
    have hN := inv.2.2.2.1
    have hN' := inv.2.2.2.2.1
    rcases (show gk = 0 ∨ gk = 1 ∨ gk = 2 ∨ gk = 3 ∨ gk = 4 ∨ gk = 5 ∨ gk = 6 by omega) with rfl | rfl | rfl | rfl | rfl | rfl | rfl
    · simp only [stp, bnd] at hXb ⊢
      clear h6
      go_wp2
      go_ret
      refine ⟨?_, _, rfl⟩
      rw [inv.last]; rfl
    · simp only [stp, bnd] at hXb ⊢
      clear h6
      by_cases hz : X / 2 = 0
      · have hz' : (X / 2 != 0) = false := by simp [hz]
        have HZ := Lib.hid (inv.low 2 (by omega) rfl hz)
        clear hz
        go_wp2
        go_roundg 0
        case measure => omega
        case rel => exact ⟨N, X, rfl, rfl, rfl, ⟨_, rfl⟩, HZ.out⟩
      · have hz' : (X / 2 != 0) = true := by simp [hz]
        have HZ := Lib.hid (inv.big hx.2 2 1 (by decide) rfl rfl hz)
        clear hz
        go_wp2_with fail
        go_quiet (fail)
        go_wp2
        go_roundg 0
        case measure => omega
        case rel => exact ⟨N + 1, X / 2, rfl, rfl, rfl, ⟨_, rfl⟩, HZ.out⟩
    · simp only [stp, bnd] at hXb ⊢
      clear h6
      by_cases hz : X / 4 = 0
      · have hz' : (X / 4 != 0) = false := by simp [hz]
        have HZ := Lib.hid (inv.low 4 (by omega) rfl hz)
        clear hz
        go_wp2
        go_roundg 1
        case measure => omega
        case rel => exact ⟨N, X, rfl, rfl, rfl, ⟨_, rfl⟩, HZ.out⟩
      · have hz' : (X / 4 != 0) = true := by simp [hz]
        have HZ := Lib.hid (inv.big hx.2 4 2 (by decide) rfl rfl hz)
        clear hz
        go_wp2_with fail
        go_quiet (fail)
        go_wp2
        go_roundg 1
        case measure => omega
        case rel => exact ⟨N + 2, X / 4, rfl, rfl, rfl, ⟨_, rfl⟩, HZ.out⟩
    · simp only [stp, bnd] at hXb ⊢
      clear h6
      by_cases hz : X / 16 = 0
      · have hz' : (X / 16 != 0) = false := by simp [hz]
        have HZ := Lib.hid (inv.low 16 (by omega) rfl hz)
        clear hz
        go_wp2
        go_roundg 2
        case measure => omega
        case rel => exact ⟨N, X, rfl, rfl, rfl, ⟨_, rfl⟩, HZ.out⟩
      · have hz' : (X / 16 != 0) = true := by simp [hz]
        have HZ := Lib.hid (inv.big hx.2 16 4 (by decide) rfl rfl hz)
        clear hz
        go_wp2_with fail
        go_quiet (fail)
        go_wp2
        go_roundg 2
        case measure => omega
        case rel => exact ⟨N + 4, X / 16, rfl, rfl, rfl, ⟨_, rfl⟩, HZ.out⟩
    · simp only [stp, bnd] at hXb ⊢
      clear h6
      by_cases hz : X / 256 = 0
      · have hz' : (X / 256 != 0) = false := by simp [hz]
        have HZ := Lib.hid (inv.low 256 (by omega) rfl hz)
        clear hz
        go_wp2
        go_roundg 3
        case measure => omega
        case rel => exact ⟨N, X, rfl, rfl, rfl, ⟨_, rfl⟩, HZ.out⟩
      · have hz' : (X / 256 != 0) = true := by simp [hz]
        have HZ := Lib.hid (inv.big hx.2 256 8 (by decide) rfl rfl hz)
        clear hz
        go_wp2_with fail
        go_quiet (fail)
        go_wp2
        go_roundg 3
        case measure => omega
        case rel => exact ⟨N + 8, X / 256, rfl, rfl, rfl, ⟨_, rfl⟩, HZ.out⟩
    · simp only [stp, bnd] at hXb ⊢
      clear h6
      by_cases hz : X / 65536 = 0
      · have hz' : (X / 65536 != 0) = false := by simp [hz]
        have HZ := Lib.hid (inv.low 65536 (by omega) rfl hz)
        clear hz
        go_wp2
        go_roundg 4
        case measure => omega
        case rel => exact ⟨N, X, rfl, rfl, rfl, ⟨_, rfl⟩, HZ.out⟩
      · have hz' : (X / 65536 != 0) = true := by simp [hz]
        have HZ := Lib.hid (inv.big hx.2 65536 16 (by decide) rfl rfl hz)
        clear hz
        go_wp2_with fail
        go_quiet (fail)
        go_wp2
        go_roundg 4
        case measure => omega
        case rel => exact ⟨N + 16, X / 65536, rfl, rfl, rfl, ⟨_, rfl⟩, HZ.out⟩
    · simp only [stp, bnd] at hXb ⊢
      clear h6
      by_cases hz : X / 4294967296 = 0
      · have hz' : (X / 4294967296 != 0) = false := by simp [hz]
        have HZ := Lib.hid (inv.low 4294967296 (by omega) rfl hz)
        clear hz
        go_wp2
        go_roundg 5
        case measure => omega
        case rel => exact ⟨N, X, rfl, rfl, rfl, ⟨_, rfl⟩, HZ.out⟩
      · have hz' : (X / 4294967296 != 0) = true := by simp [hz]
        have HZ := Lib.hid (inv.big hx.2 4294967296 32 (by decide) rfl rfl hz)
        clear hz
        go_wp2_with fail
        go_quiet (fail)
        go_wp2
        go_roundg 5
        case measure => omega
        case rel => exact ⟨N + 32, X / 4294967296, rfl, rfl, rfl, ⟨_, rfl⟩, HZ.out⟩
theorem wlen_split {a0 a1 a2 a3 : Int} {a j : Nat} (h : IsW a0 a1 a2 a3 a) (hj : wlen a = j + 1) : (a : Int) = psum (sel4 a0 a1 a2 a3) (j + 1) ∧ sel4 a0 a1 a2 a3 j ≠ 0 := by
  have w0 := h.wordy 0
  have w1 := h.wordy 1
  have w2 := h.wordy 2
  have w3 := h.wordy 3
  have hv := h.val
  simp [sel4, W, psum] at w0 w1 w2 w3 hv
  unfold wlen at hj
  have : j = 0 ∨ j = 1 ∨ j = 2 ∨ j = 3 := by have := wlen_le a; unfold wlen at this; omega
  rcases this with rfl | rfl | rfl | rfl <;> simp [sel4, psum, W] <;> (repeat' split at hj) <;> omega
theorem blen_word {f : Nat → Int} (h : Wordy f) {a j : Nat} (ha : (a : Int) = psum f (j + 1)) (hf : f j ≠ 0) : blen a = 64 * j + blen (f j).toNat := by
  have hb := psum_bd h j
  have hj := h j
  have hW : (W : Int) ^ j = ((2 ^ (64 * j) : Nat) : Int) := by
    rw [show W = ((2 ^ 64 : Nat) : Int) from rfl, ← Int.natCast_pow, ← Nat.pow_mul]
  unfold psum at ha
  have hq : a / 2 ^ (64 * j) = (f j).toNat := by
    have hpos := Nat.two_pow_pos (64 * j)
    refine Nat.div_eq_of_lt_le ?_ ?_
    · have : ((f j).toNat * 2 ^ (64 * j) : Nat) ≤ (a : Int) := by
        rw [Int.natCast_mul, ← hW, Int.toNat_of_nonneg hj.1, ha]; omega
      exact Int.ofNat_le.1 this
    · have : (a : Int) < (((f j).toNat + 1) * 2 ^ (64 * j) : Nat) := by
        rw [Int.natCast_mul, ← hW, Int.natCast_add, Int.toNat_of_nonneg hj.1, ha, Int.add_mul]; omega
      exact Int.ofNat_lt.1 this
  have hne : a / 2 ^ (64 * j) ≠ 0 := by rw [hq]; omega
  rw [blen_shift hne, hq]
set_option maxHeartbeats 400000 in
theorem bits_any (a0 a1 a2 a3 : Int) (a : Nat) (ha : IsW a0 a1 a2 a3 a) (w : World) :
    Calls Try.prog 49 #[.agg #[.int .u64 a0, .int .u64 a1, .int .u64 a2, .int .u64 a3]] w fun e w' => e = .returned (.int .i64 (blen a)) ∧ Below w.heap.size w w' := by
  go_enter Try.func49, Try.ntmps49
  go_wp2_with fail
  refine (used_any _ _ _ _ a ha _).mono ?_
  rintro e w1 ⟨rfl, hb1⟩
  have hl1 : Below w.heap.size w w1 := Below.trans (by go_grown) (hb1.mono (by go_size))
  have ra : Row w1 w.heap.size 31 (arr .u64 (sel4 a0 a1 a2 a3) 4) := Row.below (by repeat (first | (refine Row.new_at ?_; simp; done) | refine Row.alloc ?_ _)) hb1 (by go_size)
  have hw := wlen_le a
  by_cases h0 : wlen a = 0
  · have hz : a = 0 := by unfold wlen at h0; (repeat' split at h0) <;> omega
    have fin : blen a = 0 := by rw [hz]; rfl
    have fin := Lib.hid fin
    clear hz ra hb1 hw
    go_wp2
    go_ret
    exact ⟨by rw [fin.out]; rfl, hl1⟩
  · obtain ⟨j, hj⟩ : ∃ j, wlen a = j + 1 := ⟨wlen a - 1, by omega⟩
    have hs := wlen_split ha hj
    have fin := Lib.hid (blen_word ha.wordy hs.1 hs.2)
    have ca := ra.at_ j (by omega)
    have wj := ha.wordy j
    rw [hj] at hw ⊢
    have HJ := Lib.hid hj
    clear hj hs ra hb1 h0
    have e1 : ((j + 1 : Nat) : Int) - 1 = (j : Int) := by omega
    have hle : (blen (sel4 a0 a1 a2 a3 j).toNat : Int) ≤ 64 := by have := blen_le (n := (sel4 a0 a1 a2 a3 j).toNat) (k := 64) (by have := wj.2; unfold W at this; omega); omega
    go_wp2_with fail
    refine (length_any _ wj _).mono ?_
    rintro e w2 ⟨rfl, n, rfl⟩
    go_wp2
    go_ret
    refine ⟨?_, belowDN hl1 _⟩
    rw [fin.out]; simp
end Go.Proofs.Ytpdenhmkpiafiaa
namespace Go.Proofs.Ytpdenhmkpiafiaa
open Go Go.RowKit
theorem IsW.lin {x0 x1 x2 x3 : Int} {n : Nat} (h : IsW x0 x1 x2 x3 n) : (n : Int) = x0 + 18446744073709551616 * x1 + 340282366920938463463374607431768211456 * x2 + 6277101735386680763835789423207666416102355444464034512896 * x3 ∧
    (0 ≤ x0 ∧ x0 < 18446744073709551616) ∧ (0 ≤ x1 ∧ x1 < 18446744073709551616) ∧ (0 ≤ x2 ∧ x2 < 18446744073709551616) ∧ (0 ≤ x3 ∧ x3 < 18446744073709551616) := by
  have hv := h.val
  simp [psum, sel4, W] at hv
  exact ⟨by omega, h.wordy 0, h.wordy 1, h.wordy 2, h.wordy 3⟩
theorem IsW.mk' {x0 x1 x2 x3 : Int} {n : Nat} (hn : (n : Int) = x0 + 18446744073709551616 * x1 + 340282366920938463463374607431768211456 * x2 + 6277101735386680763835789423207666416102355444464034512896 * x3)
    (h0 : 0 ≤ x0 ∧ x0 < 18446744073709551616) (h1 : 0 ≤ x1 ∧ x1 < 18446744073709551616) (h2 : 0 ≤ x2 ∧ x2 < 18446744073709551616) (h3 : 0 ≤ x3 ∧ x3 < 18446744073709551616) : IsW x0 x1 x2 x3 n :=
  ⟨fun i => by unfold sel4; (repeat' split) <;> assumption, by simp [psum, sel4, W]; omega⟩
theorem IsW.uniq {x0 x1 x2 x3 y0 y1 y2 y3 : Int} {n : Nat} (h : IsW x0 x1 x2 x3 n) (h' : IsW y0 y1 y2 y3 n) : x0 = y0 ∧ x1 = y1 ∧ x2 = y2 ∧ x3 = y3 := by
  have a := h.lin
  have b := h'.lin
  refine ⟨?_, ?_, ?_, ?_⟩ <;> omega
end Go.Proofs.Ytpdenhmkpiafiaa

namespace Go.Proofs.Ytpdenhmkpiafiaa
open Go Go.RowKit
theorem IsW.word {x0 x1 x2 x3 : Int} {a j : Nat} (h : IsW x0 x1 x2 x3 a) (hj : j < 4) : sel4 x0 x1 x2 x3 j = ((a / 2 ^ (64 * j) % 2 ^ 64 : Nat) : Int) := by
  have hl := h.lin
  have : j = 0 ∨ j = 1 ∨ j = 2 ∨ j = 3 := by omega
  rcases this with rfl | rfl | rfl | rfl <;> simp [sel4] <;> omega
theorem lt_blen (n : Nat) : n < 2 ^ blen n := by
  unfold blen
  split
  · rename_i h; rw [h]; decide
  · exact Nat.lt_log2_self
end Go.Proofs.Ytpdenhmkpiafiaa
namespace Go.Proofs.Ytpdenhmkpiafiaa
open Go Go.RowKit
def byN (n k : Nat) : Nat := n / 2 ^ (8 * k) % 256
theorem byN_lt (n k : Nat) : byN n k < 256 := Nat.mod_lt _ (by decide)
theorem byte_word {x0 x1 x2 x3 : Int} {a k : Nat} (h : IsW x0 x1 x2 x3 a) (hk : k / 8 < 4) : IntKind.u8.wrap (sel4 x0 x1 x2 x3 (k / 8) / 2 ^ (8 * (k % 8))) = ((byN a k : Nat) : Int) := by
  rw [h.word hk]
  have e : (((a / 2 ^ (64 * (k / 8)) % 2 ^ 64 : Nat) : Int) / 2 ^ (8 * (k % 8))) = ((a / 2 ^ (64 * (k / 8)) % 2 ^ 64 / 2 ^ (8 * (k % 8)) : Nat) : Int) := by rw [Int.natCast_ediv, Int.natCast_pow]; rfl
  rw [e, IntKind.wrap_u8']
  have : a / 2 ^ (64 * (k / 8)) % 2 ^ 64 / 2 ^ (8 * (k % 8)) % 2 ^ 8 = a / 2 ^ (8 * k) % 2 ^ 8 := by
    apply Nat.eq_of_testBit_eq
    intro i
    simp only [Nat.testBit_mod_two_pow, Nat.testBit_div_two_pow]
    by_cases hi : i < 8
    · have h1 : i + 8 * (k % 8) < 64 := by omega
      have h2 : 8 * (k % 8) + i < 64 := by omega
      have h3 : i + 8 * (k % 8) + 64 * (k / 8) = i + 8 * k := by omega
      have h4 : 64 * (k / 8) + (8 * (k % 8) + i) = 8 * k + i := by omega
      first | (simp [hi, h1, h3]; done) | (simp [hi, h2, h4]; done)
    · simp [hi]
  unfold byN
  rw [show (256 : Nat) = 2 ^ 8 from rfl, ← this]
  omega
def bytesTo (n k : Nat) : Nat → Int := fun i => if i < k then ((byN n (31 - i) : Nat) : Int) else 0
theorem bytesTo_step (n k : Nat) : upd (bytesTo n k) k ((byN n (31 - k) : Nat) : Int) = bytesTo n (k + 1) := by
  funext j
  unfold upd bytesTo
  by_cases e : j = k
  · subst e; simp
  · rw [if_neg e]
    by_cases h : j < k
    · rw [if_pos h, if_pos (by omega)]
    · rw [if_neg h, if_neg (by omega)]
def Bytes32 (w : World) (n : Nat) (e : Ending) (w' : World) : Prop :=
  ∃ g, e = .returned (.slice (some ⟨g, 0, none⟩) 32 32) ∧ w.heap.size ≤ g ∧ Row w' g 5 (arr .u8 (bytesTo n 32) 32) ∧ Below w.heap.size w w'
set_option maxRecDepth 100000 in
set_option maxHeartbeats 2000000 in
theorem bytes_any (a0 a1 a2 a3 : Int) (a : Nat) (ha : IsW a0 a1 a2 a3 a) (w : World) :
    Calls Try.prog 82 #[.agg #[.int .u64 a0, .int .u64 a1, .int .u64 a2, .int .u64 a3]] w (Bytes32 w a) := by
  have hmk : ∀ wx, (Instr.makeSlice 33 (.int .i64 32) (.int .i64 32)).run Try.prog wx = .ok (.slice (some ⟨wx.heap.size, 0, none⟩) 32 32) (wx.alloc (.cells (arr .u8 (fun _ => 0) 32) 5)) := fun _ => by kernel_rfl
  go_enter Try.func82, Try.ntmps82
  go_wp2_with fail
  go_loopg [9] 32 (fun g c wr => ∃ (i : Nat), i + g = 32 ∧ c = .int .i64 (i : Int) ∧ Below w.heap.size w wr ∧ Row wr w.heap.size 31 (arr .u64 (sel4 a0 a1 a2 a3) 4) ∧ Row wr (w.heap.size + 1) 5 (arr .u8 (bytesTo a i) 32))
  case atStart =>
    refine ⟨0, by omega, rfl, by go_grown, ?_, ?_⟩ <;> repeat (first | (refine Row.new_at ?_; simp; done) | refine Row.alloc ?_ _)
  case round =>
    obtain ⟨i, hi, rfl, hl, ra, ro⟩ := hrel
    by_cases hlt : i < 32
    · obtain ⟨k, hk⟩ : ∃ k, k + i = 31 := ⟨31 - i, by omega⟩
      have e0 : (31 : Int) - (i : Int) = (k : Int) := by omega
      have t1 : ((k : Int)).tdiv 8 = (k : Int) / 8 := Int.tdiv_eq_ediv_of_nonneg (by omega)
      have t2 : ((k : Int)).tmod 8 = (k : Int) % 8 := Int.tmod_eq_emod_of_nonneg (by omega)
      have t5 : (k : Int) / 8 < 4 := by omega
      have t6 : 0 ≤ (k : Int) / 8 := by omega
      have t7 : 0 ≤ (k : Int) % 8 := by omega
      have t8 : (k : Int) % 8 < 8 := by omega
      have t9 : ((k : Int) / 8).toNat = k / 8 := by omega
      have t10 : (8 * ((k : Int) % 8)).toNat = 8 * (k % 8) := by omega
      have ca := ra.at_ (k / 8) (by omega)
      have co := ro.at_ i hlt
      have fo := ro.frozen i
      have hby := byte_word ha (show k / 8 < 4 by omega)
      have wa := ha.wordy (k / 8)
      have S := Lib.hid (show _ ∧ _ ∧ _ from ⟨ra, ro, hk⟩)
      clear ra ro
      go_wp2_with fail
      go_roundg (gk - 1)
      case measure => omega
      case rel =>
        obtain ⟨ra, ro, hk⟩ := S.out
        refine ⟨i + 1, by omega, by go_num, by go_grown, ra.far (by dsimp only; omega) _, ?_⟩
        rw [← bytesTo_step, show 31 - i = k by omega]
        exact ro.put i hlt _
    · obtain rfl : i = 32 := by omega
      have S := Lib.hid (show _ from ro)
      clear ra ro hlt
      go_wp2_with fail
      go_ret
      exact ⟨_, rfl, by omega, S.out, hl⟩
end Go.Proofs.Ytpdenhmkpiafiaa
namespace Go.Proofs.Ytpdenhmkpiafiaa
open Go Go.RowKit
def wordsOf (n : Nat) : Nat → Int := fun q => ((n / 2 ^ (64 * q) % 2 ^ 64 : Nat) : Int)
theorem wordsOf_isW (n : Nat) (h : n < M) : IsW (wordsOf n 0) (wordsOf n 1) (wordsOf n 2) (wordsOf n 3) n :=
  IsW.mk' (by unfold wordsOf; unfold M at h; omega) (by unfold wordsOf; omega) (by unfold wordsOf; omega) (by unfold wordsOf; omega) (by unfold wordsOf; omega)
theorem wordsOf_zero : wordsOf 0 = fun _ => 0 := by funext q; simp [wordsOf]
theorem put_byte (m b k : Nat) (hb : b < 256) :
    upd (wordsOf (2 ^ (8 * (k + 1)) * m)) (k / 8) (bits .or .u64 (wordsOf (2 ^ (8 * (k + 1)) * m) (k / 8)) (IntKind.u64.wrap ((b : Int) * 2 ^ (8 * (k % 8))))) = wordsOf (2 ^ (8 * (k + 1)) * m + b * 2 ^ (8 * k)) := by
  have hB : b * 2 ^ (8 * k) < 2 ^ (8 * (k + 1)) := by
    rw [show 8 * (k + 1) = 8 + 8 * k by omega, Nat.pow_add]
    exact Nat.mul_lt_mul_of_pos_right (by omega) (Nat.pow_pos (by decide))
  have hor := Nat.two_pow_add_eq_or_of_lt hB m
  have hw : ∀ q, (2 ^ (8 * (k + 1)) * m + b * 2 ^ (8 * k)) / 2 ^ (64 * q) % 2 ^ 64 = (2 ^ (8 * (k + 1)) * m) / 2 ^ (64 * q) % 2 ^ 64 ||| (b * 2 ^ (8 * k)) / 2 ^ (64 * q) % 2 ^ 64 := fun q => by
    rw [hor, Nat.or_div_two_pow, Nat.or_mod_two_pow]
  have hat : (b * 2 ^ (8 * k)) / 2 ^ (64 * (k / 8)) % 2 ^ 64 = b * 2 ^ (8 * (k % 8)) := by
    have e : 8 * k = 8 * (k % 8) + 64 * (k / 8) := by omega
    have h1 : b * 2 ^ (8 * k) = b * 2 ^ (8 * (k % 8)) * 2 ^ (64 * (k / 8)) := by rw [Nat.mul_assoc, ← Nat.pow_add, ← e]
    rw [h1, Nat.mul_div_cancel _ (Nat.pow_pos (by decide))]
    refine Nat.mod_eq_of_lt ?_
    have h2 : 2 ^ (8 * (k % 8)) ≤ 2 ^ 56 := Nat.pow_le_pow_right (by decide) (by omega)
    have h3 : b * 2 ^ (8 * (k % 8)) ≤ 255 * 2 ^ 56 := Nat.mul_le_mul (by omega) h2
    omega
  have hne : ∀ q, q ≠ k / 8 → (b * 2 ^ (8 * k)) / 2 ^ (64 * q) % 2 ^ 64 = 0 := fun q hq => by
    rcases Nat.lt_or_ge (k / 8) q with h | h
    · have h1 : 2 ^ (8 * (k + 1)) ≤ 2 ^ (64 * q) := Nat.pow_le_pow_right (by decide) (by omega)
      rw [Nat.div_eq_of_lt (by omega)]
    · have e : 8 * k = (8 * k - 64 * (q + 1)) + 64 + 64 * q := by omega
      rw [e, Nat.pow_add, Nat.pow_add, ← Nat.mul_assoc, Nat.mul_div_cancel _ (Nat.pow_pos (by decide)), ← Nat.mul_assoc, Nat.mul_mod_left]
  funext q
  unfold upd
  by_cases e : q = k / 8
  · rw [if_pos e, e]
    unfold wordsOf
    rw [hw, hat]
    have hx : (2 ^ (8 * (k + 1)) * m) / 2 ^ (64 * (k / 8)) % 2 ^ 64 < 18446744073709551616 := Nat.mod_lt _ (by decide)
    have hy : b * 2 ^ (8 * (k % 8)) < 18446744073709551616 := by rw [← hat]; exact Nat.mod_lt _ (by decide)
    have ew : IntKind.u64.wrap ((b : Int) * 2 ^ (8 * (k % 8))) = ((b * 2 ^ (8 * (k % 8)) : Nat) : Int) := by
      rw [IntKind.wrap_u64]
      have : ((b : Int) * 2 ^ (8 * (k % 8))) = ((b * 2 ^ (8 * (k % 8)) : Nat) : Int) := by rw [Int.natCast_mul, Int.natCast_pow]; rfl
      rw [this]
      omega
    rw [ew, u64_or_nat _ _ hx hy]
  · rw [if_neg e]
    unfold wordsOf
    rw [hw, hne q e, Nat.or_zero]
def fromN (f : Nat → Nat) : Nat → Nat
  | 0 => 0
  | i + 1 => fromN f i + f i * 2 ^ (8 * (31 - i))
theorem fromN_mul (f : Nat → Nat) : ∀ i, i ≤ 32 → ∃ m, fromN f i = 2 ^ (8 * (32 - i)) * m
  | 0, _ => ⟨0, rfl⟩
  | i + 1, h => by
    obtain ⟨m, hm⟩ := fromN_mul f i (by omega)
    refine ⟨2 ^ 8 * m + f i, ?_⟩
    unfold fromN
    rw [hm, show 32 - (i + 1) = 31 - i by omega, show 8 * (32 - i) = 8 * (31 - i) + 8 by omega, Nat.pow_add, Nat.mul_add, Nat.mul_assoc, Nat.mul_comm (f i)]
theorem fromN_lt (f : Nat → Nat) (hf : ∀ i, f i < 256) : ∀ i, i ≤ 32 → fromN f i + 2 ^ (8 * (32 - i)) ≤ 2 ^ 256
  | 0, _ => by simp [fromN]
  | i + 1, h => by
    have ih := fromN_lt f hf i (by omega)
    have hi := hf i
    unfold fromN
    rw [show 32 - (i + 1) = 31 - i by omega]
    rw [show 8 * (32 - i) = 8 * (31 - i) + 8 by omega, Nat.pow_add] at ih
    have h1 : f i * 2 ^ (8 * (31 - i)) + 2 ^ (8 * (31 - i)) ≤ 2 ^ (8 * (31 - i)) * 2 ^ 8 := by
      have := Nat.mul_le_mul_right (2 ^ (8 * (31 - i))) (show f i + 1 ≤ 2 ^ 8 by omega)
      rw [Nat.add_mul, Nat.one_mul] at this
      rw [Nat.mul_comm _ (2 ^ 8)]
      exact this
    omega
theorem fromN_bd (f : Nat → Nat) (hf : ∀ i, f i < 256) : fromN f 32 < M := by
  have h := fromN_lt f hf 32 (Nat.le_refl _)
  rw [show 32 - 32 = 0 from rfl] at h
  have e : M = 2 ^ 256 := by decide
  rw [e]
  exact Nat.lt_of_lt_of_le (Nat.lt_add_of_pos_right (by decide)) h
theorem fromN_byN (a : Nat) (ha : a < M) : fromN (fun i => byN a (31 - i)) 32 = a := by
  have key : ∀ i, i ≤ 32 → fromN (fun i => byN a (31 - i)) i = a / 2 ^ (8 * (32 - i)) * 2 ^ (8 * (32 - i)) := by
    intro i
    induction i with
    | zero =>
      intro _
      have e : M = 2 ^ (8 * (32 - 0)) := by decide
      rw [Nat.div_eq_of_lt (by rw [← e]; exact ha), Nat.zero_mul]
      rfl
    | succ i ih =>
      intro h
      unfold fromN
      rw [ih (by omega), show 32 - (i + 1) = 31 - i by omega, show 8 * (32 - i) = 8 * (31 - i) + 8 by omega, Nat.pow_add, ← Nat.div_div_eq_div_mul]
      unfold byN
      generalize a / 2 ^ (8 * (31 - i)) = x
      generalize 2 ^ (8 * (31 - i)) = y
      have hx := Nat.div_add_mod x 256
      rw [show (2 : Nat) ^ 8 = 256 from rfl]
      rw [Nat.mul_comm y 256, ← Nat.mul_assoc, ← Nat.add_mul]
      congr 1
      omega
  have := key 32 (Nat.le_refl _)
  rw [this, show 8 * (32 - 32) = 0 from rfl, Nat.pow_zero, Nat.div_one, Nat.mul_one]
set_option maxRecDepth 100000 in
set_option maxHeartbeats 2000000 in
theorem fromBytes_any (r : Option Addr) (n c : Nat) (f : Nat → Nat) (w : World) (hf : ∀ i, f i < 256) (hr : n = 32 → ∃ g o, r = some ⟨g, o, none⟩ ∧ g < w.heap.size ∧ ∀ i, i < 32 → w.cell? ⟨g, o + i, none⟩ = some (.int .u8 ((f i : Nat) : Int))) :
    Calls Try.prog 81 #[.slice r n c] w (Pair w (if n = 32 then fromN f 32 else 0) (decide (n = 32))) := by
  go_enter Try.func81, Try.ntmps81
  by_cases hn : n = 32
  · subst hn
    obtain ⟨g, o, rfl, hg, hc⟩ := hr rfl
    go_wp2_with fail
    go_loopg [14] 32 (fun gg i wr => ∃ (k : Nat), k + gg = 32 ∧ i = .int .i64 (k : Int) ∧ Below w.heap.size w wr ∧ Row wr w.heap.size 31 (arr .u64 (fun _ => 0) 4) ∧ Row wr (w.heap.size + 1) 31 (arr .u64 (wordsOf (fromN f k)) 4))
    case atStart =>
      refine ⟨0, by omega, rfl, by go_grown, ?_, ?_⟩
      · repeat (first | (refine Row.new_at ?_; simp; done) | refine Row.alloc ?_ _)
      · rw [show fromN f 0 = 0 from rfl, wordsOf_zero]
        repeat (first | (refine Row.new_at ?_; simp; done) | refine Row.alloc ?_ _)
    case round =>
      obtain ⟨i, hi, rfl, hl, rr, ro⟩ := hrel
      by_cases hlt : i < 32
      · obtain ⟨k, hk⟩ : ∃ k, k + i = 31 := ⟨31 - i, by omega⟩
        have e0 : (31 : Int) - (i : Int) = (k : Int) := by omega
        have t1 : ((k : Int)).tdiv 8 = (k : Int) / 8 := Int.tdiv_eq_ediv_of_nonneg (by omega)
        have t2 : ((k : Int)).tmod 8 = (k : Int) % 8 := Int.tmod_eq_emod_of_nonneg (by omega)
        have t5 : (k : Int) / 8 < 4 := by omega
        have t6 : 0 ≤ (k : Int) / 8 := by omega
        have t7 : 0 ≤ (k : Int) % 8 := by omega
        have t8 : (k : Int) % 8 < 8 := by omega
        have t9 : ((k : Int) / 8).toNat = k / 8 := by omega
        have t10 : (8 * ((k : Int) % 8)).toNat = 8 * (k % 8) := by omega
        have ci : wr.cell? ⟨g, o + i, none⟩ = some (.int .u8 ((f i : Nat) : Int)) := ((bcell hl).1 g (o + i) hg).trans (hc i hlt)
        have wb : IntKind.u64.wrap ((f i : Nat) : Int) = ((f i : Nat) : Int) := by rw [IntKind.wrap_u64]; have := hf i; omega
        have co := ro.at_ (k / 8) (by omega)
        have fo := ro.frozen (k / 8)
        have S := Lib.hid (show _ ∧ _ ∧ _ from ⟨rr, ro, hk⟩)
        clear rr ro
        go_wp2_with fail
        go_region
        all_goals
          go_wp2_with fail
          go_roundg (gk - 1)
          case measure => omega
          case rel =>
            obtain ⟨rr, ro, hk⟩ := S.out
            obtain ⟨m, hm⟩ := fromN_mul f i (by omega)
            have hp := put_byte m (f i) k (hf i)
            rw [show 8 * (k + 1) = 8 * (32 - i) by omega, ← hm] at hp
            refine ⟨i + 1, by omega, by go_num, by go_grown, (rr.far (by dsimp only; omega) _).drew, ?_⟩
            refine ((ro.put (k / 8) (by omega) _).drew).congr ?_
            rw [hp]
            rw [show fromN f (i + 1) = fromN f i + f i * 2 ^ (8 * (31 - i)) from rfl, show 31 - i = k by omega]
      · obtain rfl : i = 32 := by omega
        have d0 := ro.at_ 0 (by omega)
        have d1 := ro.at_ 1 (by omega)
        have d2 := ro.at_ 2 (by omega)
        have d3 := ro.at_ 3 (by omega)
        have e0 := rr.at_ 0 (by omega)
        have e1 := rr.at_ 1 (by omega)
        have e2 := rr.at_ 2 (by omega)
        have e3 := rr.at_ 3 (by omega)
        have f0 := rr.frozen 0
        have f1 := rr.frozen 1
        have f2 := rr.frozen 2
        have f3 := rr.frozen 3
        have H := Lib.hid (show _ from rr)
        clear rr ro hlt
        go_wp2
        refine bodyPost_ret (results_ct rfl aggT31 rfl (H.out.store4 rfl _ _ _ _) rfl) rfl ?_
        exact ⟨_, _, _, _, rfl, wordsOf_isW _ (fromN_bd f hf), by go_grown⟩
  · have hne : ((n : Int) != 32) = true := by simp; omega
    have r0 : Row ((w.alloc (.cells #[Value.int .u64 0, Value.int .u64 0, Value.int .u64 0, Value.int .u64 0] 31)).alloc (.cells #[Value.int .u64 0, Value.int .u64 0, Value.int .u64 0, Value.int .u64 0] 31)) w.heap.size 31 #[Value.int .u64 0, Value.int .u64 0, Value.int .u64 0, Value.int .u64 0] := by
      repeat (first | (refine Row.new_at ?_; simp; done) | refine Row.alloc ?_ _)
    go_wp2_with fail
    refine bodyPost_ret (results_ct rfl aggT31 rfl r0 rfl) rfl ?_
    exact ⟨_, _, _, _, rfl, isW_zero, by go_grown⟩
end Go.Proofs.Ytpdenhmkpiafiaa
