/-
 What the statement rests on, part 1: Head GA GC GB.
-/
import Derived.Test.YtpdenhmkpiafiaaRows
import Derived.WalkKit
import Derived.ProofKit
import Derived.OpenShut
import Derived.Lib.Hide
import Derived.Deep.Draws
import Derived.Test.YtpdenhmkpiafiaaProg
import Derived.WalkLawsBesides
import Derived.Deep.LoopGhost
import Derived.Deep.RegionWith
import Derived.Handy
import Derived.Deep.QuietTactic
import Derived.BigQuiet
import Derived.BigRegion
import Derived.ChangeKeysEq
import Derived.Deep.DeepCutAuto
import Derived.Orders
import Derived.KernelRfl
import Derived.Laws.Tables
import Derived.Deep.MidRow
namespace Go.Proofs.Ytpdenhmkpiafiaa
open Go Go.ChangeShapes Go.WideShapes Go.ChangeAt Go.RowKit
def w1 : List Nat := [104, 97, 114, 110, 101, 115, 115]
def w2 : List Nat := [49, 57, 55, 48, 53, 99, 97, 98, 51, 53, 49, 51, 56, 49, 54, 54, 50, 49, 49, 51, 55, 52, 98, 100, 55, 50, 56, 51, 98, 54, 56, 54, 97, 101, 48, 53, 53, 50, 98, 56, 52, 57, 56, 101, 56, 52, 48, 99, 55, 102, 53, 52, 57, 49, 57, 99, 50, 102, 53, 55, 50, 55, 57, 97]
def w3 : List Nat := [99, 117, 116]
def wr : List Nat := [97, 116, 32, 116, 97, 108, 108, 97, 103, 101, 47, 116, 97, 108, 108, 97, 103, 101, 108, 97, 119, 49, 52, 46, 69, 118, 101, 110, 116, 77, 97, 107, 101, 115, 32, 116, 97, 108, 108, 97, 103, 101, 47, 116, 97, 108, 108, 97, 103, 101, 108, 97, 119, 48, 52, 46, 79, 99, 116, 101, 116, 80, 117, 116, 115, 32, 116, 97, 108, 108, 97, 103, 101, 47, 116, 97, 108, 108, 97, 103, 101, 108, 97, 119, 48, 49, 46, 87, 111, 114, 100, 79, 114, 100, 101, 114, 32, 116, 97, 108, 108, 97, 103, 101, 47, 116, 97, 108, 108, 97, 103, 101, 108, 97, 119, 48, 49, 46, 87, 111, 114, 100, 82, 101, 99, 107, 111, 110, 115, 32, 116, 97, 108, 108, 97, 103, 101, 47, 116, 97, 108, 108, 97, 103, 101, 108, 97, 119, 48, 52, 46, 79, 99, 116, 101, 116, 79, 110, 99, 101, 32, 116, 97, 108, 108, 97, 103, 101, 47, 116, 97, 108, 108, 97, 103, 101, 108, 97, 119, 48, 52, 46, 79, 99, 116, 101, 116, 66, 97, 99, 107, 32, 116, 97, 108, 108, 97, 103, 101, 47, 116, 97, 108, 108, 97, 103, 101, 108, 97, 119, 48, 52, 46, 79, 99, 116, 101, 116, 71, 101, 116, 115, 32, 116, 97, 108, 108, 97, 103, 101, 47, 116, 97, 108, 108, 97, 103, 101, 108, 97, 119, 48, 52, 46, 79, 99, 116, 101, 116, 78, 111, 110, 101, 32, 116, 97, 108, 108, 97, 103, 101, 47, 116, 97, 108, 108, 97, 103, 101, 108, 97, 119, 49, 52, 46, 69, 118, 101, 110, 116, 70, 111, 114, 109, 115, 32, 116, 97, 108, 108, 97, 103, 101, 47, 116, 97, 108, 108, 97, 103, 101, 108, 97, 119, 48, 49, 46, 87, 111, 114, 100, 66, 97, 99, 107, 32, 116, 97, 108, 108, 97, 103, 101, 47, 116, 97, 108, 108, 97, 103, 101, 108, 97, 119, 48, 50, 46, 77, 117, 108, 100, 105, 118, 68, 105, 118, 105, 100, 101, 115, 32, 116, 97, 108, 108, 97, 103, 101, 47, 116, 97, 108, 108, 97, 103, 101, 108, 97, 119, 48, 50, 46, 77, 117, 108, 100, 105, 118, 81, 117, 111, 32, 116, 97, 108, 108, 97, 103, 101, 47, 116, 97, 108, 108, 97, 103, 101, 108, 97, 119, 48, 50, 46, 77, 117, 108, 100, 105, 118, 82, 111, 117, 110, 100, 115, 32, 116, 97, 108, 108, 97, 103, 101, 47, 116, 97, 108, 108, 97, 103, 101, 108, 97, 119, 48, 50, 46, 77, 117, 108, 100, 105, 118, 83, 99, 97, 108, 101, 115, 32, 116, 97, 108, 108, 97, 103, 101, 47, 116, 97, 108, 108, 97, 103, 101, 108, 97, 119, 48, 49, 46, 87, 111, 114, 100, 70, 111, 114, 109, 115, 32, 116, 97, 108, 108, 97, 103, 101, 47, 116, 97, 108, 108, 97, 103, 101, 108, 97, 119, 48, 51, 46, 87, 97, 100, 80, 97, 114, 116, 115, 32, 116, 97, 108, 108, 97, 103, 101, 47, 116, 97, 108, 108, 97, 103, 101, 108, 97, 119, 48, 51, 46, 87, 97, 100, 83, 116, 101, 112, 115, 32, 116, 97, 108, 108, 97, 103, 101, 47, 116, 97, 108, 108, 97, 103, 101, 108, 97, 119, 48, 51, 46, 87, 97, 100, 83, 99, 97, 108, 101, 115, 32, 116, 97, 108, 108, 97, 103, 101, 47, 116, 97, 108, 108, 97, 103, 101, 108, 97, 119, 49, 56, 46, 82, 97, 116, 101, 84, 101, 108, 108, 115, 32, 116, 97, 108, 108, 97, 103, 101, 47, 116, 97, 108, 108, 97, 103, 101, 108, 97, 119, 49, 56, 46, 82, 97, 116, 101, 83, 116, 97, 121, 115, 32, 116, 97, 108, 108, 97, 103, 101, 47, 116, 97, 108, 108, 97, 103, 101, 108, 97, 119, 49, 56, 46, 82, 97, 116, 101, 66, 97, 99, 107, 32, 116, 97, 108, 108, 97, 103, 101, 47, 116, 97, 108, 108, 97, 103, 101, 108, 97, 119, 48, 51, 46, 87, 97, 100, 82, 101, 99, 107, 111, 110, 115, 32, 116, 97, 108, 108, 97, 103, 101, 47, 116, 97, 108, 108, 97, 103, 101, 108, 97, 119, 49, 53, 46, 84, 120, 75, 105, 110, 100, 115, 32, 116, 97, 108, 108, 97, 103, 101, 47, 116, 97, 108, 108, 97, 103, 101, 108, 97, 119, 49, 53, 46, 84, 120, 70, 111, 114, 109, 115, 32, 116, 97, 108, 108, 97, 103, 101, 47, 116, 97, 108, 108, 97, 103, 101, 108, 97, 119, 49, 52, 46, 69, 118, 101, 110, 116, 82, 101, 97, 100, 115, 32, 116, 97, 108, 108, 97, 103, 101, 47, 116, 97, 108, 108, 97, 103, 101, 108, 97, 119, 50, 48, 46, 70, 97, 99, 116, 111, 114, 71, 114, 111, 119, 115, 32, 116, 97, 108, 108, 97, 103, 101, 47, 116, 97, 108, 108, 97, 103, 101, 108, 97, 119, 50, 48, 46, 70, 97, 99, 116, 111, 114, 80, 97, 114, 116, 115, 32, 116, 97, 108, 108, 97, 103, 101, 47, 116, 97, 108, 108, 97, 103, 101, 108, 97, 119, 50, 48, 46, 70, 97, 99, 116, 111, 114, 77, 111, 118, 101, 115, 32, 116, 97, 108, 108, 97, 103, 101, 47, 116, 97, 108, 108, 97, 103, 101, 108, 97, 119, 49, 52, 46, 69, 118, 101, 110, 116, 66, 97, 99, 107, 32, 116, 97, 108, 108, 97, 103, 101, 47, 116, 97, 108, 108, 97, 103, 101, 108, 97, 119, 49, 53, 46, 84, 120, 82, 101, 97, 100, 115, 32, 116, 97, 108, 108, 97, 103, 101, 47, 116, 97, 108, 108, 97, 103, 101, 108, 97, 119, 49, 53, 46, 84, 120, 66, 97, 99, 107]
def signs (l : List Nat) : List Char := l.map Char.ofNat
set_option maxRecDepth 100000 in
theorem head_text : Try.prog.initOrder = String.ofList (signs w1 ++ (Char.ofNat 32 :: (signs w2 ++ (Char.ofNat 32 :: (signs w3 ++ (Char.ofNat 32 :: signs wr)))))) := by kernel_rfl
theorem words_at : ∀ (a : List Char) (r : List Char), (a.all fun c => !(c == Char.ofNat 32)) = true → wordsSigns (a ++ Char.ofNat 32 :: r) = a :: wordsSigns r
 | [], r, _ => wordsSigns.eq_2 r
 | c :: a, r, h => by
  rw [List.all_cons, Bool.and_eq_true] at h
  have hc : c = Char.ofNat 32 → False := by simpa using h.1
  rw [List.cons_append, wordsSigns.eq_3 c _ hc, words_at a r h.2]
theorem behind_of (r : List (List Char)) : behindMainWord (signs w1 :: signs w2 :: signs w3 :: r) = signs w3 :: r := by
 have h : ((signs w1 == "harness".toList || signs w1 == "ownmain".toList) && isSumSigns (signs w2)) = true := by kernel_rfl
 rw [behindMainWord.eq_1, if_pos h]
theorem head_words : behindMainWord (wordsSigns Try.prog.initOrder.toList) = signs w3 :: wordsSigns (signs wr) := by
 rw [head_text, String.toList_ofList, words_at _ _ (by kernel_rfl), words_at _ _ (by kernel_rfl), words_at _ _ (by kernel_rfl)]
 exact behind_of _
theorem strip_at (ws : List (List Char)) : stripLifts liftWords (signs w3 :: ws) = ([], signs w3 :: ws) := by kernel_rfl
section
variable {P : Program} {ws : List (List Char)} (hP : behindMainWord (wordsSigns P.initOrder.toList) = signs w3 :: ws)
include hP
theorem lifts_of : P.headLifts = [] := by
 unfold Program.headLifts
 rw [hP, strip_at]
 simp
theorem make_of : P.make = some .cut := by
 have h1 : (signs w3 == "gc".toList || signs w3 == "spec".toList) = false := by kernel_rfl
 have h2 : (signs w3 == "cut".toList) = true := by kernel_rfl
 unfold Program.make
 rw [hP]
 simp only [h1, h2, Bool.true_or]
 simp
theorem final_of : P.liftsFinal = false := by
 have h : (some (signs w3) == some "carried".toList) = false := by kernel_rfl
 unfold Program.liftsFinal
 rw [hP, lifts_of hP]
 simp only [List.head?_cons, h, Bool.false_and, Bool.false_or]
 rfl
theorem enter_of (h1 : P.laysLater = false) (h2 : P.bearsReflect = false) (h3 : P.doorFits [] = true) : P.mayEnter = true := by
 have h : (some (signs w3) == some "cut".toList) = true := by kernel_rfl
 unfold Program.mayEnter
 rw [hP]
 simp only [strip_at, List.head?_cons, h, h1, h2, h3]
 simp
end
theorem laysNo : Try.prog.laysLater = false := by kernel_rfl
theorem bearsNo : Try.prog.bearsReflect = false := by kernel_rfl
theorem doorOk : Try.prog.doorFits [] = true := by kernel_rfl
theorem head_make : Try.prog.make = some .cut := make_of head_words
theorem head_final : Try.prog.liftsFinal = false := final_of head_words
theorem head_enter : Try.prog.mayEnter = true := enter_of head_words laysNo bearsNo doorOk
end Go.Proofs.Ytpdenhmkpiafiaa

namespace Go.Proofs.Ytpdenhmkpiafiaa
open Go Go.RowKit
def Row (w : World) (g t : Nat) (cs : Array Value) : Prop := w.heap[g]? = some (.cells cs t (0, 0))
section
variable {w w' : World} {g t : Nat} {cs : Array Value}
theorem Row.lt (h : Row w g t cs) : g < w.heap.size := by
 rcases Nat.lt_or_ge g w.heap.size with hlt | hge
 ·exact hlt
 ·unfold Row at h; rw [Array.getElem?_eq_none hge] at h; cases h
theorem Row.cell (h : Row w g t cs) (i : Nat) : w.cell? ⟨g, i, none⟩ = cs[i]? := cell_of_row w g i cs t (0, 0) h
theorem Row.frozen (h : Row w g t cs) (i : Nat) : w.frozen? ⟨g, i, none⟩ = false := by
 unfold Row at h
 simp [World.frozen?, h]
theorem Row.new_at (hg : w.heap.size = g) : Row (w.alloc (.cells cs t)) g t cs := by subst hg; exact heap_alloc_new w _
theorem Row.alloc (h : Row w g t cs) (o : Obj) : Row (w.alloc o) g t cs := (Below.heap_alloc w o g h.lt).trans h
theorem Row.drew (h : Row w g t cs) : Row w.drew g t cs := h
theorem Row.drewN (h : Row w g t cs) (n : Nat) : Row (w.drewN n) g t cs := h
theorem belowDN {B : Nat} {a w : World} (h : Below B a w) (n : Nat) : Below B a (w.drewN n) := ⟨h.os, h.tape, h.output, h.size, h.block⟩
theorem Row.far (h : Row w g t cs) {p : Addr} (hp : g ≠ p.block) (u : Value) : Row (w.setCell p u) g t cs := (Below.heap_setCell w p u g hp).trans h
theorem Row.set (h : Row w g t cs) (i : Nat) (u : Value) : Row (w.setCell ⟨g, i, none⟩ u) g t (cs.setIfInBounds i u) := by
 unfold Row at h ⊢
 simp [World.setCell, Array.getElem?_modify, h]
theorem Row.below {B : Nat} (h : Row w g t cs) (hb : Below B w w') (hg : g < B) : Row w' g t cs := (hb.block g hg).trans h
theorem Row.congr {cs' : Array Value} (h : Row w g t cs) (e : cs = cs') : Row w g t cs' := e ▸ h
end
theorem Row.store4 {w : World} {g t : Nat} {cs : Array Value} (h : Row w g t cs) (hs : cs.size = 4) (v0 v1 v2 v3 : Value) :
  Row ((((w.setCell ⟨g, 0, none⟩ v0).setCell ⟨g, 1, none⟩ v1).setCell ⟨g, 2, none⟩ v2).setCell ⟨g, 3, none⟩ v3) g t #[v0, v1, v2, v3] := by
 refine ((((h.set 0 v0).set 1 v1).set 2 v2).set 3 v3).congr ?_
 obtain ⟨l⟩ := cs
 match l, hs with
 | [a, b, c, d], _ => rfl
theorem bcell {B : Nat} {w w1 : World} (hb : Below B w w1) : (∀ b o, b < B → w1.cell? ⟨b, o, none⟩ = w.cell? ⟨b, o, none⟩) ∧ (∀ b o, b < B → w1.frozen? ⟨b, o, none⟩ = w.frozen? ⟨b, o, none⟩) :=
 ⟨fun b o h => hb.cell (p := ⟨b, o, none⟩) h, fun b o h => hb.frozen (p := ⟨b, o, none⟩) h⟩
def Kept (w : World) (L : List (Nat × Nat × Array Value)) (wc : World) : Prop := Below w.heap.size w wc ∧ ∀ x ∈ L, Row wc x.1 x.2.1 x.2.2
theorem Kept.step {w wc w' : World} {L : List (Nat × Nat × Array Value)} {B : Nat} (h : Kept w L wc) (hb : Below B wc w') (hB : wc.heap.size ≤ B) : Kept w L w' :=
 ⟨h.1.trans (hb.mono (Nat.le_trans h.1.size hB)), fun x hx => (h.2 x hx).below hb (Nat.lt_of_lt_of_le (h.2 x hx).lt hB)⟩
theorem Kept.one {w wc : World} (h : Below w.heap.size w wc) : Kept w [] wc := ⟨h, fun _ hx => by simp at hx⟩
theorem Kept.head {w wc : World} {L : List (Nat × Nat × Array Value)} {g t : Nat} {cs : Array Value} (h : Kept w ((g, t, cs) :: L) wc) : Row wc g t cs := h.2 (g, t, cs) (List.mem_cons_self ..)
theorem Kept.tail {w wc : World} {L : List (Nat × Nat × Array Value)} {x : Nat × Nat × Array Value} (h : Kept w (x :: L) wc) : Kept w L wc := ⟨h.1, fun y hy => h.2 y (List.mem_cons_of_mem _ hy)⟩
theorem Kept.drew {w wc : World} {L : List (Nat × Nat × Array Value)} (h : Kept w L wc) : Kept w L wc.drew := ⟨h.1.drew, h.2⟩
def aggB : TypeDesc → Bool
 | .struct _ => true
 | .array _ _ => true
 | _ => false
def AggT (P : Program) (ty n : Nat) : Prop := (∃ d, P.underlying ty = some d ∧ aggB d = true) ∧ (P.info? ty).map (·.size) = some n
section
variable {P : Program} {w : World} {g t ty ty' g' t' n n' : Nat} {cs cs' : Array Value} {tmps : Array Value} {fn : Func} {p p' q : Tmp}
theorem AggT.load (T : AggT P ty n) (hr : Row w g t cs) (hs : cs.size = n) : (loadVar ty ⟨g, 0, none⟩).run P w = .ok (.agg cs) w := by
 subst hs
 obtain ⟨⟨d, hu, hd⟩, hi⟩ := T
 cases d
 case struct => exact run_loadVar_row w g t ty cs (0, 0) _ hr hu rfl hi
 case array => exact run_loadVar_row w g t ty cs (0, 0) _ hr hu rfl hi
 all_goals exact Bool.noConfusion hd
theorem results_c (h : fn.results = #[.cell p ty]) (T : AggT P ty n) (hp : tmps.getD p undef = .pointer (some ⟨g, 0, none⟩)) (hr : Row w g t cs) (hs : cs.size = n) :
  (results fn tmps).run P w = .ok (.agg cs) w := by
 have hp' : tmps[p]?.getD undef = .pointer (some ⟨g, 0, none⟩) := by simpa using hp
 simp [results, h, hp', asAddr, T.load hr hs]
theorem results_ct (h : fn.results = #[.cell p ty, .tmp q]) (T : AggT P ty n) (hp : tmps.getD p undef = .pointer (some ⟨g, 0, none⟩)) (hr : Row w g t cs) (hs : cs.size = n) :
  (results fn tmps).run P w = .ok (.tuple #[.agg cs, tmps.getD q undef]) w := by
 have hp' : tmps[p]?.getD undef = .pointer (some ⟨g, 0, none⟩) := by simpa using hp
 simp [results, h, hp', asAddr, T.load hr hs]
end
def arr (k : IntKind) (f : Nat → Int) (L : Nat) : Array Value := ((List.range L).map fun i => Value.int k (f i)).toArray
def upd (f : Nat → Int) (i : Nat) (x : Int) : Nat → Int := fun j => if j = i then x else f j
theorem upd_same (f : Nat → Int) (i : Nat) (x : Int) : upd f i x i = x := by simp [upd]
theorem upd_ne (f : Nat → Int) (i j : Nat) (x : Int) (h : j ≠ i) : upd f i x j = f j := by simp [upd, h]
theorem arr_get (k : IntKind) (f : Nat → Int) (L i : Nat) (h : i < L) : (arr k f L)[i]? = some (.int k (f i)) := by simp [arr, h]
theorem arr_set (k : IntKind) (f : Nat → Int) (L i : Nat) (x : Int) (h : i < L) : (arr k f L).setIfInBounds i (.int k x) = arr k (upd f i x) L := by
 apply Array.ext
 ·simp [arr]
 ·intro j h1 h2
  have hj : j < L := by simpa [arr] using h2
  by_cases e : j = i
  ·subst e; simp [arr, upd]
  ·simp [arr, upd, e, Ne.symm e]
theorem Row.at_ {w : World} {g t L : Nat} {k : IntKind} {f : Nat → Int} (h : Row w g t (arr k f L)) (i : Nat) (hi : i < L) : w.cell? ⟨g, i, none⟩ = some (.int k (f i)) := by
 rw [h.cell, arr_get _ _ _ _ hi]
theorem Row.put {w : World} {g t L : Nat} {k : IntKind} {f : Nat → Int} (h : Row w g t (arr k f L)) (i : Nat) (hi : i < L) (x : Int) : Row (w.setCell ⟨g, i, none⟩ (.int k x)) g t (arr k (upd f i x) L) :=
 (h.set i _).congr (arr_set k f L i x hi)
def sel4 (x0 x1 x2 x3 : Int) : Nat → Int := fun i => if i = 0 then x0 else if i = 1 then x1 else if i = 2 then x2 else x3
def W : Int := 18446744073709551616
def psum (f : Nat → Int) : Nat → Int
 | 0 => 0
 | n + 1 => psum f n + f n * W ^ n
theorem psum_congr {f g : Nat → Int} : ∀ {n : Nat}, (∀ i, i < n → f i = g i) → psum f n = psum g n
 | 0, _ => rfl
 | n + 1, h => by
  unfold psum
  rw [psum_congr fun i hi => h i (by omega), h n (by omega)]
theorem psum_upd_ge (f : Nat → Int) (i : Nat) (x : Int) {n : Nat} (h : n ≤ i) : psum (upd f i x) n = psum f n :=
 psum_congr fun j hj => upd_ne _ _ _ _ (by omega)
def Wordy (f : Nat → Int) : Prop := ∀ i, 0 ≤ f i ∧ f i < W
theorem Wordy.upd {f : Nat → Int} (h : Wordy f) (i : Nat) {x : Int} (hx : 0 ≤ x ∧ x < W) : Wordy (upd f i x) := fun j => by
 by_cases e : j = i
 ·rw [e, upd_same]; exact hx
 ·rw [upd_ne _ _ _ _ e]; exact h j
theorem wordy_zero : Wordy fun _ => 0 := fun _ => ⟨Int.le_refl _, by show (0 : Int) < W; unfold W; decide⟩
theorem W_pos : (0 : Int) < W := by unfold W; omega
theorem Wpow_pos (n : Nat) : (0 : Int) < W ^ n := Int.pow_pos W_pos
theorem psum_bd {f : Nat → Int} (h : Wordy f) : ∀ n, 0 ≤ psum f n ∧ psum f n < W ^ n
 | 0 => ⟨Int.le_refl _, by simp [psum]⟩
 | n + 1 => by
  have ih := psum_bd h n
  have hn := h n
  have hp := Wpow_pos n
  unfold psum
  rw [Int.pow_succ]
  have h1 : 0 ≤ f n * W ^ n := Int.mul_nonneg hn.1 (by omega)
  have h2 : f n * W ^ n ≤ (W - 1) * W ^ n := Int.mul_le_mul_of_nonneg_right (by omega) (by omega)
  have h3 : (W - 1) * W ^ n = W ^ n * W - W ^ n := by rw [Int.sub_mul, Int.one_mul, Int.mul_comm]
  omega
theorem psum_zero : ∀ n, psum (fun _ => 0) n = 0
 | 0 => rfl
 | n + 1 => by unfold psum; rw [psum_zero n]; simp
structure IsW (x0 x1 x2 x3 : Int) (n : Nat) : Prop where
 wordy : Wordy (sel4 x0 x1 x2 x3)
 val : (n : Int) = psum (sel4 x0 x1 x2 x3) 4
theorem Wordy.four {f : Nat → Int} (h : Wordy f) : Wordy (sel4 (f 0) (f 1) (f 2) (f 3)) := fun i => by
 unfold sel4; split
 ·exact h 0
 ·split
  ·exact h 1
  ·split
   ·exact h 2
   ·exact h 3
theorem psum_four (f : Nat → Int) : psum (sel4 (f 0) (f 1) (f 2) (f 3)) 4 = psum f 4 := by
 apply psum_congr
 intro i hi
 have : i = 0 ∨ i = 1 ∨ i = 2 ∨ i = 3 := by omega
 rcases this with rfl | rfl | rfl | rfl <;> rfl
theorem IsW.of {f : Nat → Int} (h : Wordy f) {n : Nat} (hn : (n : Int) = psum f 4) : IsW (f 0) (f 1) (f 2) (f 3) n := ⟨h.four, by rw [psum_four]; exact hn⟩
theorem IsW.lt {x0 x1 x2 x3 : Int} {n : Nat} (h : IsW x0 x1 x2 x3 n) : (n : Int) < W ^ 4 := h.val ▸ (psum_bd h.wordy 4).2
end Go.Proofs.Ytpdenhmkpiafiaa
namespace Go.Proofs.Ytpdenhmkpiafiaa
open Go Go.RowKit
def cS (a b c : Int) : Int := (a + b + c) % 18446744073709551616
def cC (a b c : Int) : Int := (a + b + c) / 18446744073709551616
def bS (a b c : Int) : Int := (a - b - c) % 18446744073709551616
def bC (a b c : Int) : Int := -((a - b - c) / 18446744073709551616)
def pH (a b : Int) : Int := a * b / 18446744073709551616
def pL (a b : Int) : Int := a * b % 18446744073709551616
theorem cS_bd (a b c : Int) : 0 ≤ cS a b c ∧ cS a b c < W := by unfold cS W; omega
theorem carry_val (a b c : Int) : cS a b c + W * cC a b c = a + b + c := by unfold cS cC W; omega
theorem bC_bd (a b c : Int) (ha : 0 ≤ a ∧ a < 18446744073709551616) (hb : 0 ≤ b ∧ b < 18446744073709551616) (hc : 0 ≤ c ∧ c ≤ 1) : 0 ≤ bC a b c ∧ bC a b c ≤ 1 := by
 unfold bC; omega
theorem bS_bd (a b c : Int) : 0 ≤ bS a b c ∧ bS a b c < W := by unfold bS W; omega
theorem borrow_val (a b c : Int) : bS a b c - W * bC a b c = a - b - c := by unfold bS bC W; omega
end Go.Proofs.Ytpdenhmkpiafiaa
namespace Go.Proofs.Ytpdenhmkpiafiaa
open Go Go.RowKit
end Go.Proofs.Ytpdenhmkpiafiaa
namespace Go.Proofs.Ytpdenhmkpiafiaa
open Go Go.RowKit
def M : Nat := 115792089237316195423570985008687907853269984665640564039457584007913129639936
theorem M_W : (M : Int) = W ^ 4 := by unfold M W; decide
theorem IsW.ltM {x0 x1 x2 x3 : Int} {n : Nat} (h : IsW x0 x1 x2 x3 n) : n < M := by have := h.lt; rw [← M_W] at this; omega
theorem isW_zero : IsW 0 0 0 0 0 := ⟨fun i => by unfold sel4; (repeat' split) <;> exact ⟨Int.le_refl _, W_pos⟩, by simp [psum, sel4]⟩
def addN (a b : Nat) : Nat := if a + b < M then a + b else 0
def addB (a b : Nat) : Bool := decide (a + b < M)
def subB (a b : Nat) : Bool := decide (b ≤ a)
theorem aggT31 : AggT Try.prog 31 4 := ⟨⟨_, Try.underlying31, rfl⟩, by kernel_rfl⟩
def Pair (w : World) (n : Nat) (ok : Bool) (e : Ending) (w' : World) : Prop :=
 ∃ x0 x1 x2 x3 : Int, e = .returned (.tuple #[.agg #[.int .u64 x0, .int .u64 x1, .int .u64 x2, .int .u64 x3], .bool ok]) ∧ IsW x0 x1 x2 x3 n ∧ Below w.heap.size w w'
def AddInv (f : Nat → Int) (C : Int) (a b : Nat → Int) (k : Nat) : Prop := Wordy f ∧ psum f k + C * W ^ k = psum a k + psum b k
theorem AddInv.step {f a b : Nat → Int} {C : Int} {k : Nat} (h : AddInv f C a b k) : AddInv (upd f k (cS (a k) (b k) C)) (cC (a k) (b k) C) a b (k + 1) := by
 refine ⟨h.1.upd k (cS_bd _ _ _), ?_⟩
 have h2 := h.2
 have hv := carry_val (a k) (b k) C
 simp only [psum]
 rw [psum_upd_ge _ _ _ (Nat.le_refl k), upd_same, Int.pow_succ]
 generalize W ^ k = X at *
 generalize cS (a k) (b k) C = s at *
 generalize cC (a k) (b k) C = t at *
 grind
def SubInv (f : Nat → Int) (C : Int) (a b : Nat → Int) (k : Nat) : Prop := Wordy f ∧ psum f k - C * W ^ k = psum a k - psum b k
theorem SubInv.step {f a b : Nat → Int} {C : Int} {k : Nat} (h : SubInv f C a b k) : SubInv (upd f k (bS (a k) (b k) C)) (bC (a k) (b k) C) a b (k + 1) := by
 refine ⟨h.1.upd k (bS_bd _ _ _), ?_⟩
 have h2 := h.2
 have hv := borrow_val (a k) (b k) C
 simp only [psum]
 rw [psum_upd_ge _ _ _ (Nat.le_refl k), upd_same, Int.pow_succ]
 generalize W ^ k = X at *
 generalize bS (a k) (b k) C = s at *
 generalize bC (a k) (b k) C = t at *
 grind
theorem AddInv.none {f : Nat → Int} {C a0 a1 a2 a3 b0 b1 b2 b3 : Int} {a b : Nat} (h : AddInv f C (sel4 a0 a1 a2 a3) (sel4 b0 b1 b2 b3) 4) (ha : IsW a0 a1 a2 a3 a) (hb : IsW b0 b1 b2 b3 b) (hC : C = 0) :
  IsW (f 0) (f 1) (f 2) (f 3) (addN a b) ∧ addB a b = true := by
 have h2 := h.2
 rw [hC, Int.zero_mul, Int.add_zero, ← ha.val, ← hb.val] at h2
 have hl := (psum_bd h.1 4).2
 rw [← M_W] at hl
 have hlt : a + b < M := by omega
 exact ⟨IsW.of h.1 (by unfold addN; rw [if_pos hlt, h2]; omega), by simp [addB, hlt]⟩
theorem AddInv.some_ {f : Nat → Int} {C a0 a1 a2 a3 b0 b1 b2 b3 : Int} {a b : Nat} (h : AddInv f C (sel4 a0 a1 a2 a3) (sel4 b0 b1 b2 b3) 4) (ha : IsW a0 a1 a2 a3 a) (hb : IsW b0 b1 b2 b3 b) (hC : C = 1) :
  addN a b = 0 ∧ addB a b = false := by
 have h2 := h.2
 rw [hC, Int.one_mul, ← M_W, ← ha.val, ← hb.val] at h2
 have hl := (psum_bd h.1 4).1
 have hge : ¬ a + b < M := by omega
 exact ⟨by unfold addN; rw [if_neg hge], by simp [addB, hge]⟩
theorem SubInv.none {f : Nat → Int} {C a0 a1 a2 a3 b0 b1 b2 b3 : Int} {a b : Nat} (h : SubInv f C (sel4 a0 a1 a2 a3) (sel4 b0 b1 b2 b3) 4) (ha : IsW a0 a1 a2 a3 a) (hb : IsW b0 b1 b2 b3 b) (hC : C = 0) :
  IsW (f 0) (f 1) (f 2) (f 3) (a - b) ∧ subB a b = true := by
 have h2 := h.2
 rw [hC, Int.zero_mul, Int.sub_zero, ← ha.val, ← hb.val] at h2
 have hl := (psum_bd h.1 4).1
 have hle : b ≤ a := by omega
 exact ⟨IsW.of h.1 (by rw [h2]; omega), by simp [subB, hle]⟩
theorem SubInv.some_ {f : Nat → Int} {C a0 a1 a2 a3 b0 b1 b2 b3 : Int} {a b : Nat} (h : SubInv f C (sel4 a0 a1 a2 a3) (sel4 b0 b1 b2 b3) 4) (ha : IsW a0 a1 a2 a3 a) (hb : IsW b0 b1 b2 b3 b) (hC : C = 1) :
  a - b = 0 ∧ subB a b = false := by
 have h2 := h.2
 rw [hC, Int.one_mul, ← M_W, ← ha.val, ← hb.val] at h2
 have hl := (psum_bd h.1 4).2
 rw [← M_W] at hl
 have hge : ¬ b ≤ a := by omega
 exact ⟨by omega, by simp [subB, hge]⟩
end Go.Proofs.Ytpdenhmkpiafiaa
namespace Go.Proofs.Ytpdenhmkpiafiaa
open Go Go.RowKit
def wlen (n : Nat) : Nat := if n = 0 then 0 else if n < 18446744073709551616 then 1 else if n < 340282366920938463463374607431768211456 then 2 else if n < 6277101735386680763835789423207666416102355444464034512896 then 3 else 4
theorem wlen_le (n : Nat) : wlen n ≤ 4 := by unfold wlen; (repeat' split) <;> omega
theorem psum_top {f : Nat → Int} (h : Wordy f) (k : Nat) (hk : f k ≠ 0) : W ^ k ≤ psum f (k + 1) := by
 have h1 := (psum_bd h k).1
 have h2 := h k
 have h3 := Wpow_pos k
 have h4 : 1 * W ^ k ≤ f k * W ^ k := Int.mul_le_mul_of_nonneg_right (by omega) (by omega)
 unfold psum; omega
theorem wlen_eq {n k : Nat} {f : Nat → Int} (h : Wordy f) (hk : f k ≠ 0) (hlt : k < 4) (hn : (n : Int) = psum f (k + 1)) : wlen n = k + 1 := by
 have h1 := psum_top h k hk
 have h2 := (psum_bd h (k + 1)).2
 rw [← hn] at h1 h2
 have : k = 0 ∨ k = 1 ∨ k = 2 ∨ k = 3 := by omega
 rcases this with rfl | rfl | rfl | rfl <;> simp [W] at h1 h2 <;> unfold wlen <;> (repeat' split) <;> omega
set_option maxHeartbeats 400000 in
theorem used_any (a0 a1 a2 a3 : Int) (a : Nat) (ha : IsW a0 a1 a2 a3 a) (w : World) :
  Calls Try.prog 159 #[.agg #[.int .u64 a0, .int .u64 a1, .int .u64 a2, .int .u64 a3]] w fun e w' => e = .returned (.int .i64 (wlen a)) ∧ Below w.heap.size w w' := by
 go_enter Try.func159, Try.ntmps159
 go_wp2
 go_loopg [3] 4 (fun g i wr => ∃ (k : Nat), k = g ∧ k ≤ 4 ∧ i = .int .i64 (k : Int) ∧ Below w.heap.size w wr ∧ Row wr w.heap.size 31 (arr .u64 (sel4 a0 a1 a2 a3) 4) ∧ Hid ((a : Int) = psum (sel4 a0 a1 a2 a3) k))
 case atStart =>
  refine ⟨4, rfl, by omega, rfl, by go_grown, ?_, ha.val⟩ <;> repeat (first | (refine Row.new_at ?_; simp; done) | refine Row.alloc ?_ _)
 case round =>
  obtain ⟨k, rfl, hk, rfl, hbl, ra, hv⟩ := hrel
  by_cases h0 : 0 < k
  ·obtain ⟨j, rfl⟩ : ∃ j, k = j + 1 := ⟨k - 1, by omega⟩
   have ca := ra.at_ j (by omega)
   have wa := ha.wordy j
   have H := Lib.hid (show _ ∧ _ from ⟨ra, hv⟩)
   clear ra hv
   have e1 : ((j + 1 : Nat) : Int) - 1 = (j : Int) := by omega
   have e2 : ((j + 1 : Nat) : Int).toNat - 1 = j := by omega
   by_cases hz : sel4 a0 a1 a2 a3 j = 0
   ·have hz' : (sel4 a0 a1 a2 a3 j != 0) = false := by simp [hz]
    have HZ := Lib.hid hz
    clear hz
    go_wp2
    go_roundg j
    case measure => omega
    case rel =>
     obtain ⟨ra, hv⟩ := H.out
     refine ⟨j, rfl, by omega, rfl, by go_grown, ra, ?_⟩
     have h := hv.out
     simp only [psum] at h
     rw [HZ.out] at h
     show (a : Int) = _
     rw [h]; simp
   ·have hz' : (sel4 a0 a1 a2 a3 j != 0) = true := by simp [hz]
    have fin := Lib.hid (wlen_eq ha.wordy hz (by omega) H.out.2.out)
    clear hz
    go_wp2
    go_ret
    exact ⟨by rw [fin.out]; rfl, by go_grown⟩
  ·obtain rfl : k = 0 := by omega
   have hz : a = 0 := by have := hv.out; simp [psum] at this; exact this
   have fin := Lib.hid hz
   clear hv hz h0
   go_wp2
   go_ret
   exact ⟨by rw [fin.out]; rfl, by go_grown⟩
def cmpN (a b : Nat) : Int := if a < b then -1 else if b < a then 1 else 0
theorem psum_lt {f g : Nat → Int} (hf : Wordy f) (hg : Wordy g) {k : Nat} (h : f k < g k) : psum f (k + 1) < psum g (k + 1) := by
 have h1 := (psum_bd hf k).2
 have h2 := (psum_bd hg k).1
 have h3 := Wpow_pos k
 have h4 : (f k + 1) * W ^ k ≤ g k * W ^ k := Int.mul_le_mul_of_nonneg_right (by omega) (by omega)
 rw [Int.add_mul, Int.one_mul] at h4
 simp only [psum]; omega
def CmpInv (a b : Nat) (f g : Nat → Int) (k : Nat) : Prop := (a : Int) - b = psum f k - psum g k
theorem CmpInv.lt {a b : Nat} {f g : Nat → Int} {k : Nat} (h : CmpInv a b f g (k + 1)) (hf : Wordy f) (hg : Wordy g) (hl : f k < g k) : cmpN a b = -1 := by
 have := psum_lt hf hg hl
 unfold CmpInv at h
 unfold cmpN; rw [if_pos (by omega)]
end Go.Proofs.Ytpdenhmkpiafiaa
namespace Go.Proofs.Ytpdenhmkpiafiaa
open Go Go.RowKit
def dblN (a b : Nat) : Nat := (2 * a + b) % M
def dblC (a b : Nat) : Nat := (2 * a + b) / M
def DblInv (f : Nat → Int) (C : Int) (a : Nat → Int) (b : Int) (k : Nat) : Prop := Wordy f ∧ 0 ≤ C ∧ C ≤ 1 ∧ (∀ i, k ≤ i → f i = a i) ∧ psum f k + C * W ^ k = 2 * psum a k + b
theorem DblInv.step {f a : Nat → Int} {C b : Int} {k : Nat} (h : DblInv f C a b k) : DblInv (upd f k ((2 * f k) % 18446744073709551616 + C)) (f k / 9223372036854775808) a b (k + 1) := by
 obtain ⟨h1, h2, h3, h4, h5⟩ := h
 have hk := h4 k (Nat.le_refl k)
 have hw := h1 k
 unfold W at hw
 refine ⟨h1.upd k (by unfold W; omega), by omega, by omega, fun i hi => ?_, ?_⟩
 ·rw [upd_ne _ _ _ _ (by omega)]; exact h4 i (by omega)
 ·simp only [psum]
  rw [psum_upd_ge _ _ _ (Nat.le_refl k), upd_same, Int.pow_succ, ← hk]
  have hv : (2 * f k) % 18446744073709551616 + W * (f k / 9223372036854775808) = 2 * f k := by unfold W; omega
  generalize W ^ k = X at *
  generalize (2 * f k) % 18446744073709551616 = s at *
  generalize f k / 9223372036854775808 = t at *
  grind
theorem DblInv.fin {f : Nat → Int} {C a0 a1 a2 a3 : Int} {a b : Nat} (h : DblInv f C (sel4 a0 a1 a2 a3) b 4) (ha : IsW a0 a1 a2 a3 a) : IsW (f 0) (f 1) (f 2) (f 3) (dblN a b) ∧ (dblC a b : Int) = C := by
 obtain ⟨h1, h2, h3, h4, h5⟩ := h
 rw [← ha.val, ← M_W] at h5
 have hb := psum_bd h1 4
 rw [← M_W] at hb
 have hM : (0 : Int) < M := by rw [M_W]; exact Wpow_pos 4
 obtain ⟨F, hF⟩ := Int.eq_ofNat_of_zero_le hb.1
 obtain ⟨c, rfl⟩ := Int.eq_ofNat_of_zero_le h2
 rw [hF] at h5 hb
 have h6 : F + c * M = 2 * a + b := by
  have : ((F + c * M : Nat) : Int) = ((2 * a + b : Nat) : Int) := by rw [Int.natCast_add, Int.natCast_mul]; omega
  exact Int.ofNat_inj.1 this
 have hFM : F < M := by omega
 refine ⟨IsW.of h1 ?_, ?_⟩
 ·unfold dblN; rw [hF, ← h6, Nat.add_mul_mod_self_right, Nat.mod_eq_of_lt hFM]
 ·unfold dblC; rw [← h6, Nat.add_mul_div_right _ _ (by omega), Nat.div_eq_of_lt hFM, Nat.zero_add]
def wrapN (a b : Nat) : Nat := (a + M - b) % M
def WrapInv (f : Nat → Int) (C : Int) (a b : Nat → Int) (k : Nat) : Prop := (∀ i, k ≤ i → f i = a i) ∧ 0 ≤ C ∧ C ≤ 1 ∧ SubInv f C a b k
theorem WrapInv.step {f a b : Nat → Int} {C : Int} {k : Nat} (h : WrapInv f C a b k) (ha : Wordy a) (hb : Wordy b) : WrapInv (upd f k (bS (f k) (b k) C)) (bC (f k) (b k) C) a b (k + 1) := by
 obtain ⟨h1, h2, h3, h4⟩ := h
 have hk := h1 k (Nat.le_refl k)
 have hc := bC_bd (a k) (b k) C (ha k) (hb k) ⟨h2, h3⟩
 rw [hk]
 exact ⟨fun i hi => by rw [upd_ne _ _ _ _ (by omega)]; exact h1 i (by omega), hc.1, hc.2, h4.step⟩
theorem WrapInv.fin {f : Nat → Int} {C a0 a1 a2 a3 b0 b1 b2 b3 : Int} {a b : Nat} (h : WrapInv f C (sel4 a0 a1 a2 a3) (sel4 b0 b1 b2 b3) 4) (ha : IsW a0 a1 a2 a3 a) (hb : IsW b0 b1 b2 b3 b) : IsW (f 0) (f 1) (f 2) (f 3) (wrapN a b) := by
 obtain ⟨h1, h2, h3, h4, h5⟩ := h
 rw [← ha.val, ← hb.val, ← M_W] at h5
 have hp := psum_bd h4 4
 rw [← M_W] at hp
 have la := ha.ltM
 have lb := hb.ltM
 refine IsW.of h4 ?_
 unfold wrapN
 rcases (show C = 0 ∨ C = 1 by omega) with rfl | rfl
 ·rw [Int.zero_mul] at h5
  have e : a + M - b = (a - b) + M := by omega
  rw [e, Nat.add_mod_right, Nat.mod_eq_of_lt (by omega)]; omega
 ·rw [Int.one_mul] at h5
  rw [Nat.mod_eq_of_lt (by omega)]; omega
end Go.Proofs.Ytpdenhmkpiafiaa
namespace Go.Proofs.Ytpdenhmkpiafiaa
open Go Go.RowKit
theorem psum_succ (f : Nat → Int) (n : Nat) : psum f (n + 1) = psum f n + f n * W ^ n := rfl
theorem psum_upd {f : Nat → Int} {k : Nat} (x : Int) : ∀ {n : Nat}, k < n → psum (upd f k x) n = psum f n + (x - f k) * W ^ k
 | 0, h => absurd h (by omega)
 | n + 1, h => by
  unfold psum
  by_cases e : k = n
  ·subst e
   rw [psum_upd_ge _ _ _ (Nat.le_refl k), upd_same, Int.sub_mul]; omega
  ·rw [psum_upd x (by omega), upd_ne _ _ _ _ (by omega)]; omega
def smQ (r x d : Int) : Int := (r * 18446744073709551616 + x) / d
def smR (r x d : Int) : Int := (r * 18446744073709551616 + x) % d
theorem quo_rem_of {n d q r : Int} (h0 : 0 ≤ r) (h1 : r < d) (h : n = d * q + r) : n / d = q ∧ n % d = r := by
 subst h
 have hd : d ≠ 0 := by omega
 exact ⟨by rw [Int.add_comm, Int.add_mul_ediv_left _ _ hd, Int.ediv_eq_zero_of_lt h0 h1, Int.zero_add], by rw [Int.add_comm, Int.add_mul_emod_self_left, Int.emod_eq_of_lt h0 h1]⟩
def SmInv (f : Nat → Int) (R : Int) (a : Nat → Int) (D : Int) (k : Nat) : Prop := Wordy f ∧ 0 ≤ R ∧ R < D ∧ (∀ i, i < k → f i = a i) ∧ D * (psum f 4 - psum f k) + R * W ^ k = psum a 4 - psum a k
theorem sm_ring {D F G y X R A B r q V : Int} (h5 : D * (F - (G + y * X)) + R * (X * V) = A - (B + y * X)) (h : (r + D * q) * X = (R * V + y) * X) : D * (F + (q - y) * X - G) + r * X = A - B := by
 grind
theorem SmInv.step {f a : Nat → Int} {R D : Int} {k : Nat} (h : SmInv f R a D (k + 1)) (hk : k < 4) : SmInv (upd f k (smQ R (f k) D)) (smR R (f k) D) a D k := by
 obtain ⟨h1, h2, h3, h4, h5⟩ := h
 have wk := h1 k
 have hD : 0 < D := by omega
 have e := Int.emod_add_mul_ediv (R * 18446744073709551616 + f k) D
 have q0 : 0 ≤ smQ R (f k) D := Int.ediv_nonneg (by omega) (by omega)
 have q1 : smQ R (f k) D < W := Int.ediv_lt_of_lt_mul hD (by unfold W at *; have : (R + 1) * 18446744073709551616 ≤ D * 18446744073709551616 := Int.mul_le_mul_of_nonneg_right (by omega) (by omega); rw [Int.mul_comm]; omega)
 refine ⟨h1.upd k ⟨q0, q1⟩, Int.emod_nonneg _ (by omega), Int.emod_lt_of_pos _ hD, fun i hi => ?_, ?_⟩
 ·rw [upd_ne _ _ _ _ (by omega)]; exact h4 i (by omega)
 ·rw [psum_upd _ hk, psum_upd_ge _ _ _ (Nat.le_refl k)]
  have ha := h4 k (by omega)
  rw [psum_succ f k, psum_succ a k, Int.pow_succ] at h5
  unfold smQ smR
  rw [← ha] at h5
  rw [show (18446744073709551616 : Int) = W from rfl] at *
  generalize (R * W + f k) % D = r at *
  generalize (R * W + f k) / D = q at *
  generalize psum f 4 = F at *
  generalize psum f k = G at *
  generalize W ^ k = X at *
  generalize psum a 4 = A at *
  generalize psum a k = B at *
  generalize f k = y at *
  have : (r + D * q) * X = (R * W + y) * X := by rw [e]
  exact sm_ring h5 this
theorem SmInv.fin {f : Nat → Int} {R a0 a1 a2 a3 : Int} {a D : Nat} (h : SmInv f R (sel4 a0 a1 a2 a3) D 0) (ha : IsW a0 a1 a2 a3 a) : IsW (f 0) (f 1) (f 2) (f 3) (a / D) ∧ ((a % D : Nat) : Int) = R := by
 obtain ⟨h1, h2, h3, h4, h5⟩ := h
 rw [← ha.val] at h5
 rw [show psum f 0 = 0 from rfl, show psum (sel4 a0 a1 a2 a3) 0 = 0 from rfl, Int.pow_zero, Int.mul_one, Int.sub_zero, Int.sub_zero] at h5
 have := quo_rem_of h2 h3 h5.symm
 refine ⟨IsW.of h1 ?_, ?_⟩
 ·rw [Int.natCast_ediv]; exact this.1
 ·rw [Int.natCast_emod]; exact this.2
end Go.Proofs.Ytpdenhmkpiafiaa
namespace Go.Proofs.Ytpdenhmkpiafiaa
open Go Go.RowKit
def mS (x y f c : Int) : Int := (x * y + f + c) % 18446744073709551616
def mC (x y f c : Int) : Int := (x * y + f + c) / 18446744073709551616
theorem mul_step (x y f c : Int) (hx : 0 ≤ x ∧ x < 18446744073709551616) (hy : 0 ≤ y ∧ y < 18446744073709551616) (hf : 0 ≤ f ∧ f < 18446744073709551616) (hc : 0 ≤ c ∧ c < 18446744073709551616) :
  cS (cS (pL x y) f 0) c 0 = mS x y f c ∧ IntKind.u64.wrap (IntKind.u64.wrap (pH x y + cC (pL x y) f 0) + cC (cS (pL x y) f 0) c 0) = mC x y f c ∧ 0 ≤ mC x y f c ∧ mC x y f c < 18446744073709551616 ∧ 0 ≤ mS x y f c ∧ mS x y f c < 18446744073709551616 := by
 have h0 : 0 ≤ x * y := Int.mul_nonneg hx.1 hy.1
 have h1 : x * y ≤ 18446744073709551615 * y := Int.mul_le_mul_of_nonneg_right (by omega) hy.1
 rw [IntKind.wrap_u64, IntKind.wrap_u64]
 unfold cS cC pL pH mS mC
 generalize x * y = t at *
 omega
theorem mul_step_val (x y f c : Int) : mS x y f c + W * mC x y f c = x * y + f + c := by unfold mS mC W; omega
def MulInv (f a b : Nat → Int) (i : Nat) : Prop := Wordy f ∧ (∀ m, i + 4 ≤ m → f m = 0) ∧ psum f (i + 4) = psum a i * psum b 4
def MulMid (f : Nat → Int) (c : Int) (a b : Nat → Int) (i j : Nat) : Prop :=
 Wordy f ∧ (∀ m, i + 4 ≤ m → f m = 0) ∧ 0 ≤ c ∧ c < 18446744073709551616 ∧ psum f (i + 4) + c * W ^ (i + j) = psum a i * psum b 4 + a i * psum b j * W ^ i
theorem MulInv.zero (a b : Nat → Int) : MulInv (fun _ => 0) a b 0 := ⟨wordy_zero, fun _ _ => rfl, by rw [psum_zero]; simp [psum]⟩
theorem mid_ring {F f c A x B y X s t V P Q : Int} (h : F + c * (P * Q) = A * X + x * B * P) (hv : s + V * t = x * y + f + c) : F + (s - f) * (P * Q) + t * (P * (Q * V)) = A * X + x * (B + y * Q) * P := by
 have : (s + V * t) * (P * Q) = (x * y + f + c) * (P * Q) := by rw [hv]
 grind
theorem MulMid.step {f a b : Nat → Int} {c : Int} {i j : Nat} (h : MulMid f c a b i j) (ha : Wordy a) (hb : Wordy b) (hj : j < 4) :
  MulMid (upd f (i + j) (mS (a i) (b j) (f (i + j)) c)) (mC (a i) (b j) (f (i + j)) c) a b i (j + 1) := by
 obtain ⟨h1, h2, h3, h4, h5⟩ := h
 have hs := mul_step (a i) (b j) (f (i + j)) c (ha i) (hb j) (h1 _) ⟨h3, h4⟩
 have hv := mul_step_val (a i) (b j) (f (i + j)) c
 refine ⟨h1.upd _ hs.2.2.2.2, fun m hm => ?_, hs.2.2.1, hs.2.2.2.1, ?_⟩
 ·rw [upd_ne _ _ _ _ (by omega)]; exact h2 m hm
 ·rw [psum_upd _ (by omega), psum_succ b j, ← Nat.add_assoc, Int.pow_succ (W) (i + j), Int.pow_add, Int.mul_assoc (W ^ i)]
  rw [Int.pow_add] at h5
  exact mid_ring h5 hv
theorem MulMid.done {f a b : Nat → Int} {c : Int} {i : Nat} (h : MulMid f c a b i 4) : MulInv (upd f (i + 4) c) a b (i + 1) := by
 obtain ⟨h1, h2, h3, h4, h5⟩ := h
 refine ⟨h1.upd _ ⟨h3, h4⟩, fun m hm => ?_, ?_⟩
 ·rw [upd_ne _ _ _ _ (by omega)]; exact h2 m (by omega)
 ·rw [show i + 1 + 4 = (i + 4) + 1 by omega, psum_succ, psum_upd_ge _ _ _ (Nat.le_refl _), upd_same, psum_succ a i, h5]
  grind
end Go.Proofs.Ytpdenhmkpiafiaa
namespace Go.Proofs.Ytpdenhmkpiafiaa
open Go Go.RowKit
theorem run_eq4 {P : Program} {t e : TypeId} {i : TypeInfo} (d : Nat) (ht : P.underlying t = some (.array 4 e)) (he : P.underlying e = some (.int .u64)) (hi : P.info? e = some i) (hc : P.cellsOf e = 1)
  (x0 x1 x2 x3 y0 y1 y2 y3 : Int) (w : World) :
  (Op.equalIn (d + 2) t (.agg #[.int .u64 x0, .int .u64 x1, .int .u64 x2, .int .u64 x3]) (.agg #[.int .u64 y0, .int .u64 y1, .int .u64 y2, .int .u64 y3])).run P w = .ok (x0 == y0 && (x1 == y1 && (x2 == y2 && x3 == y3))) w := by
 rw [run_equalIn_array w (d + 1) _ _ ht hi, hc]
 have r4 : List.range 4 = [0, 1, 2, 3] := rfl
 rw [r4]
 have e1 : ∀ (a b : Int) (wx : World), (Op.equalIn (d + 1) e (.int .u64 a) (.int .u64 b)).run P wx = .ok (a == b) wx := fun a b wx => by
  simp [Op.equalIn, run_underlying he]
 simp [Op.eqItems, part, isAgg, run_underlying he, e1]
 by_cases h0 : x0 = y0 <;> by_cases h1 : x1 = y1 <;> by_cases h2 : x2 = y2 <;> by_cases h3 : x3 = y3 <;> simp [h0, h1, h2, h3]
theorem cells29 : Try.prog.cellsOf 29 = 1 := by kernel_rfl
theorem some29 : (Try.prog.info? 29).isSome = true := by kernel_rfl
theorem eq31 (x0 x1 x2 x3 y0 y1 y2 y3 : Int) (w : World) :
  (Op.equalIn 10000 31 (.agg #[.int .u64 x0, .int .u64 x1, .int .u64 x2, .int .u64 x3]) (.agg #[.int .u64 y0, .int .u64 y1, .int .u64 y2, .int .u64 y3])).run Try.prog w = .ok (x0 == y0 && (x1 == y1 && (x2 == y2 && x3 == y3))) w := by
 obtain ⟨i, hi⟩ := Option.isSome_iff_exists.1 some29
 exact run_eq4 9998 Try.underlying31 Try.underlying29 hi cells29 x0 x1 x2 x3 y0 y1 y2 y3 w
end Go.Proofs.Ytpdenhmkpiafiaa
namespace Go.Proofs.Ytpdenhmkpiafiaa
open Go Go.RowKit
theorem Row.four {w : World} {g t : Nat} {k : IntKind} {f : Nat → Int} (h : Row w g t (arr k f 4)) :
  (w.cell? ⟨g, 0, none⟩ = some (.int k (f 0)) ∧ w.cell? ⟨g, 1, none⟩ = some (.int k (f 1)) ∧ w.cell? ⟨g, 2, none⟩ = some (.int k (f 2)) ∧ w.cell? ⟨g, 3, none⟩ = some (.int k (f 3))) ∧
  w.frozen? ⟨g, 0, none⟩ = false ∧ w.frozen? ⟨g, 1, none⟩ = false ∧ w.frozen? ⟨g, 2, none⟩ = false ∧ w.frozen? ⟨g, 3, none⟩ = false :=
 ⟨⟨h.at_ 0 (by omega), h.at_ 1 (by omega), h.at_ 2 (by omega), h.at_ 3 (by omega)⟩, h.frozen 0, h.frozen 1, h.frozen 2, h.frozen 3⟩
end Go.Proofs.Ytpdenhmkpiafiaa
namespace Go.Proofs.Ytpdenhmkpiafiaa
open Go Go.RowKit
def blen (n : Nat) : Nat := if n = 0 then 0 else Nat.log2 n + 1
theorem blen_shift {n s : Nat} (h : n / 2 ^ s ≠ 0) : blen n = s + blen (n / 2 ^ s) := by
 have hn : n ≠ 0 := by rintro rfl; simp at h
 unfold blen
 rw [if_neg hn, if_neg h]
 have h1 := (Nat.log2_eq_iff h).1 rfl
 have h2 : n.log2 = (n / 2 ^ s).log2 + s := by
  refine (Nat.log2_eq_iff hn).2 ⟨?_, ?_⟩
  ·rw [Nat.pow_add]
   exact Nat.le_trans (Nat.mul_le_mul_right _ h1.1) (Nat.div_mul_le_self _ _)
  ·rw [show (n / 2 ^ s).log2 + s + 1 = (n / 2 ^ s).log2 + 1 + s by omega, Nat.pow_add]
   exact (Nat.div_lt_iff_lt_mul (Nat.two_pow_pos s)).1 h1.2
 omega
theorem blen_le {n k : Nat} (h : n < 2 ^ k) : blen n ≤ k := by
 unfold blen
 split
 ·omega
 ·rename_i h0
  have := (Nat.log2_lt h0).2 h
  omega
theorem blen_one {n : Nat} (h : n < 2) : blen n = n := by
 have : n = 0 ∨ n = 1 := by omega
 rcases this with rfl | rfl <;> decide
def stp : Nat → Int
 | 0 => 0
 | 1 => 1
 | 2 => 2
 | 3 => 4
 | 4 => 8
 | 5 => 16
 | _ => 32
def bnd : Nat → Int
 | 0 => 2
 | 1 => 4
 | 2 => 16
 | 3 => 256
 | 4 => 65536
 | 5 => 4294967296
 | _ => 18446744073709551616
def LenInv (x N X : Int) (g : Nat) : Prop := g ≤ 6 ∧ 0 ≤ X ∧ X < bnd g ∧ 0 ≤ N ∧ N ≤ 64 ∧ (blen x.toNat : Int) = N + blen X.toNat
theorem LenInv.low {x N X : Int} {g : Nat} (h : LenInv x N X (g + 1)) (p : Int) (hp : 0 < p) (hb : bnd g = p) (hz : X / p = 0) : LenInv x N X g := by
 obtain ⟨h1, h2, h3, h4, h5, h6⟩ := h
 refine ⟨by omega, h2, ?_, h4, h5, h6⟩
 rw [hb]
 have h7 := Int.emod_add_mul_ediv X p
 have h8 := Int.emod_lt_of_pos X hp
 rw [hz, Int.mul_zero] at h7
 omega
theorem LenInv.big {x N X : Int} {g : Nat} (h : LenInv x N X (g + 1)) (hx : x < 18446744073709551616) (p : Nat) (s : Nat) (hp : p = 2 ^ s) (hb : bnd g = p) (hb2 : bnd (g + 1) = p * p) (hz : ¬ X / (p : Int) = 0) : LenInv x (N + s) (X / p) g := by
 obtain ⟨h1, h2, h3, h4, h5, h6⟩ := h
 obtain ⟨Y, rfl⟩ := Int.eq_ofNat_of_zero_le h2
 have hp0 : 0 < p := by rw [hp]; exact Nat.two_pow_pos s
 have e : (Y : Int) / (p : Int) = ((Y / p : Nat) : Int) := (Int.natCast_ediv _ _).symm
 rw [e] at hz ⊢
 rw [hb2] at h3
 have h3' : Y < p * p := Int.ofNat_lt.1 (show (Y : Int) < ((p * p : Nat) : Int) from by rw [Int.natCast_mul]; exact h3)
 have hq : Y / p < p := (Nat.div_lt_iff_lt_mul hp0).2 h3'
 have hs : blen Y = s + blen (Y / p) := by
  rw [hp] at hz ⊢
  exact blen_shift (by omega)
 have h64 : blen x.toNat ≤ 64 := blen_le (by omega)
 rw [Int.toNat_natCast] at h6
 refine ⟨by omega, Int.natCast_nonneg _, by rw [hb]; exact Int.ofNat_lt.2 hq, by omega, by omega, ?_⟩
 rw [Int.toNat_natCast]
 omega
theorem LenInv.last {x N X : Int} (h : LenInv x N X 0) : (blen x.toNat : Int) = N + X := by
 obtain ⟨h1, h2, h3, h4, h5, h6⟩ := h
 rw [blen_one (n := X.toNat) (by have : X < 2 := h3; omega)] at h6
 omega
set_option maxHeartbeats 2000000 in
theorem length_any (x : Int) (hx : 0 ≤ x ∧ x < 18446744073709551616) (w : World) :
  Calls Try.prog 161 #[.int .u64 x] w fun e w' => e = .returned (.int .i64 (blen x.toNat)) ∧ ∃ n, w' = w.drewN n := by
 go_enter Try.func161, Try.ntmps161
 go_wp2
 go_loopg [0, 3, 4] 6 (fun g s0 s3 s4 wr => ∃ N X : Int, s0 = .int .u64 X ∧ s3 = .int .i64 N ∧ s4 = .int .i64 (stp g) ∧ (∃ n, wr = w.drewN n) ∧ LenInv x N X g)
 case atStart => exact ⟨0, x, rfl, rfl, rfl, ⟨0, rfl⟩, by omega, hx.1, hx.2, by omega, by omega, by omega⟩
 case round =>
  obtain ⟨N, X, rfl, rfl, rfl, ⟨n, rfl⟩, inv⟩ := hrel
  have h6 := inv.1
  have hX := inv.2.1
  have hXb := inv.2.2.1
  have hN := inv.2.2.2.1
  have hN' := inv.2.2.2.2.1
  rcases (show gk = 0 ∨ gk = 1 ∨ gk = 2 ∨ gk = 3 ∨ gk = 4 ∨ gk = 5 ∨ gk = 6 by omega) with rfl | rfl | rfl | rfl | rfl | rfl | rfl
  ·simp only [stp, bnd] at hXb ⊢
   clear h6
   go_wp2
   go_ret
   refine ⟨?_, _, rfl⟩
   rw [inv.last]; rfl
  ·simp only [stp, bnd] at hXb ⊢
   clear h6
   by_cases hz : X / 2 = 0
   ·have hz' : (X / 2 != 0) = false := by simp [hz]
    have HZ := Lib.hid (inv.low 2 (by omega) rfl hz)
    clear hz
    go_wp2
    go_roundg 0
    case measure => omega
    case rel => exact ⟨N, X, rfl, rfl, rfl, ⟨_, rfl⟩, HZ.out⟩
   ·have hz' : (X / 2 != 0) = true := by simp [hz]
    have HZ := Lib.hid (inv.big hx.2 2 1 (by decide) rfl rfl hz)
    clear hz
    go_wp2_with fail
    go_quiet (fail)
    go_wp2
    go_roundg 0
    case measure => omega
    case rel => exact ⟨N + 1, X / 2, rfl, rfl, rfl, ⟨_, rfl⟩, HZ.out⟩
  ·simp only [stp, bnd] at hXb ⊢
   clear h6
   by_cases hz : X / 4 = 0
   ·have hz' : (X / 4 != 0) = false := by simp [hz]
    have HZ := Lib.hid (inv.low 4 (by omega) rfl hz)
    clear hz
    go_wp2
    go_roundg 1
    case measure => omega
    case rel => exact ⟨N, X, rfl, rfl, rfl, ⟨_, rfl⟩, HZ.out⟩
   ·have hz' : (X / 4 != 0) = true := by simp [hz]
    have HZ := Lib.hid (inv.big hx.2 4 2 (by decide) rfl rfl hz)
    clear hz
    go_wp2_with fail
    go_quiet (fail)
    go_wp2
    go_roundg 1
    case measure => omega
    case rel => exact ⟨N + 2, X / 4, rfl, rfl, rfl, ⟨_, rfl⟩, HZ.out⟩
  ·simp only [stp, bnd] at hXb ⊢
   clear h6
   by_cases hz : X / 16 = 0
   ·have hz' : (X / 16 != 0) = false := by simp [hz]
    have HZ := Lib.hid (inv.low 16 (by omega) rfl hz)
    clear hz
    go_wp2
    go_roundg 2
    case measure => omega
    case rel => exact ⟨N, X, rfl, rfl, rfl, ⟨_, rfl⟩, HZ.out⟩
   ·have hz' : (X / 16 != 0) = true := by simp [hz]
    have HZ := Lib.hid (inv.big hx.2 16 4 (by decide) rfl rfl hz)
    clear hz
    go_wp2_with fail
    go_quiet (fail)
    go_wp2
    go_roundg 2
    case measure => omega
    case rel => exact ⟨N + 4, X / 16, rfl, rfl, rfl, ⟨_, rfl⟩, HZ.out⟩
  ·simp only [stp, bnd] at hXb ⊢
   clear h6
   by_cases hz : X / 256 = 0
   ·have hz' : (X / 256 != 0) = false := by simp [hz]
    have HZ := Lib.hid (inv.low 256 (by omega) rfl hz)
    clear hz
    go_wp2
    go_roundg 3
    case measure => omega
    case rel => exact ⟨N, X, rfl, rfl, rfl, ⟨_, rfl⟩, HZ.out⟩
   ·have hz' : (X / 256 != 0) = true := by simp [hz]
    have HZ := Lib.hid (inv.big hx.2 256 8 (by decide) rfl rfl hz)
    clear hz
    go_wp2_with fail
    go_quiet (fail)
    go_wp2
    go_roundg 3
    case measure => omega
    case rel => exact ⟨N + 8, X / 256, rfl, rfl, rfl, ⟨_, rfl⟩, HZ.out⟩
  ·simp only [stp, bnd] at hXb ⊢
   clear h6
   by_cases hz : X / 65536 = 0
   ·have hz' : (X / 65536 != 0) = false := by simp [hz]
    have HZ := Lib.hid (inv.low 65536 (by omega) rfl hz)
    clear hz
    go_wp2
    go_roundg 4
    case measure => omega
    case rel => exact ⟨N, X, rfl, rfl, rfl, ⟨_, rfl⟩, HZ.out⟩
   ·have hz' : (X / 65536 != 0) = true := by simp [hz]
    have HZ := Lib.hid (inv.big hx.2 65536 16 (by decide) rfl rfl hz)
    clear hz
    go_wp2_with fail
    go_quiet (fail)
    go_wp2
    go_roundg 4
    case measure => omega
    case rel => exact ⟨N + 16, X / 65536, rfl, rfl, rfl, ⟨_, rfl⟩, HZ.out⟩
  ·simp only [stp, bnd] at hXb ⊢
   clear h6
   by_cases hz : X / 4294967296 = 0
   ·have hz' : (X / 4294967296 != 0) = false := by simp [hz]
    have HZ := Lib.hid (inv.low 4294967296 (by omega) rfl hz)
    clear hz
    go_wp2
    go_roundg 5
    case measure => omega
    case rel => exact ⟨N, X, rfl, rfl, rfl, ⟨_, rfl⟩, HZ.out⟩
   ·have hz' : (X / 4294967296 != 0) = true := by simp [hz]
    have HZ := Lib.hid (inv.big hx.2 4294967296 32 (by decide) rfl rfl hz)
    clear hz
    go_wp2_with fail
    go_quiet (fail)
    go_wp2
    go_roundg 5
    case measure => omega
    case rel => exact ⟨N + 32, X / 4294967296, rfl, rfl, rfl, ⟨_, rfl⟩, HZ.out⟩
theorem wlen_split {a0 a1 a2 a3 : Int} {a j : Nat} (h : IsW a0 a1 a2 a3 a) (hj : wlen a = j + 1) : (a : Int) = psum (sel4 a0 a1 a2 a3) (j + 1) ∧ sel4 a0 a1 a2 a3 j ≠ 0 := by
 have w0 := h.wordy 0
 have w1 := h.wordy 1
 have w2 := h.wordy 2
 have w3 := h.wordy 3
 have hv := h.val
 simp [sel4, W, psum] at w0 w1 w2 w3 hv
 unfold wlen at hj
 have : j = 0 ∨ j = 1 ∨ j = 2 ∨ j = 3 := by have := wlen_le a; unfold wlen at this; omega
 rcases this with rfl | rfl | rfl | rfl <;> simp [sel4, psum, W] <;> (repeat' split at hj) <;> omega
theorem blen_word {f : Nat → Int} (h : Wordy f) {a j : Nat} (ha : (a : Int) = psum f (j + 1)) (hf : f j ≠ 0) : blen a = 64 * j + blen (f j).toNat := by
 have hb := psum_bd h j
 have hj := h j
 have hW : (W : Int) ^ j = ((2 ^ (64 * j) : Nat) : Int) := by
  rw [show W = ((2 ^ 64 : Nat) : Int) from rfl, ← Int.natCast_pow, ← Nat.pow_mul]
 unfold psum at ha
 have hq : a / 2 ^ (64 * j) = (f j).toNat := by
  have hpos := Nat.two_pow_pos (64 * j)
  refine Nat.div_eq_of_lt_le ?_ ?_
  ·have : ((f j).toNat * 2 ^ (64 * j) : Nat) ≤ (a : Int) := by
    rw [Int.natCast_mul, ← hW, Int.toNat_of_nonneg hj.1, ha]; omega
   exact Int.ofNat_le.1 this
  ·have : (a : Int) < (((f j).toNat + 1) * 2 ^ (64 * j) : Nat) := by
    rw [Int.natCast_mul, ← hW, Int.natCast_add, Int.toNat_of_nonneg hj.1, ha, Int.add_mul]; omega
   exact Int.ofNat_lt.1 this
 have hne : a / 2 ^ (64 * j) ≠ 0 := by rw [hq]; omega
 rw [blen_shift hne, hq]
set_option maxHeartbeats 400000 in
theorem bits_any (a0 a1 a2 a3 : Int) (a : Nat) (ha : IsW a0 a1 a2 a3 a) (w : World) :
  Calls Try.prog 49 #[.agg #[.int .u64 a0, .int .u64 a1, .int .u64 a2, .int .u64 a3]] w fun e w' => e = .returned (.int .i64 (blen a)) ∧ Below w.heap.size w w' := by
 go_enter Try.func49, Try.ntmps49
 go_wp2_with fail
 refine (used_any _ _ _ _ a ha _).mono ?_
 rintro e w1 ⟨rfl, hb1⟩
 have hl1 : Below w.heap.size w w1 := Below.trans (by go_grown) (hb1.mono (by go_size))
 have ra : Row w1 w.heap.size 31 (arr .u64 (sel4 a0 a1 a2 a3) 4) := Row.below (by repeat (first | (refine Row.new_at ?_; simp; done) | refine Row.alloc ?_ _)) hb1 (by go_size)
 have hw := wlen_le a
 by_cases h0 : wlen a = 0
 ·have hz : a = 0 := by unfold wlen at h0; (repeat' split at h0) <;> omega
  have fin : blen a = 0 := by rw [hz]; rfl
  have fin := Lib.hid fin
  clear hz ra hb1 hw
  go_wp2
  go_ret
  exact ⟨by rw [fin.out]; rfl, hl1⟩
 ·obtain ⟨j, hj⟩ : ∃ j, wlen a = j + 1 := ⟨wlen a - 1, by omega⟩
  have hs := wlen_split ha hj
  have fin := Lib.hid (blen_word ha.wordy hs.1 hs.2)
  have ca := ra.at_ j (by omega)
  have wj := ha.wordy j
  rw [hj] at hw ⊢
  have HJ := Lib.hid hj
  clear hj hs ra hb1 h0
  have e1 : ((j + 1 : Nat) : Int) - 1 = (j : Int) := by omega
  have hle : (blen (sel4 a0 a1 a2 a3 j).toNat : Int) ≤ 64 := by have := blen_le (n := (sel4 a0 a1 a2 a3 j).toNat) (k := 64) (by have := wj.2; unfold W at this; omega); omega
  go_wp2_with fail
  refine (length_any _ wj _).mono ?_
  rintro e w2 ⟨rfl, n, rfl⟩
  go_wp2
  go_ret
  refine ⟨?_, belowDN hl1 _⟩
  rw [fin.out]; simp
end Go.Proofs.Ytpdenhmkpiafiaa
namespace Go.Proofs.Ytpdenhmkpiafiaa
open Go Go.RowKit
theorem IsW.lin {x0 x1 x2 x3 : Int} {n : Nat} (h : IsW x0 x1 x2 x3 n) : (n : Int) = x0 + 18446744073709551616 * x1 + 340282366920938463463374607431768211456 * x2 + 6277101735386680763835789423207666416102355444464034512896 * x3 ∧
  (0 ≤ x0 ∧ x0 < 18446744073709551616) ∧ (0 ≤ x1 ∧ x1 < 18446744073709551616) ∧ (0 ≤ x2 ∧ x2 < 18446744073709551616) ∧ (0 ≤ x3 ∧ x3 < 18446744073709551616) := by
 have hv := h.val
 simp [psum, sel4, W] at hv
 exact ⟨by omega, h.wordy 0, h.wordy 1, h.wordy 2, h.wordy 3⟩
theorem IsW.mk' {x0 x1 x2 x3 : Int} {n : Nat} (hn : (n : Int) = x0 + 18446744073709551616 * x1 + 340282366920938463463374607431768211456 * x2 + 6277101735386680763835789423207666416102355444464034512896 * x3)
  (h0 : 0 ≤ x0 ∧ x0 < 18446744073709551616) (h1 : 0 ≤ x1 ∧ x1 < 18446744073709551616) (h2 : 0 ≤ x2 ∧ x2 < 18446744073709551616) (h3 : 0 ≤ x3 ∧ x3 < 18446744073709551616) : IsW x0 x1 x2 x3 n :=
 ⟨fun i => by unfold sel4; (repeat' split) <;> assumption, by simp [psum, sel4, W]; omega⟩
theorem IsW.uniq {x0 x1 x2 x3 y0 y1 y2 y3 : Int} {n : Nat} (h : IsW x0 x1 x2 x3 n) (h' : IsW y0 y1 y2 y3 n) : x0 = y0 ∧ x1 = y1 ∧ x2 = y2 ∧ x3 = y3 := by
 have a := h.lin
 have b := h'.lin
 refine ⟨?_, ?_, ?_, ?_⟩ <;> omega
end Go.Proofs.Ytpdenhmkpiafiaa

namespace Go.Proofs.Ytpdenhmkpiafiaa
open Go Go.RowKit
theorem IsW.word {x0 x1 x2 x3 : Int} {a j : Nat} (h : IsW x0 x1 x2 x3 a) (hj : j < 4) : sel4 x0 x1 x2 x3 j = ((a / 2 ^ (64 * j) % 2 ^ 64 : Nat) : Int) := by
 have hl := h.lin
 have : j = 0 ∨ j = 1 ∨ j = 2 ∨ j = 3 := by omega
 rcases this with rfl | rfl | rfl | rfl <;> simp [sel4] <;> omega
end Go.Proofs.Ytpdenhmkpiafiaa
namespace Go.Proofs.Ytpdenhmkpiafiaa
open Go Go.RowKit
def byN (n k : Nat) : Nat := n / 2 ^ (8 * k) % 256
theorem byte_word {x0 x1 x2 x3 : Int} {a k : Nat} (h : IsW x0 x1 x2 x3 a) (hk : k / 8 < 4) : IntKind.u8.wrap (sel4 x0 x1 x2 x3 (k / 8) / 2 ^ (8 * (k % 8))) = ((byN a k : Nat) : Int) := by
 rw [h.word hk]
 have e : (((a / 2 ^ (64 * (k / 8)) % 2 ^ 64 : Nat) : Int) / 2 ^ (8 * (k % 8))) = ((a / 2 ^ (64 * (k / 8)) % 2 ^ 64 / 2 ^ (8 * (k % 8)) : Nat) : Int) := by rw [Int.natCast_ediv, Int.natCast_pow]; rfl
 rw [e, IntKind.wrap_u8']
 have : a / 2 ^ (64 * (k / 8)) % 2 ^ 64 / 2 ^ (8 * (k % 8)) % 2 ^ 8 = a / 2 ^ (8 * k) % 2 ^ 8 := by
  apply Nat.eq_of_testBit_eq
  intro i
  simp only [Nat.testBit_mod_two_pow, Nat.testBit_div_two_pow]
  by_cases hi : i < 8
  ·have h1 : i + 8 * (k % 8) < 64 := by omega
   have h2 : 8 * (k % 8) + i < 64 := by omega
   have h3 : i + 8 * (k % 8) + 64 * (k / 8) = i + 8 * k := by omega
   have h4 : 64 * (k / 8) + (8 * (k % 8) + i) = 8 * k + i := by omega
   first | (simp [hi, h1, h3]; done) | (simp [hi, h2, h4]; done)
  ·simp [hi]
 unfold byN
 rw [show (256 : Nat) = 2 ^ 8 from rfl, ← this]
 omega
def bytesTo (n k : Nat) : Nat → Int := fun i => if i < k then ((byN n (31 - i) : Nat) : Int) else 0
theorem bytesTo_step (n k : Nat) : upd (bytesTo n k) k ((byN n (31 - k) : Nat) : Int) = bytesTo n (k + 1) := by
 funext j
 unfold upd bytesTo
 by_cases e : j = k
 ·subst e; simp
 ·rw [if_neg e]
  by_cases h : j < k
  ·rw [if_pos h, if_pos (by omega)]
  ·rw [if_neg h, if_neg (by omega)]
def Bytes32 (w : World) (n : Nat) (e : Ending) (w' : World) : Prop :=
 ∃ g, e = .returned (.slice (some ⟨g, 0, none⟩) 32 32) ∧ w.heap.size ≤ g ∧ Row w' g 5 (arr .u8 (bytesTo n 32) 32) ∧ Below w.heap.size w w'
set_option maxRecDepth 100000 in
set_option maxHeartbeats 2000000 in
theorem bytes_any (a0 a1 a2 a3 : Int) (a : Nat) (ha : IsW a0 a1 a2 a3 a) (w : World) :
  Calls Try.prog 82 #[.agg #[.int .u64 a0, .int .u64 a1, .int .u64 a2, .int .u64 a3]] w (Bytes32 w a) := by
 have hmk : ∀ wx, (Instr.makeSlice 33 (.int .i64 32) (.int .i64 32)).run Try.prog wx = .ok (.slice (some ⟨wx.heap.size, 0, none⟩) 32 32) (wx.alloc (.cells (arr .u8 (fun _ => 0) 32) 5)) := fun _ => by kernel_rfl
 go_enter Try.func82, Try.ntmps82
 go_wp2_with fail
 go_loopg [9] 32 (fun g c wr => ∃ (i : Nat), i + g = 32 ∧ c = .int .i64 (i : Int) ∧ Below w.heap.size w wr ∧ Row wr w.heap.size 31 (arr .u64 (sel4 a0 a1 a2 a3) 4) ∧ Row wr (w.heap.size + 1) 5 (arr .u8 (bytesTo a i) 32))
 case atStart =>
  refine ⟨0, by omega, rfl, by go_grown, ?_, ?_⟩ <;> repeat (first | (refine Row.new_at ?_; simp; done) | refine Row.alloc ?_ _)
 case round =>
  obtain ⟨i, hi, rfl, hl, ra, ro⟩ := hrel
  by_cases hlt : i < 32
  ·obtain ⟨k, hk⟩ : ∃ k, k + i = 31 := ⟨31 - i, by omega⟩
   have e0 : (31 : Int) - (i : Int) = (k : Int) := by omega
   have t1 : ((k : Int)).tdiv 8 = (k : Int) / 8 := Int.tdiv_eq_ediv_of_nonneg (by omega)
   have t2 : ((k : Int)).tmod 8 = (k : Int) % 8 := Int.tmod_eq_emod_of_nonneg (by omega)
   have t5 : (k : Int) / 8 < 4 := by omega
   have t6 : 0 ≤ (k : Int) / 8 := by omega
   have t7 : 0 ≤ (k : Int) % 8 := by omega
   have t8 : (k : Int) % 8 < 8 := by omega
   have t9 : ((k : Int) / 8).toNat = k / 8 := by omega
   have t10 : (8 * ((k : Int) % 8)).toNat = 8 * (k % 8) := by omega
   have ca := ra.at_ (k / 8) (by omega)
   have co := ro.at_ i hlt
   have fo := ro.frozen i
   have hby := byte_word ha (show k / 8 < 4 by omega)
   have wa := ha.wordy (k / 8)
   have S := Lib.hid (show _ ∧ _ ∧ _ from ⟨ra, ro, hk⟩)
   clear ra ro
   go_wp2_with fail
   go_roundg (gk - 1)
   case measure => omega
   case rel =>
    obtain ⟨ra, ro, hk⟩ := S.out
    refine ⟨i + 1, by omega, by go_num, by go_grown, ra.far (by dsimp only; omega) _, ?_⟩
    rw [← bytesTo_step, show 31 - i = k by omega]
    exact ro.put i hlt _
  ·obtain rfl : i = 32 := by omega
   have S := Lib.hid (show _ from ro)
   clear ra ro hlt
   go_wp2_with fail
   go_ret
   exact ⟨_, rfl, by omega, S.out, hl⟩
end Go.Proofs.Ytpdenhmkpiafiaa
namespace Go.Proofs.Ytpdenhmkpiafiaa
open Go Go.RowKit
def wordsOf (n : Nat) : Nat → Int := fun q => ((n / 2 ^ (64 * q) % 2 ^ 64 : Nat) : Int)
theorem wordsOf_isW (n : Nat) (h : n < M) : IsW (wordsOf n 0) (wordsOf n 1) (wordsOf n 2) (wordsOf n 3) n :=
 IsW.mk' (by unfold wordsOf; unfold M at h; omega) (by unfold wordsOf; omega) (by unfold wordsOf; omega) (by unfold wordsOf; omega) (by unfold wordsOf; omega)
theorem wordsOf_zero : wordsOf 0 = fun _ => 0 := by funext q; simp [wordsOf]
theorem put_byte (m b k : Nat) (hb : b < 256) :
  upd (wordsOf (2 ^ (8 * (k + 1)) * m)) (k / 8) (bits .or .u64 (wordsOf (2 ^ (8 * (k + 1)) * m) (k / 8)) (IntKind.u64.wrap ((b : Int) * 2 ^ (8 * (k % 8))))) = wordsOf (2 ^ (8 * (k + 1)) * m + b * 2 ^ (8 * k)) := by
 have hB : b * 2 ^ (8 * k) < 2 ^ (8 * (k + 1)) := by
  rw [show 8 * (k + 1) = 8 + 8 * k by omega, Nat.pow_add]
  exact Nat.mul_lt_mul_of_pos_right (by omega) (Nat.pow_pos (by decide))
 have hor := Nat.two_pow_add_eq_or_of_lt hB m
 have hw : ∀ q, (2 ^ (8 * (k + 1)) * m + b * 2 ^ (8 * k)) / 2 ^ (64 * q) % 2 ^ 64 = (2 ^ (8 * (k + 1)) * m) / 2 ^ (64 * q) % 2 ^ 64 ||| (b * 2 ^ (8 * k)) / 2 ^ (64 * q) % 2 ^ 64 := fun q => by
  rw [hor, Nat.or_div_two_pow, Nat.or_mod_two_pow]
 have hat : (b * 2 ^ (8 * k)) / 2 ^ (64 * (k / 8)) % 2 ^ 64 = b * 2 ^ (8 * (k % 8)) := by
  have e : 8 * k = 8 * (k % 8) + 64 * (k / 8) := by omega
  have h1 : b * 2 ^ (8 * k) = b * 2 ^ (8 * (k % 8)) * 2 ^ (64 * (k / 8)) := by rw [Nat.mul_assoc, ← Nat.pow_add, ← e]
  rw [h1, Nat.mul_div_cancel _ (Nat.pow_pos (by decide))]
  refine Nat.mod_eq_of_lt ?_
  have h2 : 2 ^ (8 * (k % 8)) ≤ 2 ^ 56 := Nat.pow_le_pow_right (by decide) (by omega)
  have h3 : b * 2 ^ (8 * (k % 8)) ≤ 255 * 2 ^ 56 := Nat.mul_le_mul (by omega) h2
  omega
 have hne : ∀ q, q ≠ k / 8 → (b * 2 ^ (8 * k)) / 2 ^ (64 * q) % 2 ^ 64 = 0 := fun q hq => by
  rcases Nat.lt_or_ge (k / 8) q with h | h
  ·have h1 : 2 ^ (8 * (k + 1)) ≤ 2 ^ (64 * q) := Nat.pow_le_pow_right (by decide) (by omega)
   rw [Nat.div_eq_of_lt (by omega)]
  ·have e : 8 * k = (8 * k - 64 * (q + 1)) + 64 + 64 * q := by omega
   rw [e, Nat.pow_add, Nat.pow_add, ← Nat.mul_assoc, Nat.mul_div_cancel _ (Nat.pow_pos (by decide)), ← Nat.mul_assoc, Nat.mul_mod_left]
 funext q
 unfold upd
 by_cases e : q = k / 8
 ·rw [if_pos e, e]
  unfold wordsOf
  rw [hw, hat]
  have hx : (2 ^ (8 * (k + 1)) * m) / 2 ^ (64 * (k / 8)) % 2 ^ 64 < 18446744073709551616 := Nat.mod_lt _ (by decide)
  have hy : b * 2 ^ (8 * (k % 8)) < 18446744073709551616 := by rw [← hat]; exact Nat.mod_lt _ (by decide)
  have ew : IntKind.u64.wrap ((b : Int) * 2 ^ (8 * (k % 8))) = ((b * 2 ^ (8 * (k % 8)) : Nat) : Int) := by
   rw [IntKind.wrap_u64]
   have : ((b : Int) * 2 ^ (8 * (k % 8))) = ((b * 2 ^ (8 * (k % 8)) : Nat) : Int) := by rw [Int.natCast_mul, Int.natCast_pow]; rfl
   rw [this]
   omega
  rw [ew, u64_or_nat _ _ hx hy]
 ·rw [if_neg e]
  unfold wordsOf
  rw [hw, hne q e, Nat.or_zero]
def fromN (f : Nat → Nat) : Nat → Nat
 | 0 => 0
 | i + 1 => fromN f i + f i * 2 ^ (8 * (31 - i))
theorem fromN_mul (f : Nat → Nat) : ∀ i, i ≤ 32 → ∃ m, fromN f i = 2 ^ (8 * (32 - i)) * m
 | 0, _ => ⟨0, rfl⟩
 | i + 1, h => by
  obtain ⟨m, hm⟩ := fromN_mul f i (by omega)
  refine ⟨2 ^ 8 * m + f i, ?_⟩
  unfold fromN
  rw [hm, show 32 - (i + 1) = 31 - i by omega, show 8 * (32 - i) = 8 * (31 - i) + 8 by omega, Nat.pow_add, Nat.mul_add, Nat.mul_assoc, Nat.mul_comm (f i)]
theorem fromN_lt (f : Nat → Nat) (hf : ∀ i, f i < 256) : ∀ i, i ≤ 32 → fromN f i + 2 ^ (8 * (32 - i)) ≤ 2 ^ 256
 | 0, _ => by simp [fromN]
 | i + 1, h => by
  have ih := fromN_lt f hf i (by omega)
  have hi := hf i
  unfold fromN
  rw [show 32 - (i + 1) = 31 - i by omega]
  rw [show 8 * (32 - i) = 8 * (31 - i) + 8 by omega, Nat.pow_add] at ih
  have h1 : f i * 2 ^ (8 * (31 - i)) + 2 ^ (8 * (31 - i)) ≤ 2 ^ (8 * (31 - i)) * 2 ^ 8 := by
   have := Nat.mul_le_mul_right (2 ^ (8 * (31 - i))) (show f i + 1 ≤ 2 ^ 8 by omega)
   rw [Nat.add_mul, Nat.one_mul] at this
   rw [Nat.mul_comm _ (2 ^ 8)]
   exact this
  omega
theorem fromN_bd (f : Nat → Nat) (hf : ∀ i, f i < 256) : fromN f 32 < M := by
 have h := fromN_lt f hf 32 (Nat.le_refl _)
 rw [show 32 - 32 = 0 from rfl] at h
 have e : M = 2 ^ 256 := by decide
 rw [e]
 exact Nat.lt_of_lt_of_le (Nat.lt_add_of_pos_right (by decide)) h
set_option maxRecDepth 100000 in
set_option maxHeartbeats 2000000 in
theorem fromBytes_any (r : Option Addr) (n c : Nat) (f : Nat → Nat) (w : World) (hf : ∀ i, f i < 256) (hr : n = 32 → ∃ g o, r = some ⟨g, o, none⟩ ∧ g < w.heap.size ∧ ∀ i, i < 32 → w.cell? ⟨g, o + i, none⟩ = some (.int .u8 ((f i : Nat) : Int))) :
  Calls Try.prog 81 #[.slice r n c] w (Pair w (if n = 32 then fromN f 32 else 0) (decide (n = 32))) := by
 go_enter Try.func81, Try.ntmps81
 by_cases hn : n = 32
 ·subst hn
  obtain ⟨g, o, rfl, hg, hc⟩ := hr rfl
  go_wp2_with fail
  go_loopg [14] 32 (fun gg i wr => ∃ (k : Nat), k + gg = 32 ∧ i = .int .i64 (k : Int) ∧ Below w.heap.size w wr ∧ Row wr w.heap.size 31 (arr .u64 (fun _ => 0) 4) ∧ Row wr (w.heap.size + 1) 31 (arr .u64 (wordsOf (fromN f k)) 4))
  case atStart =>
   refine ⟨0, by omega, rfl, by go_grown, ?_, ?_⟩
   ·repeat (first | (refine Row.new_at ?_; simp; done) | refine Row.alloc ?_ _)
   ·rw [show fromN f 0 = 0 from rfl, wordsOf_zero]
    repeat (first | (refine Row.new_at ?_; simp; done) | refine Row.alloc ?_ _)
  case round =>
   obtain ⟨i, hi, rfl, hl, rr, ro⟩ := hrel
   by_cases hlt : i < 32
   ·obtain ⟨k, hk⟩ : ∃ k, k + i = 31 := ⟨31 - i, by omega⟩
    have e0 : (31 : Int) - (i : Int) = (k : Int) := by omega
    have t1 : ((k : Int)).tdiv 8 = (k : Int) / 8 := Int.tdiv_eq_ediv_of_nonneg (by omega)
    have t2 : ((k : Int)).tmod 8 = (k : Int) % 8 := Int.tmod_eq_emod_of_nonneg (by omega)
    have t5 : (k : Int) / 8 < 4 := by omega
    have t6 : 0 ≤ (k : Int) / 8 := by omega
    have t7 : 0 ≤ (k : Int) % 8 := by omega
    have t8 : (k : Int) % 8 < 8 := by omega
    have t9 : ((k : Int) / 8).toNat = k / 8 := by omega
    have t10 : (8 * ((k : Int) % 8)).toNat = 8 * (k % 8) := by omega
    have ci : wr.cell? ⟨g, o + i, none⟩ = some (.int .u8 ((f i : Nat) : Int)) := ((bcell hl).1 g (o + i) hg).trans (hc i hlt)
    have wb : IntKind.u64.wrap ((f i : Nat) : Int) = ((f i : Nat) : Int) := by rw [IntKind.wrap_u64]; have := hf i; omega
    have co := ro.at_ (k / 8) (by omega)
    have fo := ro.frozen (k / 8)
    have S := Lib.hid (show _ ∧ _ ∧ _ from ⟨rr, ro, hk⟩)
    clear rr ro
    go_wp2_with fail
    go_region
    all_goals
     go_wp2_with fail
     go_roundg (gk - 1)
     case measure => omega
     case rel =>
      obtain ⟨rr, ro, hk⟩ := S.out
      obtain ⟨m, hm⟩ := fromN_mul f i (by omega)
      have hp := put_byte m (f i) k (hf i)
      rw [show 8 * (k + 1) = 8 * (32 - i) by omega, ← hm] at hp
      refine ⟨i + 1, by omega, by go_num, by go_grown, (rr.far (by dsimp only; omega) _).drew, ?_⟩
      refine ((ro.put (k / 8) (by omega) _).drew).congr ?_
      rw [hp]
      rw [show fromN f (i + 1) = fromN f i + f i * 2 ^ (8 * (31 - i)) from rfl, show 31 - i = k by omega]
   ·obtain rfl : i = 32 := by omega
    have d0 := ro.at_ 0 (by omega)
    have d1 := ro.at_ 1 (by omega)
    have d2 := ro.at_ 2 (by omega)
    have d3 := ro.at_ 3 (by omega)
    have e0 := rr.at_ 0 (by omega)
    have e1 := rr.at_ 1 (by omega)
    have e2 := rr.at_ 2 (by omega)
    have e3 := rr.at_ 3 (by omega)
    have f0 := rr.frozen 0
    have f1 := rr.frozen 1
    have f2 := rr.frozen 2
    have f3 := rr.frozen 3
    have H := Lib.hid (show _ from rr)
    clear rr ro hlt
    go_wp2
    refine bodyPost_ret (results_ct rfl aggT31 rfl (H.out.store4 rfl _ _ _ _) rfl) rfl ?_
    exact ⟨_, _, _, _, rfl, wordsOf_isW _ (fromN_bd f hf), by go_grown⟩
 ·have hne : ((n : Int) != 32) = true := by simp; omega
  have r0 : Row ((w.alloc (.cells #[Value.int .u64 0, Value.int .u64 0, Value.int .u64 0, Value.int .u64 0] 31)).alloc (.cells #[Value.int .u64 0, Value.int .u64 0, Value.int .u64 0, Value.int .u64 0] 31)) w.heap.size 31 #[Value.int .u64 0, Value.int .u64 0, Value.int .u64 0, Value.int .u64 0] := by
   repeat (first | (refine Row.new_at ?_; simp; done) | refine Row.alloc ?_ _)
  go_wp2_with fail
  refine bodyPost_ret (results_ct rfl aggT31 rfl r0 rfl) rfl ?_
  exact ⟨_, _, _, _, rfl, isW_zero, by go_grown⟩
end Go.Proofs.Ytpdenhmkpiafiaa

namespace Go.Proofs.Ytpdenhmkpiafiaa
open Go Go.RowKit
section
variable {P : Program} {ops : Array Oper} {md : Region.Mode} {Keep : World → Prop}
end
end Go.Proofs.Ytpdenhmkpiafiaa
namespace Go.Proofs.Ytpdenhmkpiafiaa.K6
open Go Go.RowKit
structure GV where
 v : Value
 lo : Nat
 hi : Nat
abbrev Ghost := Nat → GV
def gput (g : Ghost) (i : Nat) (x : GV) : Ghost := fun k => if k = i then x else g k
theorem gput_comm (g : Ghost) {i j : Nat} (u v : GV) (h : i ≠ j) : gput (gput g i v) j u = gput (gput g j u) i v := by
 funext k
 unfold gput
 by_cases h1 : k = i
 ·subst h1; simp [h]
 ·simp [h1]
theorem gput_ne {g : Ghost} {i x : Nat} {v : GV} (h : x ≠ i) : gput g i v x = g x := by unfold gput; rw [if_neg h]
structure Tr (X : Nat → Prop) (w w' : World) : Prop where
 os : w'.os = w.os
 tape : w'.tape = w.tape
 output : w'.output = w.output
 size : w.heap.size ≤ w'.heap.size
 block : ∀ b, b < w.heap.size → ¬ X b → w'.heap[b]? = w.heap[b]?
theorem Tr.refl (X : Nat → Prop) (w : World) : Tr X w w := ⟨rfl, rfl, rfl, Nat.le_refl _, fun _ _ _ => rfl⟩
theorem Tr.mono {X Y : Nat → Prop} {w w' : World} (h : Tr X w w') (hxy : ∀ b, b < w.heap.size → X b → Y b) : Tr Y w w' :=
 ⟨h.os, h.tape, h.output, h.size, fun b hb hy => h.block b hb fun hx => hy (hxy b hb hx)⟩
theorem Tr.trans {X : Nat → Prop} {a b c : World} (h : Tr X a b) (k : Tr X b c) : Tr X a c :=
 ⟨k.os.trans h.os, k.tape.trans h.tape, k.output.trans h.output, Nat.le_trans h.size k.size, fun i hi hx => (k.block i (Nat.lt_of_lt_of_le hi h.size) hx).trans (h.block i hi hx)⟩
abbrev None_ : Nat → Prop := fun _ => False
theorem Tr.below {w w' : World} (h : Tr None_ w w') : Below w.heap.size w w' := ⟨h.os, h.tape, h.output, h.size, fun b hb => h.block b hb id⟩
theorem Tr.undrew {X : Nat → Prop} {w w' : World} (h : Tr X w.drew w') : Tr X w w' := ⟨h.os, h.tape, h.output, h.size, h.block⟩
theorem Tr.below_of {X : Nat → Prop} {B : Nat} {w w' : World} (h : Tr X w w') (hB : B ≤ w.heap.size) (hx : ∀ c, X c → B ≤ c) : Below B w w' := ⟨h.os, h.tape, h.output, h.size, fun b hb => h.block b (Nat.lt_of_lt_of_le hb hB) fun hc => Nat.lt_irrefl _ (Nat.lt_of_lt_of_le hb (hx b hc))⟩
theorem Tr.of {X : Nat → Prop} {w w' : World} (h : Below w.heap.size w w') : Tr X w w' := ⟨h.os, h.tape, h.output, h.size, fun b hb _ => h.block b hb⟩
structure Sh where
 i : Nat
 D : List Nat
 use : List Nat
 kill : List Nat
 Xi : List Nat
 Li : List Nat
 any : Bool
 x : Bool
 l : Bool
structure Mean where
 V : Ghost → GV → Prop
 F : Ghost → World → Prop
 Xo : Nat → Prop
 Lo : Nat → Prop
def spOf (sh : List Sh) (i : Nat) : Option Sh := sh.find? (fun s => s.i == i)
theorem spOf_spec {sh : List Sh} {i : Nat} {s : Sh} (h : spOf sh i = some s) : s ∈ sh ∧ s.i = i :=
 ⟨List.mem_of_find?_eq_some h, by simpa using List.find?_some h⟩
def edgeB (md : Region.Mode) (ops : Array Oper) (m k : Nat) : Bool := ((ops[m]?).map fun o => o.after.any fun e => Region.binds md e && e.on == k).getD false
def preGo (md : Region.Mode) (ops : Array Oper) : Nat → List Nat → List Nat
 | 0, acc => acc
 | k + 1, acc => preGo md ops k (if acc.any (fun m => edgeB md ops m k) then k :: acc else acc)
def pre (md : Region.Mode) (ops : Array Oper) (i : Nat) : List Nat := preGo md ops i [i]
theorem preGo_spec {md : Region.Mode} {ops : Array Oper} {L : Nat → Prop} (hL : ∀ m k, L m → edgeB md ops m k = true → L k) : ∀ (n : Nat) (acc : List Nat), (∀ m ∈ acc, L m) → ∀ x ∈ preGo md ops n acc, L x
 | 0, _, h => h
 | k + 1, acc, h => by
  refine preGo_spec hL k _ ?_
  split
  ·rename_i ha
   obtain ⟨m, hm, he⟩ := List.any_eq_true.1 ha
   intro x hx
   rcases List.mem_cons.1 hx with rfl | hx
   ·exact hL m _ (h m hm) he
   ·exact h x hx
  ·exact h
def fullB (md : Region.Mode) (ops : Array Oper) (sh : List Sh) (i : Nat) : Bool := sh.all fun s => !s.x || (pre md ops s.i).contains i
def C1 (md : Region.Mode) (ops : Array Oper) (sh : List Sh) : Prop := ∀ s ∈ sh, ∀ k ∈ s.D, k ≠ s.i ∧ k ∈ pre md ops s.i
def C2 (sh : List Sh) : Prop := ∀ s ∈ sh, ∀ t ∈ sh, t.i ∈ s.D → ∀ x ∈ t.D, x ∈ s.D
def C3 (md : Region.Mode) (ops : Array Oper) (sh : List Sh) : Prop := ∀ s ∈ sh, ∀ k ∈ s.use, k ∈ s.D ∧ (spOf sh k).isSome = true ∧ ∀ t ∈ sh, t.i = k → ∀ j ∈ t.kill, j = s.i ∨ s.i ∈ pre md ops j
def C4 (sh : List Sh) : Prop := ∀ s ∈ sh, ∀ k ∈ s.Xi, k ∈ s.D ∧ (spOf sh k).isSome = true
def C5 (sh : List Sh) : Prop := ∀ s ∈ sh, ∀ k ∈ s.Li, (k = s.i ∨ k ∈ s.D) ∧ (spOf sh k).isSome = true
def C6 (sh : List Sh) : Prop := ∀ s ∈ sh, ∀ t ∈ sh, s.i ≠ t.i → t.i ∈ s.kill ∨ ∀ k ∈ s.Li, k ∉ t.Xi
instance (md : Region.Mode) (ops : Array Oper) (sh : List Sh) : Decidable (C1 md ops sh) := by unfold C1; infer_instance
instance (sh : List Sh) : Decidable (C2 sh) := by unfold C2; infer_instance
instance (md : Region.Mode) (ops : Array Oper) (sh : List Sh) : Decidable (C3 md ops sh) := by unfold C3; infer_instance
instance (sh : List Sh) : Decidable (C4 sh) := by unfold C4; infer_instance
instance (sh : List Sh) : Decidable (C5 sh) := by unfold C5; infer_instance
instance (sh : List Sh) : Decidable (C6 sh) := by unfold C6; infer_instance
def Cl (md : Region.Mode) (ops : Array Oper) (sh : List Sh) : Prop := C1 md ops sh ∧ C2 sh ∧ C3 md ops sh ∧ C4 sh ∧ C5 sh ∧ C6 sh
instance (md : Region.Mode) (ops : Array Oper) (sh : List Sh) : Decidable (Cl md ops sh) := by unfold Cl; infer_instance
section
variable (P : Program) (ops : Array Oper) (md : Region.Mode) (sh : List Sh) (M : Nat → Mean) (Z : Nat → Prop) (w1 : World)
def XX (s : Sh) (g : Ghost) (b : Nat) : Prop := (M s.i).Xo b ∨ ∃ k ∈ s.Xi, (g k).lo ≤ b ∧ b < (g k).hi
def LL (s : Sh) (g : Ghost) (b : Nat) : Prop := s.any = true ∨ (M s.i).Lo b ∨ ∃ k ∈ s.Li, (g k).lo ≤ b ∧ b < (g k).hi
def GOk (D : Nat → Prop) (g : Ghost) (n : Nat) : Prop :=
 (∀ k, D k → (spOf sh k).isSome = true → w1.heap.size ≤ (g k).lo ∧ (g k).lo ≤ (g k).hi ∧ (g k).hi ≤ n) ∧
 (∀ j k, D j → D k → (spOf sh j).isSome = true → (spOf sh k).isSome = true → j ≠ k → (g j).hi ≤ (g k).lo ∨ (g k).hi ≤ (g j).lo)
def sUpon (V : Value → World → Prop) : Result Next → Prop
 | .ok (.value u) w' => V u w'
 | .ok .skip w' => V undef w'
 | .ok (.enter f args) w' => Calls P f args w' (fun e w'' => ∃ v, e = .returned v ∧ V v w'')
 | _ => False
def XU (i : Nat) (b : Nat) : Prop := ∃ s ∈ sh, s.x = true ∧ i ∉ pre md ops s.i ∧ (M s.i).Xo b
def Kn (i : Nat) (w : World) : Prop := Tr (XU ops md sh M i) w1 w ∧ Tr Z w1 w
def YK (o : Oper) (i : Nat) (a : Act) (v : Value) : Prop :=
 (Region.wanted o (yielded ops a.tmps) = true ∧ ∀ w, Kn ops md sh M Z w1 i w → (execOp a.eval o).run P w = .ok (.value v) w) ∨ (Region.wanted o (yielded ops a.tmps) = false ∧ v = undef)
def Left (s : Sh) (g : Ghost) (w : World) (v : Value) (w' : World) : Prop :=
 (M s.i).V g ⟨v, w.heap.size, w'.heap.size⟩ ∧ Tr (XX M s g) w w' ∧ (M s.i).F (gput g s.i ⟨v, w.heap.size, w'.heap.size⟩) w'
def outS (o : Oper) (s : Sh) (g : Ghost) (a : Act) : Prop :=
 Region.wanted o (yielded ops a.tmps) = true ∧ ∀ w, Kn ops md sh M Z w1 s.i w → GOk sh w1 (· ∈ s.D) g w.heap.size → (∀ k ∈ s.use, (M k).F g w) → sUpon P (Left M s g w) ((execOp a.eval o).run P w)
def sOp (i : Nat) (K : Ghost → Act → Prop) (g : Ghost) (a : Act) : Prop :=
 match ops[i]? with
 | none => False
 | some o =>
  match spOf sh i with
  | some s => outS P ops md sh M Z w1 o s g a ∧ ∀ x : GV, w1.heap.size ≤ x.lo → x.lo ≤ x.hi → (M i).V g x → K (gput g i x) (a.put o.dst x.v)
  | none => ∃ v, YK P ops md sh M Z w1 o i a v ∧ K (gput g i ⟨v, 0, 0⟩) (a.put o.dst v)
def wpS (Q : Ghost → Act → Prop) : Nat → List Oper → Ghost → Act → Prop
 | _, [], g, a => Q g a
 | k, o :: rest, g, a =>
  match spOf sh k with
  | some s => outS P ops md sh M Z w1 o s g a ∧ ∀ x : GV, w1.heap.size ≤ x.lo → x.lo ≤ x.hi → (M k).V g x → wpS Q (k + 1) rest (gput g k x) (a.put o.dst x.v)
  | none => ∃ v, YK P ops md sh M Z w1 o k a v ∧ wpS Q (k + 1) rest (gput g k ⟨v, 0, 0⟩) (a.put o.dst v)
def wpAnyS (Q : Ghost → Act → Prop) : Nat → Array Bool → Ghost → Act → Prop
 | 0, listed, g, a => Region.ready md ops listed = [] ∧ (∀ j, j < ops.size → listed.getD j true = true) ∧ Q g a
 | fuel + 1, listed, g, a => Region.ready md ops listed ≠ [] ∧ ∀ i ∈ Region.ready md ops listed, sOp P ops md sh M Z w1 i (fun g a => wpAnyS Q fuel (listed.setIfInBounds i true) g a) g a
structure St : Prop where
 some_ : ∀ s ∈ sh, ∀ g, ∃ x : GV, w1.heap.size ≤ x.lo ∧ x.lo ≤ x.hi ∧ (M s.i).V g x
 depV : ∀ s ∈ sh, ∀ g g', (∀ x ∈ s.D, g' x = g x) → ∀ x, (M s.i).V g x → (M s.i).V g' x
 depF : ∀ s ∈ sh, ∀ g g', (∀ x, x = s.i ∨ x ∈ s.D → g' x = g x) → ∀ w, (M s.i).F g w → (M s.i).F g' w
 loc : ∀ s ∈ sh, ∀ g w w', (M s.i).F g w → Tr (fun b => ¬ LL M s g b) w w' → (M s.i).F g w'
 xo : ∀ s ∈ sh, ∀ b, (M s.i).Xo b → s.x = true ∧ Z b ∧ b < w1.heap.size
 lo : ∀ s ∈ sh, ∀ b, (M s.i).Lo b → b < w1.heap.size
 sep : ∀ s ∈ sh, ∀ t ∈ sh, s.i ≠ t.i → t.i ∈ s.kill ∨ ((∀ b, (M s.i).Lo b → ¬ (M t.i).Xo b) ∧ (s.any = true → (∀ b, ¬ (M t.i).Xo b) ∧ t.Xi = []))
end
section
variable {P : Program} {ops : Array Oper} {md : Region.Mode} {sh : List Sh} {M : Nat → Mean} {Z : Nat → Prop} {w1 : World}
structure Inv (ops : Array Oper) (md : Region.Mode) (sh : List Sh) (M : Nat → Mean) (w1 : World) (listed : Array Bool) (g : Ghost) (w : World) : Prop where
 tr : Tr (fun b => ∃ s ∈ sh, listed.getD s.i false = true ∧ (M s.i).Xo b) w1 w
 shut : ∀ k, listed.getD k false = true → ∀ m, edgeB md ops k m = true → listed.getD m false = true
 ok : GOk sh w1 (fun k => listed.getD k false = true) g w.heap.size
 fact : ∀ s ∈ sh, listed.getD s.i false = true → (∀ j ∈ s.kill, listed.getD j false = false) → (M s.i).F g w
theorem edgeB_of {k m : Nat} {o : Oper} (ho : ops[k]? = some o) (h : edgeB md ops k m = true) : ∃ e ∈ o.after, Region.binds md e = true ∧ e.on = m := by
 unfold edgeB at h
 rw [ho] at h
 simp only [Option.map_some, Option.getD_some] at h
 obtain ⟨e, he, hb⟩ := Array.any_eq_true'.1 h
 simp only [Bool.and_eq_true, beq_iff_eq] at hb
 exact ⟨e, he, hb.1, hb.2⟩
theorem ready_pre {listed : Array Bool} {i : Nat} (hsh : ∀ k, listed.getD k false = true → ∀ m, edgeB md ops k m = true → listed.getD m false = true) {o : Oper} (ho : ops[i]? = some o)
  (hall : ∀ e ∈ o.after, Region.binds md e = true → listed.getD e.on false = true) {x : Nat} (hx : x ∈ pre md ops i) : listed.getD x false = true ∨ x = i := by
 refine preGo_spec (L := fun x => listed.getD x false = true ∨ x = i) (fun m k hm he => ?_) i [i] (fun m hm => .inr (by simpa using hm)) x hx
 rcases hm with hm | rfl
 ·exact .inl (hsh m hm k he)
 ·obtain ⟨e, he', hb, rfl⟩ := edgeB_of ho he
  exact .inl (hall e he' hb)
theorem listed_pre {listed : Array Bool} {i : Nat} (hsh : ∀ k, listed.getD k false = true → ∀ m, edgeB md ops k m = true → listed.getD m false = true)
  (hi : listed.getD i false = true) {x : Nat} (hx : x ∈ pre md ops i) : listed.getD x false = true :=
 preGo_spec (L := fun x => listed.getD x false = true) (fun m k hm he => hsh m hm k he) i [i] (fun m hm => by simp at hm; subst hm; exact hi) x hx
theorem Inv.kn (S : St sh M Z w1) {listed : Array Bool} {g : Ghost} {w : World} (I : Inv ops md sh M w1 listed g w) {i : Nat} (hun : listed.getD i false = false) : Kn ops md sh M Z w1 i w := by
 refine ⟨I.tr.mono fun b _ ⟨s, hs, hl, hx⟩ => ⟨s, hs, (S.xo s hs b hx).1, fun hi => ?_, hx⟩, I.tr.mono fun b _ ⟨s, hs, _, hx⟩ => (S.xo s hs b hx).2.1⟩
 rw [listed_pre I.shut hl hi] at hun
 cases hun
theorem getD_of_true {listed : Array Bool} {i : Nat} (h : listed.getD i true = false) : listed.getD i false = false := by
 rcases Nat.lt_or_ge i listed.size with h' | h'
 ·simp [h'] at h ⊢; exact h
 ·simp [Array.getElem?_eq_none h']
theorem getD_set_other {listed : Array Bool} {i k : Nat} (h : k ≠ i) : (listed.setIfInBounds i true).getD k false = listed.getD k false := by
 simp [Array.getElem?_setIfInBounds_ne (Ne.symm h)]
theorem shut_set {listed : Array Bool} {i : Nat} {o : Oper} (ho : ops[i]? = some o) (hsh : ∀ k, listed.getD k false = true → ∀ m, edgeB md ops k m = true → listed.getD m false = true)
  (hall : ∀ e ∈ o.after, Region.binds md e = true → listed.getD e.on false = true) :
  ∀ k, (listed.setIfInBounds i true).getD k false = true → ∀ m, edgeB md ops k m = true → (listed.setIfInBounds i true).getD m false = true := by
 intro k hk m he
 by_cases hki : k = i
 ·subst hki
  obtain ⟨e, he', hb, rfl⟩ := edgeB_of ho he
  exact getD_set_true (hall e he' hb)
 ·rw [getD_set_other hki] at hk
  exact getD_set_true (hsh k hk m he)
theorem Inv.quiet {listed : Array Bool} {g : Ghost} {w : World} (S : St sh M Z w1) (hC : Cl md ops sh) (I : Inv ops md sh M w1 listed g w) {i : Nat} {o : Oper} (ho : ops[i]? = some o) (hun : listed.getD i false = false)
  (hall : ∀ e ∈ o.after, Region.binds md e = true → listed.getD e.on false = true) (hi : spOf sh i = none) (x : GV) : Inv ops md sh M w1 (listed.setIfInBounds i true) (gput g i x) w := by
 have hne : ∀ k, (spOf sh k).isSome = true → k ≠ i := fun k hk e => by subst e; rw [hi] at hk; cases hk
 have hsi : ∀ s ∈ sh, s.i ≠ i := fun s hs e => by
  have : spOf sh i ≠ none := by
   unfold spOf
   intro h
   have := List.find?_eq_none.1 h s hs
   simp [e] at this
  exact this hi
 refine ⟨I.tr.mono fun b _ ⟨s, hs, hl, hx⟩ => ⟨s, hs, getD_set_true hl, hx⟩, shut_set ho I.shut hall, ⟨fun k hk hs => ?_, fun j k hj hk hsj hsk hjk => ?_⟩, fun s hs hl hk => ?_⟩
 ·rw [gput_ne (hne k hs)]
  exact I.ok.1 k ((getD_set_other (hne k hs)).symm.trans hk) hs
 ·rw [gput_ne (hne k hsk), gput_ne (hne j hsj)]
  exact I.ok.2 j k ((getD_set_other (hne j hsj)).symm.trans hj) ((getD_set_other (hne k hsk)).symm.trans hk) hsj hsk hjk
 ·rw [getD_set_other (hsi s hs)] at hl
  refine S.depF s hs g _ (fun x hx => gput_ne ?_) w (I.fact s hs hl fun j hj => ?_)
  ·rcases hx with rfl | hx
   ·exact hsi s hs
   ·rintro rfl
    have := listed_pre I.shut hl (hC.1 s hs x hx).2
    rw [hun] at this
    cases this
  ·have := hk j hj
   by_cases hji : j = i
   ·subst hji; exact hun
   ·rwa [getD_set_other hji] at this
theorem size_of_getD {listed : Array Bool} {i : Nat} (h : listed.getD i true = false) : i < listed.size := by
 rcases Nat.lt_or_ge i listed.size with h' | h'
 ·exact h'
 ·simp [Array.getElem?_eq_none h'] at h
theorem getD_set_self {listed : Array Bool} {i : Nat} (h : i < listed.size) : (listed.setIfInBounds i true).getD i false = true := by simp [h]
theorem Inv.step {listed : Array Bool} {g : Ghost} {w w' : World} (S : St sh M Z w1) (hC : Cl md ops sh) (I : Inv ops md sh M w1 listed g w) {o : Oper} {s : Sh} {i : Nat} (hs : spOf sh i = some s) (ho : ops[i]? = some o) (hun : listed.getD i true = false)
  (hall : ∀ e ∈ o.after, Region.binds md e = true → listed.getD e.on false = true) (v : Value) (hL : Left M s g w v w') : Inv ops md sh M w1 (listed.setIfInBounds i true) (gput g i ⟨v, w.heap.size, w'.heap.size⟩) w' := by
 obtain ⟨hmem, rfl⟩ := spOf_spec hs
 obtain ⟨hV, hT, hF⟩ := hL
 have hun' := getD_of_true hun
 have hlt := size_of_getD hun
 have hB : w1.heap.size ≤ w.heap.size := I.tr.size
 have hXi : ∀ k ∈ s.Xi, listed.getD k false = true ∧ (spOf sh k).isSome = true := fun k hk => by
  obtain ⟨hd, hso⟩ := hC.2.2.2.1 s hmem k hk
  obtain ⟨hne, hp⟩ := hC.1 s hmem k hd
  exact ⟨(ready_pre I.shut ho hall hp).resolve_right hne, hso⟩
 refine ⟨⟨hT.os.trans I.tr.os, hT.tape.trans I.tr.tape, hT.output.trans I.tr.output, Nat.le_trans hB hT.size, fun b hb hx => ?_⟩, shut_set ho I.shut hall, ⟨fun k hk hsk => ?_, fun j k hj hk hsj hsk hjk => ?_⟩, fun t ht hl hk => ?_⟩
 ·rw [hT.block b (Nat.lt_of_lt_of_le hb hB) ?_, I.tr.block b hb fun ⟨t, ht, hl, hxt⟩ => hx ⟨t, ht, getD_set_true hl, hxt⟩]
  rintro (hx' | ⟨k, hk, h1, h2⟩)
  ·exact hx ⟨s, hmem, getD_set_self hlt, hx'⟩
  ·have := (I.ok.1 k (hXi k hk).1 (hXi k hk).2).1
   omega
 ·by_cases hki : k = s.i
  ·subst hki; simp only [gput, if_true]; exact ⟨hB, hT.size, Nat.le_refl _⟩
  ·rw [gput_ne hki]
   have := I.ok.1 k ((getD_set_other hki).symm.trans hk) hsk
   exact ⟨this.1, this.2.1, Nat.le_trans this.2.2 hT.size⟩
 ·by_cases hji : j = s.i
  ·by_cases hki : k = s.i
   ·exact absurd (hji.trans hki.symm) hjk
   ·rw [gput_ne hki, hji]
    have := I.ok.1 k ((getD_set_other hki).symm.trans hk) hsk
    simp only [gput, if_true]
    omega
  ·rw [gput_ne hji]
   have hj := (getD_set_other hji).symm.trans hj
   by_cases hki : k = s.i
   ·rw [hki]
    have := I.ok.1 j hj hsj
    simp only [gput, if_true]
    omega
   ·rw [gput_ne hki]
    exact I.ok.2 j k hj ((getD_set_other hki).symm.trans hk) hsj hsk hjk
 ·by_cases hti : t.i = s.i
  ·rw [hti]; exact hF
  ·rw [getD_set_other hti] at hl
   have hkill : s.i ∉ t.kill := fun hm => by
    have := hk _ hm
    rw [getD_set_self hlt] at this
    cases this
   have hD : ∀ x, x = t.i ∨ x ∈ t.D → x ≠ s.i := fun x hx => by
    rcases hx with rfl | hx
    ·exact hti
    ·rintro rfl
     have := listed_pre I.shut hl (hC.1 t ht _ hx).2
     rw [hun'] at this
     cases this
   have hF0 := I.fact t ht hl fun j hj => by
    have := hk j hj
    by_cases hji : j = s.i
    ·subst hji; exact hun'
    ·rwa [getD_set_other hji] at this
   refine S.depF t ht g _ (fun x hx => gput_ne (hD x hx)) w' (S.loc t ht g w w' hF0 (hT.mono fun b hb hX hLb => ?_))
   have hsep := (S.sep t ht s hmem hti).resolve_left hkill
   rcases hX with hx | ⟨k, hkx, h1, h2⟩
   ·rcases hLb with hany | hLo | ⟨k, hk, h1, h2⟩
    ·exact (hsep.2 hany).1 b hx
    ·exact hsep.1 b hLo hx
    ·have hlt := (S.xo s hmem b hx).2.2
     obtain ⟨hkD, hks⟩ := hC.2.2.2.2.1 t ht k hk
     have hkl : listed.getD k false = true := by
      rcases hkD with rfl | hkD
      ·exact hl
      ·exact listed_pre I.shut hl (hC.1 t ht _ hkD).2
     have := (I.ok.1 k hkl hks).1
     omega
   ·obtain ⟨hxl, hxs⟩ := hXi k hkx
    rcases hLb with hany | hLo | ⟨m, hm, h3, h4⟩
    ·rw [(hsep.2 hany).2] at hkx; cases hkx
    ·have hlt := S.lo t ht b hLo
     have := (I.ok.1 k hxl hxs).1
     omega
    ·obtain ⟨hmD, hms⟩ := hC.2.2.2.2.1 t ht m hm
     have hml : listed.getD m false = true := by
      rcases hmD with rfl | hmD
      ·exact hl
      ·exact listed_pre I.shut hl (hC.1 t ht _ hmD).2
     have hne : m ≠ k := fun e => by
      subst e
      exact ((hC.2.2.2.2.2 t ht s hmem hti).resolve_left hkill) m hm hkx
     have := I.ok.2 m k hml hxl hms hxs hne
     omega
theorem wp_of_outS (S : St sh M Z w1) (hC : Cl md ops sh) {listed : Array Bool} {g : Ghost} {w : World} (I : Inv ops md sh M w1 listed g w) {o : Oper} {s : Sh} {i : Nat} (hs : spOf sh i = some s) (ho : ops[i]? = some o) (hun : listed.getD i true = false)
  (hall : ∀ e ∈ o.after, Region.binds md e = true → listed.getD e.on false = true) {a : Act} {K' : Act → World → Prop} {Q' : Exit → Act → World → Prop} (hout : outS P ops md sh M Z w1 o s g a)
  (h : ∀ v w', Left M s g w v w' → K' (a.put o.dst v) w') : o.wp P a w K' Q' := by
 obtain ⟨hmem, rfl⟩ := spOf_spec hs
 have hun' := getD_of_true hun
 have hDl : ∀ k ∈ s.D, listed.getD k false = true := fun k hk => by
  obtain ⟨hne, hp⟩ := hC.1 s hmem k hk
  exact (ready_pre I.shut ho hall hp).resolve_right hne
 have hh := hout.2 w (I.kn S hun') ⟨fun k hk hsk => I.ok.1 k (hDl k hk) hsk, fun j k hj hk hsj hsk hjk => I.ok.2 j k (hDl j hj) (hDl k hk) hsj hsk hjk⟩ fun k hk => by
  obtain ⟨hkD, hks, hku⟩ := hC.2.2.1 s hmem k hk
  obtain ⟨t, ht⟩ := Option.isSome_iff_exists.1 hks
  obtain ⟨htm, rfl⟩ := spOf_spec ht
  refine I.fact t htm (hDl _ hkD) fun j hj => ?_
  rcases hku t htm rfl j hj with rfl | hp
  ·exact hun'
  ·by_cases hjl : listed.getD j false = true
   ·have := listed_pre I.shut hjl hp
    rw [hun'] at this
    cases this
   ·simpa using hjl
 unfold Oper.wp
 generalize (execOp a.eval o).run P w = r at *
 cases r with
 | ok n w' =>
  cases n <;> simp only [sUpon] at hh <;> simp only [Oper.upon]
  case enter f args =>
   refine hh.mono fun e w'' hx => ?_
   obtain ⟨v, rfl, hv⟩ := hx
   exact h v w'' hv
  all_goals exact h _ _ hh
 | halt x w' => simp only [sUpon] at hh
theorem wpAny_of_S (S : St sh M Z w1) (hC : Cl md ops sh) {Q : Ghost → Act → Prop} {Q' : Exit → Act → World → Prop}
  (hQ : ∀ g a, Q g a → ∀ w listed, Inv ops md sh M w1 listed g w → (∀ j, j < ops.size → listed.getD j false = true) → Q' .normal a w) : ∀ (fuel : Nat) (listed : Array Bool) (g : Ghost) (a : Act),
  wpAnyS P ops md sh M Z w1 Q fuel listed g a → ∀ w, Inv ops md sh M w1 listed g w → listed.size = ops.size → wpAny P md ops Q' fuel listed a w
 | 0, listed, g, a, h => fun w hI hz => ⟨h.1, hQ _ _ h.2.2 w listed hI fun j hj => (by have := h.2.1 j hj; simpa [hz, hj] using this)⟩
 | fuel + 1, listed, g, a, h => fun w hI hz => by
  refine ⟨fun h0 => absurd h0 h.1, fun i hi => ?_⟩
  have hs := h.2 i hi
  obtain ⟨hun, o', ho', hall⟩ := mem_ready.1 hi
  unfold sOp at hs
  unfold wpOp
  split
  ·rename_i ho; simp only [ho] at hs
  ·rename_i o ho
   simp only [ho] at hs
   have hoo : o' = o := by rw [ho'] at ho; exact Option.some.inj ho
   subst hoo
   cases hsp : spOf sh i with
   | some s =>
    simp only [hsp] at hs
    rw [if_pos hs.1.1]
    refine .inl (wp_of_outS S hC hI hsp ho' hun hall hs.1 fun v w' hL => ?_)
    have hst := hI.step S hC hsp ho' hun hall v hL
    have hi' := (spOf_spec hsp).2
    exact wpAny_of_S S hC hQ fuel _ _ _ (hs.2 ⟨v, w.heap.size, w'.heap.size⟩ hI.tr.size hL.2.1.size (by rw [← hi']; exact hL.1)) w' hst (by simpa using hz)
   | none =>
    simp only [hsp] at hs
    obtain ⟨v, hy, hK⟩ := hs
    have hq := hI.quiet S hC ho' (getD_of_true hun) hall hsp ⟨v, 0, 0⟩
    rcases hy with ⟨hw, hr⟩ | ⟨hw, rfl⟩
    ·rw [if_pos hw]
     refine .inl ?_
     unfold Oper.wp
     rw [hr w (hI.kn S (getD_of_true hun))]
     exact wpAny_of_S S hC hQ fuel _ _ _ hK w hq (by simpa using hz)
    ·rw [if_neg (by simp [hw])]
     exact wpAny_of_S S hC hQ fuel _ _ _ hK w hq (by simpa using hz)
def Yields (P : Program) (ops : Array Oper) (md : Region.Mode) (sh : List Sh) (M : Nat → Mean) (Z : Nat → Prop) (w1 : World) (o : Oper) (i : Nat) (g : Ghost) (a : Act) (x : GV) : Prop :=
 match spOf sh i with
 | some s => outS P ops md sh M Z w1 o s g a ∧ w1.heap.size ≤ x.lo ∧ x.lo ≤ x.hi ∧ (M i).V g x
 | none => YK P ops md sh M Z w1 o i a x.v ∧ x.lo = 0 ∧ x.hi = 0
theorem GOk.congr {D : Nat → Prop} {g g' : Ghost} {n : Nat} (h : ∀ k, D k → g' k = g k) (hg : GOk sh w1 D g n) : GOk sh w1 D g' n :=
 ⟨fun k hk hs => by rw [h k hk]; exact hg.1 k hk hs, fun j k hj hk hsj hsk hjk => by rw [h k hk, h j hj]; exact hg.2 j k hj hk hsj hsk hjk⟩
theorem XX_congr {s : Sh} {g g' : Ghost} (h : ∀ k ∈ s.Xi, g' k = g k) : XX M s g' = XX M s g := by
 funext b
 unfold XX
 apply propext
 exact or_congr Iff.rfl ⟨fun ⟨k, hk, h1⟩ => ⟨k, hk, by rw [← h k hk]; exact h1⟩, fun ⟨k, hk, h1⟩ => ⟨k, hk, by rw [h k hk]; exact h1⟩⟩
theorem V_gput (S : St sh M Z w1) {s : Sh} (hs : s ∈ sh) {g : Ghost} {i : Nat} (x : GV) (h : i ∉ s.D) (y : GV) : (M s.i).V (gput g i x) y ↔ (M s.i).V g y :=
 ⟨S.depV s hs _ _ (fun k hk => (gput_ne (fun e : k = i => h (by rw [← e]; exact hk))).symm) y, S.depV s hs _ _ (fun k hk => gput_ne (fun e : k = i => h (by rw [← e]; exact hk))) y⟩
theorem outS_gput (S : St sh M Z w1) (hC : Cl md ops sh) {s : Sh} (hs : s ∈ sh) {o : Oper} {a : Act} {g : Ghost} {i : Nat} (x : GV) (h : i ∉ s.D) :
  outS P ops md sh M Z w1 o s (gput g i x) a ↔ outS P ops md sh M Z w1 o s g a := by
 have hn : ∀ k ∈ s.D, gput g i x k = g k := fun k hk => gput_ne (fun e : k = i => h (by rw [← e]; exact hk))
 have hX : XX M s (gput g i x) = XX M s g := XX_congr fun k hk => hn k (hC.2.2.2.1 s hs k hk).1
 have hF : ∀ y w, (M s.i).F (gput (gput g i x) s.i y) w ↔ (M s.i).F (gput g s.i y) w := fun y w => by
  have hx : ∀ k, k = s.i ∨ k ∈ s.D → gput (gput g i x) s.i y k = gput g s.i y k := fun k hk => by
   by_cases hks : k = s.i
   ·subst hks; simp [gput]
   ·rw [gput_ne hks, gput_ne hks]
    exact hn k (hk.resolve_left hks)
  exact ⟨S.depF s hs _ _ (fun k hk => (hx k hk).symm) w, S.depF s hs _ _ hx w⟩
 have hL : ∀ w, Left M s (gput g i x) w = Left M s g w := fun w => by
  funext v w'
  unfold Left
  rw [hX]
  apply propext
  exact and_congr (V_gput S hs x h _) (and_congr Iff.rfl (hF _ _))
 have hU : ∀ k ∈ s.use, ∀ w, (M k).F (gput g i x) w ↔ (M k).F g w := fun k hk w => by
  obtain ⟨hkD, hks, _⟩ := hC.2.2.1 s hs k hk
  obtain ⟨t, ht⟩ := Option.isSome_iff_exists.1 hks
  obtain ⟨htm, rfl⟩ := spOf_spec ht
  have hx : ∀ m, m = t.i ∨ m ∈ t.D → gput g i x m = g m := fun m hm => by
   rcases hm with rfl | hm
   ·exact hn _ hkD
   ·exact hn _ (hC.2.1 s hs t htm hkD m hm)
  exact ⟨S.depF t htm _ _ (fun m hm => (hx m hm).symm) w, S.depF t htm _ _ hx w⟩
 unfold outS
 refine and_congr Iff.rfl (forall_congr' fun w => forall_congr' fun _ => ?_)
 rw [hL w]
 constructor
 ·intro hh hg hf
  exact hh (GOk.congr (fun k hk => hn k hk) hg) fun k hk => (hU k hk w).2 (hf k hk)
 ·intro hh hg hf
  exact hh (GOk.congr (fun k hk => (hn k hk).symm) hg) fun k hk => (hU k hk w).1 (hf k hk)
theorem YK_put {o : Oper} {a : Act} {i : Nat} {v : Value} (hsel : ∀ cs b, o.op ≠ .select cs b) {dst : Option Tmp} {u : Value} (h : ∀ d, dst = some d → d ∉ o.looksAt ops) : YK P ops md sh M Z w1 o i (a.put dst u) v ↔ YK P ops md sh M Z w1 o i a v := by
 unfold YK
 rw [wanted_put o a dst u h, execOp_put o hsel a dst u h]
theorem outS_put {o : Oper} {a : Act} {s : Sh} {g : Ghost} (hsel : ∀ cs b, o.op ≠ .select cs b) {dst : Option Tmp} {u : Value} (h : ∀ d, dst = some d → d ∉ o.looksAt ops) : outS P ops md sh M Z w1 o s g (a.put dst u) ↔ outS P ops md sh M Z w1 o s g a := by
 unfold outS
 rw [wanted_put o a dst u h, execOp_put o hsel a dst u h]
theorem YK_one {o : Oper} {i : Nat} {a : Act} {u v : Value} (hu : YK P ops md sh M Z w1 o i a u) (hv : YK P ops md sh M Z w1 o i a v) : u = v := by
 have hk : Kn ops md sh M Z w1 i w1 := ⟨Tr.refl _ _, Tr.refl _ _⟩
 rcases hu with ⟨h1, h2⟩ | ⟨h1, rfl⟩ <;> rcases hv with ⟨h3, h4⟩ | ⟨h3, rfl⟩
 ·have := (h2 w1 hk).symm.trans (h4 w1 hk)
  simpa using this
 ·rw [h1] at h3; cases h3
 ·rw [h1] at h3; cases h3
 ·rfl
theorem Yields_keep (S : St sh M Z w1) (hC : Cl md ops sh) {i j : Nat} {oi oj : Oper} (hDi : ∀ s ∈ sh, s.i = i → j ∉ s.D) (hsi : ∀ cs b, oi.op ≠ .select cs b) (h3 : ∀ d, oj.dst = some d → d ∉ oi.looksAt ops)
  {g : Ghost} {a : Act} {x : GV} (y : GV) (hy : Yields P ops md sh M Z w1 oi i g a x) : Yields P ops md sh M Z w1 oi i (gput g j y) (a.put oj.dst y.v) x := by
 unfold Yields at *
 split
 ·rename_i s hs
  simp only [hs] at hy
  obtain ⟨hm, rfl⟩ := spOf_spec hs
  exact ⟨(outS_put hsi h3).2 ((outS_gput S hC hm y (hDi s hm rfl)).2 hy.1), hy.2.1, hy.2.2.1, (V_gput S hm y (hDi s hm rfl) x).2 hy.2.2.2⟩
 ·rename_i hs
  simp only [hs] at hy
  exact ⟨(YK_put hsi h3).2 hy.1, hy.2⟩
def AllY (P : Program) (ops : Array Oper) (md : Region.Mode) (sh : List Sh) (M : Nat → Mean) (Z : Nat → Prop) (w1 : World) (o : Oper) (i : Nat) (g : Ghost) (a : Act) (K : GV → Prop) : Prop :=
 (∃ x, Yields P ops md sh M Z w1 o i g a x) ∧ ∀ x, Yields P ops md sh M Z w1 o i g a x → K x
theorem sOp_iff (S : St sh M Z w1) {i : Nat} {o : Oper} (ho : ops[i]? = some o) {K : Ghost → Act → Prop} {g : Ghost} {a : Act} :
  sOp P ops md sh M Z w1 i K g a ↔ AllY P ops md sh M Z w1 o i g a fun x => K (gput g i x) (a.put o.dst x.v) := by
 unfold sOp AllY Yields
 simp only [ho]
 cases hs : spOf sh i with
 | some s =>
  obtain ⟨hm, rfl⟩ := spOf_spec hs
  simp only []
  constructor
  ·intro ⟨h1, h2⟩
   obtain ⟨x, h3, h4, h5⟩ := S.some_ s hm g
   exact ⟨⟨x, h1, h3, h4, h5⟩, fun x ⟨_, h6, h7, h8⟩ => h2 x h6 h7 h8⟩
  ·intro ⟨⟨x, h1, h3⟩, h2⟩
   exact ⟨h1, fun y h6 h7 h8 => h2 y ⟨h1, h6, h7, h8⟩⟩
 | none =>
  simp only []
  constructor
  ·intro ⟨v, h1, h2⟩
   refine ⟨⟨⟨v, 0, 0⟩, h1, rfl, rfl⟩, fun ⟨u, lo, hi⟩ ⟨h3, h4, h5⟩ => ?_⟩
   dsimp only at h3 h4 h5
   subst h4; subst h5
   rw [YK_one h3 h1]
   exact h2
  ·intro ⟨⟨⟨v, lo, hi⟩, h1, h4, h5⟩, h2⟩
   dsimp only at h1 h4 h5
   subst h4; subst h5
   exact ⟨v, h1, h2 ⟨v, 0, 0⟩ ⟨h1, rfl, rfl⟩⟩
theorem wpAnyS_first (S : St sh M Z w1) (hC : Cl md ops sh) {Q : Ghost → Act → Prop} {i : Nat} {oi : Oper} (hi : ops[i]? = some oi) (hsel : ∀ (j : Nat) (o : Oper) cs b, ops[j]? = some o → o.op ≠ .select cs b) :
  ∀ (fuel : Nat) (listed : Array Bool) (g : Ghost) (a : Act), (∀ k, listed.getD k false = true → ∀ m, edgeB md ops k m = true → listed.getD m false = true) →
   (∀ j oj, ops[j]? = some oj → j ≠ i → listed.getD j true = false → (∀ e ∈ oj.after, Region.binds md e = true → e.on ≠ i) → oi.apart ops oj = true) →
   i ∈ Region.ready md ops listed → AllY P ops md sh M Z w1 oi i g a (fun x => wpAnyS P ops md sh M Z w1 Q fuel (listed.setIfInBounds i true) (gput g i x) (a.put oi.dst x.v)) → wpAnyS P ops md sh M Z w1 Q (fuel + 1) listed g a := by
 have hnotOf : ∀ (listed : Array Bool) (i j : Nat) (oj : Oper), listed.getD i true = false → (∀ e ∈ oj.after, Region.binds md e = true → listed.getD e.on false = true) → ∀ e ∈ oj.after, Region.binds md e = true → e.on ≠ i := by
  intro listed i j oj h0 hall e he hb heq
  have h1 := hall e he hb
  rw [heq] at h1
  rcases Nat.lt_or_ge i listed.size with h' | h'
  ·simp [h'] at h0 h1; rw [h0] at h1; cases h1
  ·simp [Array.getElem?_eq_none h'] at h1
 intro fuel
 induction fuel with
 | zero =>
  intro listed g a hsh _ hr H
  refine ⟨fun h => (by rw [h] at hr; cases hr), fun j hj => ?_⟩
  by_cases hji : j = i
  ·subst hji
   exact (sOp_iff S hi).2 H
  ·exfalso
   obtain ⟨x0, hx0⟩ := H.1
   have := ready_mono hj hji
   rw [(H.2 x0 hx0).1] at this
   cases this
 | succ fuel ih =>
  intro listed g a hsh hfree hr H
  refine ⟨fun h => (by rw [h] at hr; cases hr), fun j hj => ?_⟩
  by_cases hji : j = i
  ·subst hji
   exact (sOp_iff S hi).2 H
  ·obtain ⟨x0, hx0⟩ := H.1
   have h1 := fun x hx => (H.2 x hx).2 j (ready_mono hj hji)
   obtain ⟨hjun, oj, hoj, hall⟩ := mem_ready.1 hj
   obtain ⟨hiun, oi', hoi', halli⟩ := mem_ready.1 hr
   have hoo : oi' = oi := by rw [hoi'] at hi; exact Option.some.inj hi
   subst hoo
   have hnot := hnotOf listed i j oj hiun hall
   have hnot' := hnotOf listed j i oi' hjun halli
   have hap := hfree j oj hoj hji hjun hnot
   obtain ⟨hp1, hp2, hp3⟩ := Oper.apart_spec hap
   have hDj : ∀ s ∈ sh, s.i = j → i ∉ s.D := fun s hs e hm => by
    obtain ⟨hne, hp⟩ := hC.1 s hs i hm
    rw [e] at hp
    rcases ready_pre hsh hoj hall hp with h' | h'
    ·rw [getD_of_true hiun] at h'; cases h'
    ·exact hji h'.symm
   have hDi : ∀ s ∈ sh, s.i = i → j ∉ s.D := fun s hs e hm => by
    obtain ⟨hne, hp⟩ := hC.1 s hs j hm
    rw [e] at hp
    rcases ready_pre hsh hoi' halli hp with h' | h'
    ·rw [getD_of_true hjun] at h'; cases h'
    ·exact hji h'
   have hselj := fun cs b => hsel j oj cs b hoj
   have hseli := fun cs b => hsel i oi' cs b hoi'
   have back : ∀ x y, Yields P ops md sh M Z w1 oj j g a y → Yields P ops md sh M Z w1 oj j (gput g i x) (a.put oi'.dst x.v) y := fun x y hy =>
    Yields_keep S hC hDj hselj hp1 x hy
   have forth : ∀ x y, Yields P ops md sh M Z w1 oj j (gput g i x) (a.put oi'.dst x.v) y → Yields P ops md sh M Z w1 oj j g a y := fun x y hy => by
    unfold Yields at *
    split
    ·rename_i s hs
     simp only [hs] at hy
     obtain ⟨hm, e⟩ := spOf_spec hs
     subst e
     exact ⟨(outS_gput S hC hm x (hDj s hm rfl)).1 ((outS_put hselj hp1).1 hy.1), hy.2.1, hy.2.2.1, (V_gput S hm x (hDj s hm rfl) y).1 hy.2.2.2⟩
    ·rename_i hs
     simp only [hs] at hy
     exact ⟨(YK_put hselj hp1).1 hy.1, hy.2⟩
   refine (sOp_iff S hoj).2 ⟨?_, fun y hy => ?_⟩
   ·obtain ⟨⟨y, hy⟩, _⟩ := (sOp_iff S hoj).1 (h1 x0 hx0)
    exact ⟨y, forth x0 y hy⟩
   ·have hfree' : ∀ k ok, ops[k]? = some ok → k ≠ i → (listed.setIfInBounds j true).getD k true = false →
      (∀ e ∈ ok.after, Region.binds md e = true → e.on ≠ i) → oi'.apart ops ok = true := fun k ok hk hki hun hno => by
     refine hfree k ok hk hki ?_ hno
     by_cases hjk : j = k
     ·subst hjk; exact hjun
     ·rw [getD_set_ne true hjk] at hun; exact hun
    refine ih (listed.setIfInBounds j true) _ _ (shut_set hoj hsh hall) hfree' (ready_mono hr (Ne.symm hji)) ⟨?_, fun x hx => ?_⟩
    ·exact ⟨x0, Yields_keep S hC hDi hseli hp3 y hx0⟩
    ·have hx' : Yields P ops md sh M Z w1 oi' i g a x := by
      unfold Yields at *
      split
      ·rename_i s hs
       simp only [hs] at hx
       obtain ⟨hm, e⟩ := spOf_spec hs
       subst e
       exact ⟨(outS_gput S hC hm y (hDi s hm rfl)).1 ((outS_put hseli hp3).1 hx.1), hx.2.1, hx.2.2.1, (V_gput S hm y (hDi s hm rfl) x).1 hx.2.2.2⟩
      ·rename_i hs
       simp only [hs] at hx
       exact ⟨(YK_put hseli hp3).1 hx.1, hx.2⟩
     have := ((sOp_iff S hoj).1 (h1 x hx')).2 y (back x y hy)
     show wpAnyS P ops md sh M Z w1 Q fuel _ _ _
     rw [Array.setIfInBounds_comm _ _ hji, ← gput_comm g y x (Ne.symm hji), ← Act.put_comm a x.v y.v hp2]
     exact this
def lexFrom6 (md : Region.Mode) (ops : Array Oper) : Nat → Nat → Array Bool → Bool
 | 0, _, listed => (Region.ready md ops listed).isEmpty && (List.range ops.size).all fun j => listed.getD j true
 | fuel + 1, k, listed => (Region.ready md ops listed).contains k && Region.free md ops listed k && lexFrom6 md ops fuel (k + 1) (listed.setIfInBounds k true)
def lex6 (md : Region.Mode) (ops : Array Oper) (sh : List Sh) : Bool := Region.noSelect ops && lexFrom6 md ops ops.size 0 (Array.replicate ops.size false) && decide (Cl md ops sh)
theorem wpAnyS_lex (S : St sh M Z w1) (hC : Cl md ops sh) {Q : Ghost → Act → Prop} (hs : Region.noSelect ops = true) : ∀ (l : List Oper) (k : Nat) (listed : Array Bool) (g : Ghost) (a : Act), (∀ j, l[j]? = ops[k + j]?) →
  (∀ k, listed.getD k false = true → ∀ m, edgeB md ops k m = true → listed.getD m false = true) →
  lexFrom6 md ops l.length k listed = true → wpS P ops md sh M Z w1 Q k l g a → wpAnyS P ops md sh M Z w1 Q l.length listed g a
 | [], _, _, _, _, _, _, hB, h => by
  simp only [List.length_nil, lexFrom6, Bool.and_eq_true] at hB
  exact ⟨by simpa using hB.1, fun j hj => List.all_eq_true.1 hB.2 j (List.mem_range.2 hj), h⟩
 | o :: l, k, listed, g, a, hl, hsh, hB, h => by
  have h0 : ops[k]? = some o := by simpa using (hl 0).symm
  simp only [List.length_cons, lexFrom6, Bool.and_eq_true] at hB
  obtain ⟨⟨hr, hf⟩, hB'⟩ := hB
  have hr' : k ∈ Region.ready md ops listed := by simpa using hr
  obtain ⟨hun, o', ho', hall⟩ := mem_ready.1 hr'
  have hoo : o' = o := by rw [ho'] at h0; exact Option.some.inj h0
  subst hoo
  have hop : sOp P ops md sh M Z w1 k (fun g a => wpS P ops md sh M Z w1 Q (k + 1) l g a) g a := by
   unfold sOp
   simp only [h0]
   exact h
  obtain ⟨h1, h2⟩ := (sOp_iff S h0).1 hop
  refine wpAnyS_first S hC h0 (Region.noSelect_spec hs) l.length listed g a hsh (Region.free_spec h0 hf) hr' ⟨h1, fun x hx => ?_⟩
  exact wpAnyS_lex S hC hs l (k + 1) _ _ _ (fun j => by have := hl (j + 1); simpa [Nat.add_assoc, Nat.add_comm 1 j] using this) (shut_set h0 hsh hall) hB' (h2 x hx)
def After (sh : List Sh) (M : Nat → Mean) (Z : Nat → Prop) (w1 : World) (n : Nat) (R : Act → World → Prop) (g : Ghost) (a : Act) : Prop :=
 ∀ w', Tr Z w1 w' → GOk sh w1 (· < n) g w'.heap.size → (∀ i s, spOf sh i = some s → s.kill = [] → i < n → (M i).F g w') → R a w'
theorem wpAny_six {Q : Exit → Act → World → Prop} {a : Act} {l : List Oper} (hB : lex6 .any l.toArray sh = true) (S : St sh M Z w1)
  (h : ∀ QQ : Ghost → Act → Prop, (∀ g a', After sh M Z w1 l.length (fun a w => Q .normal a w) g a' → QQ g a') → wpS P l.toArray .any sh M Z w1 QQ 0 l (fun _ => ⟨undef, 0, 0⟩) a) :
  wpAny P .any l.toArray Q l.toArray.size (Array.replicate l.toArray.size false) a w1 := by
 simp only [lex6, Bool.and_eq_true, decide_eq_true_eq] at hB
 have hno : ∀ k, (Array.replicate l.toArray.size false).getD k false = true → False := fun k hk => by
  rw [Array.getD_eq_getD_getElem?, Array.getElem?_replicate] at hk
  split at hk <;> cases hk
 have h1 := wpAnyS_lex (md := .any) S hB.2 hB.1.1 l 0 (Array.replicate l.toArray.size false) (fun _ => ⟨undef, 0, 0⟩) a (by simp) (fun k hk => (hno k hk).elim) (by simpa using hB.1.2) (h _ fun _ _ h => h)
 have := wpAny_of_S S hB.2 (Q' := Q) (fun g a h w listed I hall => h w (I.tr.mono fun b _ ⟨s, hs, _, hx⟩ => (S.xo s hs b hx).2.1)
  ⟨fun k hk hsk => I.ok.1 k (hall k (by simpa using hk)) hsk, fun j k hj hk hsj hsk hjk => I.ok.2 j k (hall j (by simpa using hj)) (hall k (by simpa using hk)) hsj hsk hjk⟩
  fun i s hs hk hlt => (spOf_spec hs).2 ▸ I.fact s (spOf_spec hs).1 (by rw [(spOf_spec hs).2]; exact hall _ (by simpa using hlt)) fun j hj => by rw [hk] at hj; cases hj) _ _ _ _ h1 w1
  ⟨Tr.refl _ _, fun k hk => (hno k hk).elim, ⟨fun k hk => (hno k hk).elim, fun j k hj => (hno j hj).elim⟩, fun s _ hl => (hno _ hl).elim⟩ (by simp)
 simpa using this
theorem wp_region_six {id : Nat} {Q : Exit → Act → World → Prop} {a : Act} {w : World} {l : List Oper} (sh : List Sh) (M : Nat → Mean) (Z : Nat → Prop) (hm : P.follows .mixedOrders = true) (hB : lex6 .any l.toArray sh = true)
  (S : St sh M Z w.drew)
  (h : ∀ QQ : Ghost → Act → Prop, (∀ g a', After sh M Z w.drew l.length (fun a w => Q .normal a w) g a' → QQ g a') → wpS P l.toArray .any sh M Z w.drew QQ 0 l (fun _ => ⟨undef, 0, 0⟩) a) : (Code.region id l.toArray true).wp P Q a w :=
 wp_region_any hm (wpAny_six hB S h)
theorem wp_region_six0 {id : Nat} {Q : Exit → Act → World → Prop} {a : Act} {w : World} {l : List Oper} (sh : List Sh) (M : Nat → Mean) (Z : Nat → Prop) (hm : Region.linearise .any l.toArray 0 = List.range l.toArray.size) (hB : lex6 .any l.toArray sh = true)
  (S : St sh M Z w)
  (h : ∀ QQ : Ghost → Act → Prop, (∀ g a', After sh M Z w l.length (fun a w => Q .normal a w) g a' → QQ g a') → wpS P l.toArray .any sh M Z w QQ 0 l (fun _ => ⟨undef, 0, 0⟩) a) : (Code.region id l.toArray false).wp P Q a w :=
 wp_region (hm ▸ wpAny_sound _ 0 _ _ _ (wpAny_six hB S h))
end
end Go.Proofs.Ytpdenhmkpiafiaa.K6
namespace Go.Proofs.Ytpdenhmkpiafiaa.K6
open Go Go.RowKit
abbrev Sp := Sh × Mean
def dflt : Mean := ⟨fun _ _ => True, fun _ _ => True, None_, None_⟩
def shs (l : List Sp) : List Sh := l.map (·.1)
def look6 (l : List Sp) (i : Nat) : Mean := match l with
 | [] => dflt
 | p :: l => if p.1.i = i then p.2 else look6 l i
structure OpOk (w1 : World) (Z : Nat → Prop) (p : Sp) : Prop where
 some_ : ∀ g, ∃ x : GV, w1.heap.size ≤ x.lo ∧ x.lo ≤ x.hi ∧ p.2.V g x
 depV : ∀ g g', (∀ x ∈ p.1.D, g' x = g x) → ∀ x, p.2.V g x → p.2.V g' x
 depF : ∀ g g', (∀ x, x = p.1.i ∨ x ∈ p.1.D → g' x = g x) → ∀ w, p.2.F g w → p.2.F g' w
 loc : ∀ g w w', p.2.F g w → Tr (fun b => ¬ (p.1.any = true ∨ p.2.Lo b ∨ ∃ k ∈ p.1.Li, (g k).lo ≤ b ∧ b < (g k).hi)) w w' → p.2.F g w'
 xo : ∀ b, p.2.Xo b → p.1.x = true ∧ Z b ∧ b < w1.heap.size
 lo : ∀ b, p.2.Lo b → p.1.l = true ∧ b < w1.heap.size
def AllOk (w1 : World) (Z : Nat → Prop) : List Sp → Prop
 | [] => True
 | p :: l => OpOk w1 Z p ∧ AllOk w1 Z l
theorem AllOk.mem {w1 : World} {Z : Nat → Prop} : ∀ {l : List Sp}, AllOk w1 Z l → ∀ p ∈ l, OpOk w1 Z p
 | _ :: _, h, p, hp => by
  rcases List.mem_cons.1 hp with rfl | hp
  ·exact h.1
  ·exact h.2.mem p hp
def onceB : List Sp → Bool
 | [] => true
 | p :: l => l.all (fun q => q.1.i != p.1.i) && onceB l
theorem look_mem : ∀ {l : List Sp}, onceB l = true → ∀ p ∈ l, look6 l p.1.i = p.2
 | q :: l, h, p, hp => by
  simp only [onceB, Bool.and_eq_true] at h
  rcases List.mem_cons.1 hp with rfl | hp
  ·simp [look6]
  ·have := List.all_eq_true.1 h.1 p hp
   have hne : q.1.i ≠ p.1.i := fun e => by simp [e] at this
   simp only [look6, if_neg hne]
   exact look_mem h.2 p hp
def isX (s : Sh) : Bool := s.x || !s.Xi.isEmpty
def sepB (sh : List Sh) (fi xi : List Nat) : Bool := sh.all fun s => (!s.any && !s.l) || (fi.contains s.i && !s.any && sh.all fun t => !isX t || xi.contains t.i) || sh.all fun t => !isX t || t.i == s.i || s.kill.contains t.i
theorem mk_St {w1 : World} {Z : Nat → Prop} (l : List Sp) (fi xi : List Nat) (h1 : onceB l = true) (h2 : sepB (shs l) fi xi = true) (h : AllOk w1 Z l)
  (h3 : ∀ i ∈ fi, ∀ j ∈ xi, i ≠ j → ∀ b, (look6 l i).Lo b → ¬ (look6 l j).Xo b) : St (shs l) (look6 l) Z w1 := by
 have hm : ∀ s ∈ shs l, ∃ m, (s, m) ∈ l ∧ look6 l s.i = m := fun s hs => by
  obtain ⟨⟨s', m⟩, hp, rfl⟩ := List.mem_map.1 hs
  exact ⟨m, hp, look_mem h1 _ hp⟩
 have hx : ∀ s ∈ shs l, isX s = false → (∀ b, ¬ (look6 l s.i).Xo b) ∧ s.Xi = [] := fun s hs he => by
  obtain ⟨m, hp, hl⟩ := hm s hs
  simp only [isX, Bool.or_eq_false_iff, Bool.not_eq_false', List.isEmpty_iff] at he
  refine ⟨fun b hb => ?_, he.2⟩
  rw [hl] at hb
  have := ((h.mem _ hp).xo b hb).1
  simp only at this
  rw [he.1] at this
  cases this
 refine ⟨fun s hs => ?_, fun s hs => ?_, fun s hs => ?_, fun s hs => ?_, fun s hs => ?_, fun s hs => ?_, fun s hs t ht hne => ?_⟩
 ·obtain ⟨m, hp, hl⟩ := hm s hs; rw [hl]; exact (h.mem _ hp).some_
 ·obtain ⟨m, hp, hl⟩ := hm s hs; rw [hl]; exact (h.mem _ hp).depV
 ·obtain ⟨m, hp, hl⟩ := hm s hs; rw [hl]; exact (h.mem _ hp).depF
 ·obtain ⟨m, hp, hl⟩ := hm s hs
  unfold LL
  rw [hl]; exact (h.mem _ hp).loc
 ·obtain ⟨m, hp, hl⟩ := hm s hs; rw [hl]; exact (h.mem _ hp).xo
 ·obtain ⟨m, hp, hl⟩ := hm s hs; rw [hl]; exact fun b hb => ((h.mem _ hp).lo b hb).2
 ·have hs2 := List.all_eq_true.1 h2 s hs
  cases ht' : isX t with
  | false =>
   obtain ⟨h5, h6⟩ := hx t ht ht'
   exact .inr ⟨fun b _ => h5 b, fun _ => ⟨h5, h6⟩⟩
  | true =>
   simp only [Bool.or_eq_true, Bool.and_eq_true] at hs2
   rcases hs2 with (⟨hna, hnl⟩ | ⟨⟨hf, hany⟩, hxi⟩) | hk
   ·obtain ⟨m, hp, hl⟩ := hm s hs
    refine .inr ⟨fun b hb => ?_, fun ha => by rw [ha] at hna; cases hna⟩
    rw [hl] at hb
    have := ((h.mem _ hp).lo b hb).1
    simp only at this
    rw [this] at hnl
    cases hnl
   ·have := List.all_eq_true.1 hxi t ht
    simp only [ht', Bool.not_true, Bool.false_or] at this
    refine .inr ⟨h3 s.i (by simpa using hf) t.i (by simpa using this) hne, fun ha => ?_⟩
    rw [ha] at hany; cases hany
   ·have := List.all_eq_true.1 hk t ht
    simp only [ht', Bool.not_true, Bool.false_or, Bool.or_eq_true, beq_iff_eq] at this
    exact .inl (by simpa using this.resolve_left (Ne.symm hne))
def sV (i : Nat) (D use : List Nat) (p : Value → Prop) : Sp := (⟨i, D, use, [], [], [], false, false, false⟩, ⟨fun _ x => p x.v, fun _ _ => True, None_, None_⟩)
theorem ok_V {w1 : World} {Z : Nat → Prop} {i : Nat} {D use : List Nat} {p : Value → Prop} (h : ∃ v, p v) : OpOk w1 Z (sV i D use p) where
 some_ := fun _ => by obtain ⟨v, hv⟩ := h; exact ⟨⟨v, w1.heap.size, w1.heap.size⟩, Nat.le_refl _, Nat.le_refl _, hv⟩
 depV := fun _ _ _ _ h => h
 depF := fun _ _ _ _ h => h
 loc := fun _ _ _ _ _ => trivial
 xo := fun _ h => h.elim
 lo := fun _ h => h.elim
def sF (i : Nat) (D use kill : List Nat) (p : GV → Prop) (f : GV → World → Prop) : Sp := (⟨i, D, use, kill, [], [], true, false, false⟩, ⟨fun _ x => p x, fun g w => f (g i) w, None_, None_⟩)
theorem ok_F {w1 : World} {Z : Nat → Prop} {i : Nat} {D use kill : List Nat} {p : GV → Prop} {f : GV → World → Prop} (h : ∃ x : GV, w1.heap.size ≤ x.lo ∧ x.lo ≤ x.hi ∧ p x) (hl : ∀ x w w', f x w → Below w.heap.size w w' → f x w') : OpOk w1 Z (sF i D use kill p f) where
 some_ := fun _ => h
 depV := fun _ _ _ _ h => h
 depF := fun g g' hg w h => by show f (g' i) w; rw [hg i (.inl rfl)]; exact h
 loc := fun g w w' h hT => hl _ w w' h ((hT.mono fun b _ hb => hb (.inl rfl)).below)
 xo := fun _ h => h.elim
 lo := fun _ h => h.elim
def sA (i t : Nat) (kill : List Nat) (cs : Array Value) : Sp := (⟨i, [], [], kill, [], [i], false, false, false⟩, ⟨fun _ x => x.v = .pointer (some ⟨x.lo, 0, none⟩) ∧ x.hi = x.lo + 1, fun g w => (g i).hi = (g i).lo + 1 ∧ Row w (g i).lo t cs, None_, None_⟩)
theorem Row.tr {X : Nat → Prop} {w w' : World} {g t : Nat} {cs : Array Value} (h : Row w g t cs) (hT : Tr X w w') (hx : ¬ X g) : Row w' g t cs := (hT.block g h.lt hx).trans h
theorem ok_A {w1 : World} {Z : Nat → Prop} {i t : Nat} {kill : List Nat} {cs : Array Value} : OpOk w1 Z (sA i t kill cs) where
 some_ := fun _ => ⟨⟨.pointer (some ⟨w1.heap.size, 0, none⟩), w1.heap.size, w1.heap.size + 1⟩, Nat.le_refl _, Nat.le_succ _, rfl, rfl⟩
 depV := fun _ _ _ _ h => h
 depF := fun g g' hg w h => by show (g' i).hi = (g' i).lo + 1 ∧ Row w (g' i).lo t cs; rw [hg i (.inl rfl)]; exact h
 loc := fun g w w' h hT => ⟨h.1, Row.tr h.2 hT fun hn => hn (.inr (.inr ⟨i, by simp [sA], Nat.le_refl _, by have : (g i).hi = (g i).lo + 1 := h.1; omega⟩))⟩
 xo := fun _ h => h.elim
 lo := fun _ h => h.elim
def sT (i k t : Nat) (D : List Nat) (cells : Ghost → Array Value) : Sp := (⟨i, k :: D, [k], [], [k], [k], false, false, false⟩, ⟨fun _ x => x.v = undef, fun g w => (g k).hi = (g k).lo + 1 ∧ Row w (g k).lo t (cells g), None_, None_⟩)
theorem ok_T {w1 : World} {Z : Nat → Prop} {i k t : Nat} {D : List Nat} {cells : Ghost → Array Value} (h : ∀ g g', (∀ x ∈ D, g' x = g x) → cells g' = cells g) : OpOk w1 Z (sT i k t D cells) where
 some_ := fun _ => ⟨⟨undef, w1.heap.size, w1.heap.size⟩, Nat.le_refl _, Nat.le_refl _, rfl⟩
 depV := fun _ _ _ _ h => h
 depF := fun g g' hg w hf => by
  show (g' k).hi = (g' k).lo + 1 ∧ Row w (g' k).lo t (cells g')
  rw [hg k (.inr (by simp [sT])), h g g' fun x hx => hg x (.inr (by simp [sT, hx]))]; exact hf
 loc := fun g w w' h hT => ⟨h.1, Row.tr h.2 hT fun hn => hn (.inr (.inr ⟨k, by simp [sT], Nat.le_refl _, by have : (g k).hi = (g k).lo + 1 := h.1; omega⟩))⟩
 xo := fun _ h => h.elim
 lo := fun _ h => h.elim
def sO (i b t : Nat) (D : List Nat) (cells : Ghost → Array Value) : Sp := (⟨i, D, [], [], [], [], false, true, true⟩, ⟨fun _ x => x.v = undef, fun g w => Row w b t (cells g), (· = b), (· = b)⟩)
theorem ok_O {w1 : World} {Z : Nat → Prop} {i b t : Nat} {D : List Nat} {cells : Ghost → Array Value} (h : ∀ g g', (∀ x ∈ D, g' x = g x) → cells g' = cells g) (hb : b < w1.heap.size) (hz : Z b) : OpOk w1 Z (sO i b t D cells) where
 some_ := fun _ => ⟨⟨undef, w1.heap.size, w1.heap.size⟩, Nat.le_refl _, Nat.le_refl _, rfl⟩
 depV := fun _ _ _ _ h => h
 depF := fun g g' hg w hf => by
  show Row w b t (cells g')
  rw [h g g' fun x hx => hg x (.inr hx)]; exact hf
 loc := fun g w w' h hT => Row.tr h hT fun hn => hn (.inr (.inl rfl))
 xo := fun c hc => by
  have hc' : c = b := hc
  subst hc'; exact ⟨rfl, hz, hb⟩
 lo := fun c hc => by
  have hc' : c = b := hc
  subst hc'; exact ⟨rfl, hb⟩
def RowL : List (Nat × Nat × Array Value) → World → Prop
 | [], _ => True
 | (g, t, cs) :: L, w => Row w g t cs ∧ RowL L w
theorem RowL.keep {w w' : World} (hb : Below w.heap.size w w') : ∀ {L : List (Nat × Nat × Array Value)}, RowL L w → RowL L w'
 | [], _ => trivial
 | _ :: _, hr => ⟨hr.1.below hb hr.1.lt, hr.2.keep hb⟩
def Mem (w : World) (L : List (Nat × Nat × Array Value)) (wc : World) : Prop := Below w.heap.size w wc ∧ RowL L wc
theorem Mem.keep {w wc w' : World} {L : List (Nat × Nat × Array Value)} (h : Mem w L wc) (hb : Below wc.heap.size wc w') : Mem w L w' := ⟨h.1.trans (hb.mono h.1.size), h.2.keep hb⟩
theorem Mem.drew {w wc : World} {L : List (Nat × Nat × Array Value)} (h : Mem w L wc) : Mem w L wc.drew := h.keep ((Below.refl _ _).drew)
theorem Mem.tr {w wc w' : World} {L : List (Nat × Nat × Array Value)} (h : Mem w L wc) (hb : Tr None_ wc w') : Mem w L w' := h.keep hb.below
theorem wp_abs {P : Program} {Q : Exit → Act → World → Prop} {a : Act} {W : World} {c : Code} (Fa : World → Prop) (h : Fa W) (k : ∀ W0, Fa W0 → c.wp P Q a W0) : c.wp P Q a W := k W h
theorem wp_seq_eq {P : Program} {Q : Exit → Act → World → Prop} {a a1 : Act} {w W1 : World} {A B : Code} (h1 : ∀ J : Act → World → Prop, J a1 W1 → A.wp P (Exit.then J Q) a w) (h2 : B.wp P Q a1 W1) : (A.seq B).wp P Q a w := wp_seq (h1 _ h2)
section
variable {P : Program} {ops : Array Oper} {md : Region.Mode} {sh : List Sh} {M : Nat → Mean} {Z : Nat → Prop} {w1 : World} {Q : Ghost → Act → Prop} {k : Nat} {o : Oper} {rest : List Oper} {g : Ghost} {a : Act}
def gives (v : Value) (w : World) : Result Next → Prop
 | .ok (.value u) w' => u = v ∧ w' = w
 | _ => False
theorem gives_eq {v : Value} {w : World} {r : Result Next} (h : gives v w r) : r = .ok (.value v) w := by
 cases r with
 | ok n w' =>
  cases n <;> simp only [gives] at h
  obtain ⟨rfl, rfl⟩ := h
  rfl
 | halt x w' => simp only [gives] at h
def kOut (P : Program) (w1 : World) (X : Nat → Prop) (o : Oper) (a : Act) (v : Value) : Prop := ∀ w, Tr X w1 w → gives v w ((execOp a.eval o).run P w)
theorem xu_full {b : Nat} (hf : fullB md ops sh k = true) (h : XU ops md sh M k b) : False := by
 obtain ⟨s, hs, hx, hp, _⟩ := h
 have := List.all_eq_true.1 hf s hs
 rw [hx] at this
 exact hp (by simpa using this)
def xuOf (md : Region.Mode) (ops : Array Oper) (sh : List Sh) (k : Nat) : List Nat := (sh.filter fun s => s.x && !(pre md ops s.i).contains k).map (·.i)
theorem xu_list {b : Nat} {l : List Nat} (hl : xuOf md ops sh k = l) (h : XU ops md sh M k b) : ∃ i ∈ l, (M i).Xo b := by
 obtain ⟨s, hs, hx, hp, hb⟩ := h
 refine ⟨s.i, ?_, hb⟩
 subst hl
 exact List.mem_map.2 ⟨s, List.mem_filter.2 ⟨hs, by simp [hx, hp]⟩, rfl⟩
theorem stepK (h0 : spOf sh k = none) (hf : fullB md ops sh k = true)
  (h : ∀ K : Ghost → Act → Prop, (∀ g a, wpS P ops md sh M Z w1 Q (k + 1) rest g a → K g a) → if Region.wanted o (yielded ops a.tmps) then ∃ v, kOut P w1 None_ o a v ∧ K (gput g k ⟨v, 0, 0⟩) (a.put o.dst v) else K (gput g k ⟨undef, 0, 0⟩) (a.put o.dst undef)) :
  wpS P ops md sh M Z w1 Q k (o :: rest) g a := by
 have hh := h _ (fun _ _ h => h)
 unfold wpS
 simp only [h0]
 split at hh
 ·rename_i hw
  obtain ⟨v, h1, h2⟩ := hh
  refine ⟨v, .inl ⟨hw, fun w hk => gives_eq (h1 w ?_)⟩, h2⟩
  exact hk.1.mono fun b _ hb => (xu_full hf hb).elim
 ·rename_i hw
  exact ⟨undef, .inr ⟨by simpa using hw, rfl⟩, hh⟩
theorem stepKz (h0 : spOf sh k = none)
  (h : ∀ K : Ghost → Act → Prop, (∀ g a, wpS P ops md sh M Z w1 Q (k + 1) rest g a → K g a) → if Region.wanted o (yielded ops a.tmps) then ∃ v, kOut P w1 Z o a v ∧ K (gput g k ⟨v, 0, 0⟩) (a.put o.dst v) else K (gput g k ⟨undef, 0, 0⟩) (a.put o.dst undef)) :
  wpS P ops md sh M Z w1 Q k (o :: rest) g a := by
 have hh := h _ (fun _ _ h => h)
 unfold wpS
 simp only [h0]
 split at hh
 ·rename_i hw
  obtain ⟨v, h1, h2⟩ := hh
  exact ⟨v, .inl ⟨hw, fun w hk => gives_eq (h1 w hk.2)⟩, h2⟩
 ·rename_i hw
  exact ⟨undef, .inr ⟨by simpa using hw, rfl⟩, hh⟩
def sOut (P : Program) (w1 : World) (sh : List Sh) (M : Nat → Mean) (X : Nat → Prop) (o : Oper) (a : Act) (s : Sh) (g : Ghost) : Prop :=
 ∀ w, Tr X w1 w → GOk sh w1 (· ∈ s.D) g w.heap.size → (∀ k ∈ s.use, (M k).F g w) → sUpon P (Left M s g w) ((execOp a.eval o).run P w)
theorem stepS (s : Sh) (h0 : spOf sh k = some s) (hf : fullB md ops sh k = true)
  (h : ∀ K : Ghost → Act → Prop, (∀ g a, wpS P ops md sh M Z w1 Q (k + 1) rest g a → K g a) → Region.wanted o (yielded ops a.tmps) = true ∧ sOut P w1 sh M None_ o a s g ∧ ∀ x : GV, w1.heap.size ≤ x.lo → x.lo ≤ x.hi → (M k).V g x → K (gput g k x) (a.put o.dst x.v)) :
  wpS P ops md sh M Z w1 Q k (o :: rest) g a := by
 have hh := h _ (fun _ _ h => h)
 unfold wpS
 simp only [h0]
 refine ⟨⟨hh.1, fun w hk => hh.2.1 w ?_⟩, hh.2.2⟩
 rw [(spOf_spec h0).2] at hk
 exact hk.1.mono fun b _ hb => (xu_full hf hb).elim
theorem stepSz (s : Sh) (h0 : spOf sh k = some s)
  (h : ∀ K : Ghost → Act → Prop, (∀ g a, wpS P ops md sh M Z w1 Q (k + 1) rest g a → K g a) → Region.wanted o (yielded ops a.tmps) = true ∧ sOut P w1 sh M Z o a s g ∧ ∀ x : GV, w1.heap.size ≤ x.lo → x.lo ≤ x.hi → (M k).V g x → K (gput g k x) (a.put o.dst x.v)) :
  wpS P ops md sh M Z w1 Q k (o :: rest) g a := by
 have hh := h _ (fun _ _ h => h)
 unfold wpS
 simp only [h0]
 exact ⟨⟨hh.1, fun w hk => hh.2.1 w hk.2⟩, hh.2.2⟩
theorem stepSx (s : Sh) (l : List Nat) (X : Nat → Prop) (h0 : spOf sh k = some s) (hl : xuOf md ops sh k = l) (hX : ∀ i ∈ l, ∀ b, (M i).Xo b → X b)
  (h : ∀ K : Ghost → Act → Prop, (∀ g a, wpS P ops md sh M Z w1 Q (k + 1) rest g a → K g a) → Region.wanted o (yielded ops a.tmps) = true ∧ sOut P w1 sh M X o a s g ∧ ∀ x : GV, w1.heap.size ≤ x.lo → x.lo ≤ x.hi → (M k).V g x → K (gput g k x) (a.put o.dst x.v)) :
  wpS P ops md sh M Z w1 Q k (o :: rest) g a := by
 have hh := h _ (fun _ _ h => h)
 unfold wpS
 simp only [h0]
 refine ⟨⟨hh.1, fun w hk => hh.2.1 w ?_⟩, hh.2.2⟩
 rw [(spOf_spec h0).2] at hk
 exact hk.1.mono fun b _ hb => by
  obtain ⟨i, hi, hx⟩ := xu_list hl hb
  exact hX i hi b hx
theorem stepKx (l : List Nat) (X : Nat → Prop) (h0 : spOf sh k = none) (hl : xuOf md ops sh k = l) (hX : ∀ i ∈ l, ∀ b, (M i).Xo b → X b)
  (h : ∀ K : Ghost → Act → Prop, (∀ g a, wpS P ops md sh M Z w1 Q (k + 1) rest g a → K g a) → if Region.wanted o (yielded ops a.tmps) then ∃ v, kOut P w1 X o a v ∧ K (gput g k ⟨v, 0, 0⟩) (a.put o.dst v) else K (gput g k ⟨undef, 0, 0⟩) (a.put o.dst undef)) :
  wpS P ops md sh M Z w1 Q k (o :: rest) g a := by
 have hh := h _ (fun _ _ h => h)
 unfold wpS
 simp only [h0]
 split at hh
 ·rename_i hw
  obtain ⟨v, h1, h2⟩ := hh
  refine ⟨v, .inl ⟨hw, fun w hk => gives_eq (h1 w (hk.1.mono fun b _ hb => ?_))⟩, h2⟩
  obtain ⟨i, hi, hx⟩ := xu_list hl hb
  exact hX i hi b hx
 ·rename_i hw
  exact ⟨undef, .inr ⟨by simpa using hw, rfl⟩, hh⟩
theorem stepN (h : Q g a) : wpS P ops md sh M Z w1 Q k [] g a := h
theorem upon_value {V : Value → World → Prop} {u : Value} {w : World} (h : V u w) : sUpon P V (.ok (.value u) w) := h
theorem upon_enter {V : Value → World → Prop} {f : FuncId} {args : Array Value} {w : World} (h : Calls P f args w (fun e w' => ∃ v, e = .returned v ∧ V v w')) : sUpon P V (.ok (.enter f args) w) := h
theorem gput_self (g : Ghost) (i : Nat) (x : GV) : gput g i x i = x := by simp [gput]
theorem left_F {l : List Sp} {i : Nat} {D use kill : List Nat} {p : GV → Prop} {f : GV → World → Prop} {s : Sh} (hl : look6 l s.i = (sF i D use kill p f).2) (hs : s = (sF i D use kill p f).1) {g : Ghost} {w w' : World} {v : Value}
  (hb : Below w.heap.size w w') (hp : p ⟨v, w.heap.size, w'.heap.size⟩) (hf : f ⟨v, w.heap.size, w'.heap.size⟩ w') : Left (look6 l) s g w v w' := by
 unfold Left
 rw [hl]
 subst hs
 exact ⟨hp, Tr.of hb, by show f (gput g i _ i) w'; rw [gput_self]; exact hf⟩
theorem left_V {l : List Sp} {i : Nat} {D use : List Nat} {p : Value → Prop} {s : Sh} (hl : look6 l s.i = (sV i D use p).2) {g : Ghost} {w w' : World} {v : Value}
  (hb : Below w.heap.size w w') (hp : p v) : Left (look6 l) s g w v w' := by
 unfold Left
 rw [hl]
 exact ⟨hp, Tr.of hb, trivial⟩
theorem left_A {l : List Sp} {i t : Nat} {kill : List Nat} {cs : Array Value} {s : Sh} (hl : look6 l s.i = (sA i t kill cs).2) (hs : s = (sA i t kill cs).1) {g : Ghost} {w : World} : Left (look6 l) s g w (.pointer (some ⟨w.heap.size, 0, none⟩)) (w.alloc (.cells cs t)) := by
 unfold Left
 rw [hl]
 subst hs
 refine ⟨⟨rfl, by simp⟩, Tr.of ((Below.refl _ _).alloc (Nat.le_refl _) _), ?_⟩
 show (gput g i _ i).hi = (gput g i _ i).lo + 1 ∧ Row _ (gput g i _ i).lo t cs
 rw [gput_self]
 exact ⟨by simp, Row.new_at rfl⟩
theorem left_T {l : List Sp} {i k t : Nat} {D : List Nat} {cells : Ghost → Array Value} {s : Sh} (hl : look6 l s.i = (sT i k t D cells).2) (hs : s = (sT i k t D cells).1) (hik : i ∉ k :: D) (hc : ∀ g g', (∀ x ∈ D, g' x = g x) → cells g' = cells g) {g : Ghost} {w w' : World}
  (hh : (g k).hi = (g k).lo + 1) (hb : ∀ b, b ≠ (g k).lo → w'.heap[b]? = w.heap[b]?) (ho : w'.os = w.os) (ht : w'.tape = w.tape) (hu : w'.output = w.output) (hz : w'.heap.size = w.heap.size) (hr : Row w' (g k).lo t (cells g)) : Left (look6 l) s g w undef w' := by
 unfold Left
 rw [hl]
 subst hs
 simp only [List.mem_cons, not_or] at hik
 refine ⟨rfl, ⟨ho, ht, hu, by omega, fun b _ hx => hb b fun e => hx (.inr ⟨k, by simp [sT], by omega, by omega⟩)⟩, ?_⟩
 show (gput g i _ k).hi = (gput g i _ k).lo + 1 ∧ Row _ (gput g i _ k).lo t (cells (gput g i _))
 rw [gput_ne (Ne.symm hik.1), hc g _ fun x hx => gput_ne (fun e : x = i => hik.2 (by rw [← e]; exact hx))]
 exact ⟨hh, hr⟩
theorem left_O {l : List Sp} {i b t : Nat} {D : List Nat} {cells : Ghost → Array Value} {s : Sh} (hl : look6 l s.i = (sO i b t D cells).2) (hs : s = (sO i b t D cells).1) (hik : i ∉ D) (hc : ∀ g g', (∀ x ∈ D, g' x = g x) → cells g' = cells g) {g : Ghost} {w w' : World}
  (hb : ∀ c, c ≠ b → w'.heap[c]? = w.heap[c]?) (ho : w'.os = w.os) (ht : w'.tape = w.tape) (hu : w'.output = w.output) (hz : w'.heap.size = w.heap.size) (hr : Row w' b t (cells g)) : Left (look6 l) s g w undef w' := by
 unfold Left
 rw [hl]
 subst hs
 refine ⟨rfl, ⟨ho, ht, hu, by omega, fun c _ hx => hb c fun e => hx (.inl (by rw [hl]; exact e))⟩, ?_⟩
 show Row _ b t (cells (gput g i _))
 rw [hc g _ fun x hx => gput_ne (fun e : x = i => hik (by rw [← e]; exact hx))]
 exact hr
theorem heap_setRow_ne {w : World} {g b : Nat} {cs : Array Value} (h : b ≠ g) : (w.setRow g cs).heap[b]? = w.heap[b]? := by
 simp only [World.setRow, Array.getElem?_modify]
 rw [if_neg (fun e => h e.symm)]
theorem row_setRow {w : World} {g t : Nat} {cs old : Array Value} (h : Row w g t old) : Row (w.setRow g cs) g t cs := by
 unfold Row at h ⊢
 simp [World.setRow, Array.getElem?_modify, h]
theorem kLoad {X : Nat → Prop} {ty : TypeId} {x : Operand} {b t n : Nat} {cs : Array Value} (ho : o.op = .load ty x) (hx : a.eval x = .pointer (some ⟨b, 0, none⟩)) (T : AggT P ty n) (hr : Row w1 b t cs) (hs : cs.size = n) (hX : ¬ X b) : kOut P w1 X o a (.agg cs) := by
 intro w hw
 have h := T.load (w := w) (Row.tr hr hw hX) hs
 unfold execOp
 simp only [ho, hx, Instr.loadAt, Instr.sureAddr, Sem.run_bind, Sem.run_pure, Result.andThen_ok, h]
 exact ⟨rfl, rfl⟩
theorem kLoadMid {X : Nat → Prop} {ty : TypeId} {x : Operand} {b off t n : Nat} {cs cs' : Array Value} (ho : o.op = .load ty x) (hx : a.eval x = .pointer (some ⟨b, off, none⟩)) (T : AggT P ty n) (hr : Row w1 b t cs) (hsub : ∀ j v, cs'[j]? = some v → cs[off + j]? = some v) (hs : cs'.size = n) (hX : ¬ X b) : kOut P w1 X o a (.agg cs') := by
 intro w hw
 have hr' := Row.tr hr hw hX
 obtain ⟨⟨d, hu, hd⟩, hi⟩ := T
 have hc : w.rangeAt b off cs'.toList := fun j v hv => by rw [hr'.cell]; exact hsub j v (by simpa using hv)
 have h := run_loadAt_mid (P := P) w b off ty cs'.toList d hc hu (by cases d <;> first | rfl | exact Bool.noConfusion hd) (by rw [hi, ← hs]; simp)
 unfold execOp
 simp only [ho, hx, Sem.run_bind, Sem.run_pure, Result.andThen_ok, h]
 exact ⟨by simp, rfl⟩
theorem run_store_row {ty : TypeId} {x y : Operand} {b t : Nat} {old cells : Array Value} {w : World} (ho : o.op = .store ty x y) (hx : a.eval x = .pointer (some ⟨b, 0, none⟩)) (hy : a.eval y = .agg cells) (hr : Row w b t old)
  (hi : (P.info? ty).map (·.size) = some cells.size) (hold : old.size = cells.size) (h1 : cells.all (·.oneCell') = true) : (execOp a.eval o).run P w = .ok .skip (w.setRow b cells) := by
 unfold execOp
 simp only [ho, hx, hy, Instr.storeAt, Instr.sureAddr, Sem.run_bind, Sem.run_pure, Result.andThen_ok, run_storeVar_row w b t ty old cells hr hi hold h1]
theorem sStoreT {X : Nat → Prop} {l : List Sp} {i k' t : Nat} {D : List Nat} {kill : List Nat} {old : Array Value} {cells : Ghost → Array Value} {cs : Array Value} {s : Sh} (hl : look6 l s.i = (sT i k' t D cells).2) (hs : s = (sT i k' t D cells).1) (hk : look6 l k' = (sA k' t kill old).2)
  {ty : TypeId} {x y : Operand} (ho : o.op = .store ty x y) (hx : a.eval x = .pointer (some ⟨(g k').lo, 0, none⟩)) (hy : a.eval y = .agg cs) (hcs : cells g = cs)
  (hi : (P.info? ty).map (·.size) = some cs.size) (hold : old.size = cs.size) (h1 : cs.all (·.oneCell') = true) (hik : i ∉ k' :: D) (hc : ∀ g g', (∀ x ∈ D, g' x = g x) → cells g' = cells g) :
  sOut P w1 sh (look6 l) X o a s g := by
 subst hcs
 intro w hT hg hu
 have hf := hu k' (by subst hs; simp [sT])
 rw [hk] at hf
 obtain ⟨h2, h3⟩ : (g k').hi = (g k').lo + 1 ∧ Row w (g k').lo t old := hf
 rw [run_store_row ho hx hy h3 hi hold h1]
 exact left_T hl hs hik hc h2 (fun b hb => heap_setRow_ne hb) rfl rfl rfl (by simp) (row_setRow h3)
theorem sStoreO {X : Nat → Prop} {l : List Sp} {i b t : Nat} {D : List Nat} {old : Array Value} {cells : Ghost → Array Value} {cs : Array Value} {s : Sh} (hl : look6 l s.i = (sO i b t D cells).2) (hs : s = (sO i b t D cells).1)
  {ty : TypeId} {x y : Operand} (ho : o.op = .store ty x y) (hx : a.eval x = .pointer (some ⟨b, 0, none⟩)) (hy : a.eval y = .agg cs) (hcs : cells g = cs) (hr : Row w1 b t old) (hX : ¬ X b)
  (hi : (P.info? ty).map (·.size) = some cs.size) (hold : old.size = cs.size) (h1 : cs.all (·.oneCell') = true) (hik : i ∉ D) (hc : ∀ g g', (∀ x ∈ D, g' x = g x) → cells g' = cells g) :
  sOut P w1 sh (look6 l) X o a s g := by
 subst hcs
 intro w hT hg hu
 rw [run_store_row ho hx hy (Row.tr hr hT hX) hi hold h1]
 exact left_O hl hs hik hc (fun b hb => heap_setRow_ne hb) rfl rfl rfl (by simp) (row_setRow (Row.tr hr hT hX))
end
end Go.Proofs.Ytpdenhmkpiafiaa.K6
