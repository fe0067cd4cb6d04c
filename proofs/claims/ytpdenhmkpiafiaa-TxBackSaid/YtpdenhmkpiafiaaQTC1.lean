/-
  What the statement rests on, part 2: GB GD GE FrameS FrameV EvU RefOf EvNew EvSl.
-/
import Derived.Orders
import Derived.KernelRfl
import Derived.Laws.Tables
import Derived.Deep.MidRow
import Derived.Maps.AppendAt
import Derived.Laws.BytesArg
import Derived.Deep.DeepCutAuto
import Derived.Test.YtpdenhmkpiafiaaRows
import Derived.ProofKit
import Derived.Lib.SmallJoins
import Derived.Laws.IdiomArrays
import Derived.OpenShut
import Derived.ChangeSlices
import Derived.Deep.Strs
import Derived.Test.YtpdenhmkpiafiaaQTC0

namespace Go.Proofs.Ytpdenhmkpiafiaa
open Go Go.RowKit
section
variable {P : Program} {ops : Array Oper} {md : Region.Mode} {Keep : World → Prop}
end
end Go.Proofs.Ytpdenhmkpiafiaa
namespace Go.Proofs.Ytpdenhmkpiafiaa.K6
open Go Go.RowKit
structure GV where
  v : Value
  lo : Nat
  hi : Nat
abbrev Ghost := Nat → GV
def gput (g : Ghost) (i : Nat) (x : GV) : Ghost := fun k => if k = i then x else g k
theorem gput_comm (g : Ghost) {i j : Nat} (u v : GV) (h : i ≠ j) : gput (gput g i v) j u = gput (gput g j u) i v := by
  funext k
  unfold gput
  by_cases h1 : k = i
  · subst h1; simp [h]
  · simp [h1]
theorem gput_ne {g : Ghost} {i x : Nat} {v : GV} (h : x ≠ i) : gput g i v x = g x := by unfold gput; rw [if_neg h]
structure Tr (X : Nat → Prop) (w w' : World) : Prop where
  os : w'.os = w.os
  tape : w'.tape = w.tape
  output : w'.output = w.output
  size : w.heap.size ≤ w'.heap.size
  block : ∀ b, b < w.heap.size → ¬ X b → w'.heap[b]? = w.heap[b]?
theorem Tr.refl (X : Nat → Prop) (w : World) : Tr X w w := ⟨rfl, rfl, rfl, Nat.le_refl _, fun _ _ _ => rfl⟩
theorem Tr.mono {X Y : Nat → Prop} {w w' : World} (h : Tr X w w') (hxy : ∀ b, b < w.heap.size → X b → Y b) : Tr Y w w' :=
  ⟨h.os, h.tape, h.output, h.size, fun b hb hy => h.block b hb fun hx => hy (hxy b hb hx)⟩
theorem Tr.trans {X : Nat → Prop} {a b c : World} (h : Tr X a b) (k : Tr X b c) : Tr X a c :=
  ⟨k.os.trans h.os, k.tape.trans h.tape, k.output.trans h.output, Nat.le_trans h.size k.size, fun i hi hx => (k.block i (Nat.lt_of_lt_of_le hi h.size) hx).trans (h.block i hi hx)⟩
abbrev None_ : Nat → Prop := fun _ => False
theorem Tr.below {w w' : World} (h : Tr None_ w w') : Below w.heap.size w w' := ⟨h.os, h.tape, h.output, h.size, fun b hb => h.block b hb id⟩
theorem Tr.undrew {X : Nat → Prop} {w w' : World} (h : Tr X w.drew w') : Tr X w w' := ⟨h.os, h.tape, h.output, h.size, h.block⟩
theorem Tr.below_of {X : Nat → Prop} {B : Nat} {w w' : World} (h : Tr X w w') (hB : B ≤ w.heap.size) (hx : ∀ c, X c → B ≤ c) : Below B w w' := ⟨h.os, h.tape, h.output, h.size, fun b hb => h.block b (Nat.lt_of_lt_of_le hb hB) fun hc => Nat.lt_irrefl _ (Nat.lt_of_lt_of_le hb (hx b hc))⟩
theorem Tr.of {X : Nat → Prop} {w w' : World} (h : Below w.heap.size w w') : Tr X w w' := ⟨h.os, h.tape, h.output, h.size, fun b hb _ => h.block b hb⟩
structure Sh where
  i : Nat
  D : List Nat
  use : List Nat
  kill : List Nat
  Xi : List Nat
  Li : List Nat
  any : Bool
  x : Bool
  l : Bool
structure Mean where
  V : Ghost → GV → Prop
  F : Ghost → World → Prop
  Xo : Nat → Prop
  Lo : Nat → Prop
def spOf (sh : List Sh) (i : Nat) : Option Sh := sh.find? (fun s => s.i == i)
theorem spOf_spec {sh : List Sh} {i : Nat} {s : Sh} (h : spOf sh i = some s) : s ∈ sh ∧ s.i = i :=
  ⟨List.mem_of_find?_eq_some h, by simpa using List.find?_some h⟩
def edgeB (md : Region.Mode) (ops : Array Oper) (m k : Nat) : Bool := ((ops[m]?).map fun o => o.after.any fun e => Region.binds md e && e.on == k).getD false
def preGo (md : Region.Mode) (ops : Array Oper) : Nat → List Nat → List Nat
  | 0, acc => acc
  | k + 1, acc => preGo md ops k (if acc.any (fun m => edgeB md ops m k) then k :: acc else acc)
def pre (md : Region.Mode) (ops : Array Oper) (i : Nat) : List Nat := preGo md ops i [i]
theorem preGo_spec {md : Region.Mode} {ops : Array Oper} {L : Nat → Prop} (hL : ∀ m k, L m → edgeB md ops m k = true → L k) : ∀ (n : Nat) (acc : List Nat), (∀ m ∈ acc, L m) → ∀ x ∈ preGo md ops n acc, L x
  | 0, _, h => h
  | k + 1, acc, h => by
    refine preGo_spec hL k _ ?_
    split
    · rename_i ha
      obtain ⟨m, hm, he⟩ := List.any_eq_true.1 ha
      intro x hx
      rcases List.mem_cons.1 hx with rfl | hx
      · exact hL m _ (h m hm) he
      · exact h x hx
    · exact h
def fullB (md : Region.Mode) (ops : Array Oper) (sh : List Sh) (i : Nat) : Bool := sh.all fun s => !s.x || (pre md ops s.i).contains i
def C1 (md : Region.Mode) (ops : Array Oper) (sh : List Sh) : Prop := ∀ s ∈ sh, ∀ k ∈ s.D, k ≠ s.i ∧ k ∈ pre md ops s.i
def C2 (sh : List Sh) : Prop := ∀ s ∈ sh, ∀ t ∈ sh, t.i ∈ s.D → ∀ x ∈ t.D, x ∈ s.D
def C3 (md : Region.Mode) (ops : Array Oper) (sh : List Sh) : Prop := ∀ s ∈ sh, ∀ k ∈ s.use, k ∈ s.D ∧ (spOf sh k).isSome = true ∧ ∀ t ∈ sh, t.i = k → ∀ j ∈ t.kill, j = s.i ∨ s.i ∈ pre md ops j
def C4 (sh : List Sh) : Prop := ∀ s ∈ sh, ∀ k ∈ s.Xi, k ∈ s.D ∧ (spOf sh k).isSome = true
def C5 (sh : List Sh) : Prop := ∀ s ∈ sh, ∀ k ∈ s.Li, (k = s.i ∨ k ∈ s.D) ∧ (spOf sh k).isSome = true
def C6 (sh : List Sh) : Prop := ∀ s ∈ sh, ∀ t ∈ sh, s.i ≠ t.i → t.i ∈ s.kill ∨ ∀ k ∈ s.Li, k ∉ t.Xi
instance (md : Region.Mode) (ops : Array Oper) (sh : List Sh) : Decidable (C1 md ops sh) := by unfold C1; infer_instance
instance (sh : List Sh) : Decidable (C2 sh) := by unfold C2; infer_instance
instance (md : Region.Mode) (ops : Array Oper) (sh : List Sh) : Decidable (C3 md ops sh) := by unfold C3; infer_instance
instance (sh : List Sh) : Decidable (C4 sh) := by unfold C4; infer_instance
instance (sh : List Sh) : Decidable (C5 sh) := by unfold C5; infer_instance
instance (sh : List Sh) : Decidable (C6 sh) := by unfold C6; infer_instance
def Cl (md : Region.Mode) (ops : Array Oper) (sh : List Sh) : Prop := C1 md ops sh ∧ C2 sh ∧ C3 md ops sh ∧ C4 sh ∧ C5 sh ∧ C6 sh
instance (md : Region.Mode) (ops : Array Oper) (sh : List Sh) : Decidable (Cl md ops sh) := by unfold Cl; infer_instance
section
variable (P : Program) (ops : Array Oper) (md : Region.Mode) (sh : List Sh) (M : Nat → Mean) (Z : Nat → Prop) (w1 : World)
def XX (s : Sh) (g : Ghost) (b : Nat) : Prop := (M s.i).Xo b ∨ ∃ k ∈ s.Xi, (g k).lo ≤ b ∧ b < (g k).hi
def LL (s : Sh) (g : Ghost) (b : Nat) : Prop := s.any = true ∨ (M s.i).Lo b ∨ ∃ k ∈ s.Li, (g k).lo ≤ b ∧ b < (g k).hi
def GOk (D : Nat → Prop) (g : Ghost) (n : Nat) : Prop :=
  (∀ k, D k → (spOf sh k).isSome = true → w1.heap.size ≤ (g k).lo ∧ (g k).lo ≤ (g k).hi ∧ (g k).hi ≤ n) ∧
  (∀ j k, D j → D k → (spOf sh j).isSome = true → (spOf sh k).isSome = true → j ≠ k → (g j).hi ≤ (g k).lo ∨ (g k).hi ≤ (g j).lo)
def sUpon (V : Value → World → Prop) : Result Next → Prop
  | .ok (.value u) w' => V u w'
  | .ok .skip w' => V undef w'
  | .ok (.enter f args) w' => Calls P f args w' (fun e w'' => ∃ v, e = .returned v ∧ V v w'')
  | _ => False
def XU (i : Nat) (b : Nat) : Prop := ∃ s ∈ sh, s.x = true ∧ i ∉ pre md ops s.i ∧ (M s.i).Xo b
def Kn (i : Nat) (w : World) : Prop := Tr (XU ops md sh M i) w1 w ∧ Tr Z w1 w
def YK (o : Oper) (i : Nat) (a : Act) (v : Value) : Prop :=
  (Region.wanted o (yielded ops a.tmps) = true ∧ ∀ w, Kn ops md sh M Z w1 i w → (execOp a.eval o).run P w = .ok (.value v) w) ∨ (Region.wanted o (yielded ops a.tmps) = false ∧ v = undef)
def Left (s : Sh) (g : Ghost) (w : World) (v : Value) (w' : World) : Prop :=
  (M s.i).V g ⟨v, w.heap.size, w'.heap.size⟩ ∧ Tr (XX M s g) w w' ∧ (M s.i).F (gput g s.i ⟨v, w.heap.size, w'.heap.size⟩) w'
def outS (o : Oper) (s : Sh) (g : Ghost) (a : Act) : Prop :=
  Region.wanted o (yielded ops a.tmps) = true ∧ ∀ w, Kn ops md sh M Z w1 s.i w → GOk sh w1 (· ∈ s.D) g w.heap.size → (∀ k ∈ s.use, (M k).F g w) → sUpon P (Left M s g w) ((execOp a.eval o).run P w)
def sOp (i : Nat) (K : Ghost → Act → Prop) (g : Ghost) (a : Act) : Prop :=
  match ops[i]? with
  | none => False
  | some o =>
    match spOf sh i with
    | some s => outS P ops md sh M Z w1 o s g a ∧ ∀ x : GV, w1.heap.size ≤ x.lo → x.lo ≤ x.hi → (M i).V g x → K (gput g i x) (a.put o.dst x.v)
    | none => ∃ v, YK P ops md sh M Z w1 o i a v ∧ K (gput g i ⟨v, 0, 0⟩) (a.put o.dst v)
def wpS (Q : Ghost → Act → Prop) : Nat → List Oper → Ghost → Act → Prop
  | _, [], g, a => Q g a
  | k, o :: rest, g, a =>
    match spOf sh k with
    | some s => outS P ops md sh M Z w1 o s g a ∧ ∀ x : GV, w1.heap.size ≤ x.lo → x.lo ≤ x.hi → (M k).V g x → wpS Q (k + 1) rest (gput g k x) (a.put o.dst x.v)
    | none => ∃ v, YK P ops md sh M Z w1 o k a v ∧ wpS Q (k + 1) rest (gput g k ⟨v, 0, 0⟩) (a.put o.dst v)
def wpAnyS (Q : Ghost → Act → Prop) : Nat → Array Bool → Ghost → Act → Prop
  | 0, listed, g, a => Region.ready md ops listed = [] ∧ (∀ j, j < ops.size → listed.getD j true = true) ∧ Q g a
  | fuel + 1, listed, g, a => Region.ready md ops listed ≠ [] ∧ ∀ i ∈ Region.ready md ops listed, sOp P ops md sh M Z w1 i (fun g a => wpAnyS Q fuel (listed.setIfInBounds i true) g a) g a
structure St : Prop where
  some_ : ∀ s ∈ sh, ∀ g, ∃ x : GV, w1.heap.size ≤ x.lo ∧ x.lo ≤ x.hi ∧ (M s.i).V g x
  depV : ∀ s ∈ sh, ∀ g g', (∀ x ∈ s.D, g' x = g x) → ∀ x, (M s.i).V g x → (M s.i).V g' x
  depF : ∀ s ∈ sh, ∀ g g', (∀ x, x = s.i ∨ x ∈ s.D → g' x = g x) → ∀ w, (M s.i).F g w → (M s.i).F g' w
  loc : ∀ s ∈ sh, ∀ g w w', (M s.i).F g w → Tr (fun b => ¬ LL M s g b) w w' → (M s.i).F g w'
  xo : ∀ s ∈ sh, ∀ b, (M s.i).Xo b → s.x = true ∧ Z b ∧ b < w1.heap.size
  lo : ∀ s ∈ sh, ∀ b, (M s.i).Lo b → b < w1.heap.size
  sep : ∀ s ∈ sh, ∀ t ∈ sh, s.i ≠ t.i → t.i ∈ s.kill ∨ ((∀ b, (M s.i).Lo b → ¬ (M t.i).Xo b) ∧ (s.any = true → (∀ b, ¬ (M t.i).Xo b) ∧ t.Xi = []))
end
section
variable {P : Program} {ops : Array Oper} {md : Region.Mode} {sh : List Sh} {M : Nat → Mean} {Z : Nat → Prop} {w1 : World}
structure Inv (ops : Array Oper) (md : Region.Mode) (sh : List Sh) (M : Nat → Mean) (w1 : World) (listed : Array Bool) (g : Ghost) (w : World) : Prop where
  tr : Tr (fun b => ∃ s ∈ sh, listed.getD s.i false = true ∧ (M s.i).Xo b) w1 w
  shut : ∀ k, listed.getD k false = true → ∀ m, edgeB md ops k m = true → listed.getD m false = true
  ok : GOk sh w1 (fun k => listed.getD k false = true) g w.heap.size
  fact : ∀ s ∈ sh, listed.getD s.i false = true → (∀ j ∈ s.kill, listed.getD j false = false) → (M s.i).F g w
theorem edgeB_of {k m : Nat} {o : Oper} (ho : ops[k]? = some o) (h : edgeB md ops k m = true) : ∃ e ∈ o.after, Region.binds md e = true ∧ e.on = m := by
  unfold edgeB at h
  rw [ho] at h
  simp only [Option.map_some, Option.getD_some] at h
  obtain ⟨e, he, hb⟩ := Array.any_eq_true'.1 h
  simp only [Bool.and_eq_true, beq_iff_eq] at hb
  exact ⟨e, he, hb.1, hb.2⟩
theorem ready_pre {listed : Array Bool} {i : Nat} (hsh : ∀ k, listed.getD k false = true → ∀ m, edgeB md ops k m = true → listed.getD m false = true) {o : Oper} (ho : ops[i]? = some o)
    (hall : ∀ e ∈ o.after, Region.binds md e = true → listed.getD e.on false = true) {x : Nat} (hx : x ∈ pre md ops i) : listed.getD x false = true ∨ x = i := by
  refine preGo_spec (L := fun x => listed.getD x false = true ∨ x = i) (fun m k hm he => ?_) i [i] (fun m hm => .inr (by simpa using hm)) x hx
  rcases hm with hm | rfl
  · exact .inl (hsh m hm k he)
  · obtain ⟨e, he', hb, rfl⟩ := edgeB_of ho he
    exact .inl (hall e he' hb)
theorem listed_pre {listed : Array Bool} {i : Nat} (hsh : ∀ k, listed.getD k false = true → ∀ m, edgeB md ops k m = true → listed.getD m false = true)
    (hi : listed.getD i false = true) {x : Nat} (hx : x ∈ pre md ops i) : listed.getD x false = true :=
  preGo_spec (L := fun x => listed.getD x false = true) (fun m k hm he => hsh m hm k he) i [i] (fun m hm => by simp at hm; subst hm; exact hi) x hx
theorem Inv.kn (S : St sh M Z w1) {listed : Array Bool} {g : Ghost} {w : World} (I : Inv ops md sh M w1 listed g w) {i : Nat} (hun : listed.getD i false = false) : Kn ops md sh M Z w1 i w := by
  refine ⟨I.tr.mono fun b _ ⟨s, hs, hl, hx⟩ => ⟨s, hs, (S.xo s hs b hx).1, fun hi => ?_, hx⟩, I.tr.mono fun b _ ⟨s, hs, _, hx⟩ => (S.xo s hs b hx).2.1⟩
  rw [listed_pre I.shut hl hi] at hun
  cases hun
theorem getD_of_true {listed : Array Bool} {i : Nat} (h : listed.getD i true = false) : listed.getD i false = false := by
  rcases Nat.lt_or_ge i listed.size with h' | h'
  · simp [h'] at h ⊢; exact h
  · simp [Array.getElem?_eq_none h']
theorem getD_set_other {listed : Array Bool} {i k : Nat} (h : k ≠ i) : (listed.setIfInBounds i true).getD k false = listed.getD k false := by
  simp [Array.getElem?_setIfInBounds_ne (Ne.symm h)]
theorem shut_set {listed : Array Bool} {i : Nat} {o : Oper} (ho : ops[i]? = some o) (hsh : ∀ k, listed.getD k false = true → ∀ m, edgeB md ops k m = true → listed.getD m false = true)
    (hall : ∀ e ∈ o.after, Region.binds md e = true → listed.getD e.on false = true) :
    ∀ k, (listed.setIfInBounds i true).getD k false = true → ∀ m, edgeB md ops k m = true → (listed.setIfInBounds i true).getD m false = true := by
  intro k hk m he
  by_cases hki : k = i
  · subst hki
    obtain ⟨e, he', hb, rfl⟩ := edgeB_of ho he
    exact getD_set_true (hall e he' hb)
  · rw [getD_set_other hki] at hk
    exact getD_set_true (hsh k hk m he)
theorem Inv.quiet {listed : Array Bool} {g : Ghost} {w : World} (S : St sh M Z w1) (hC : Cl md ops sh) (I : Inv ops md sh M w1 listed g w) {i : Nat} {o : Oper} (ho : ops[i]? = some o) (hun : listed.getD i false = false)
    (hall : ∀ e ∈ o.after, Region.binds md e = true → listed.getD e.on false = true) (hi : spOf sh i = none) (x : GV) : Inv ops md sh M w1 (listed.setIfInBounds i true) (gput g i x) w := by
  have hne : ∀ k, (spOf sh k).isSome = true → k ≠ i := fun k hk e => by subst e; rw [hi] at hk; cases hk
  have hsi : ∀ s ∈ sh, s.i ≠ i := fun s hs e => by
    have : spOf sh i ≠ none := by
      unfold spOf
      intro h
      have := List.find?_eq_none.1 h s hs
      simp [e] at this
    exact this hi
  refine ⟨I.tr.mono fun b _ ⟨s, hs, hl, hx⟩ => ⟨s, hs, getD_set_true hl, hx⟩, shut_set ho I.shut hall, ⟨fun k hk hs => ?_, fun j k hj hk hsj hsk hjk => ?_⟩, fun s hs hl hk => ?_⟩
  · rw [gput_ne (hne k hs)]
    exact I.ok.1 k ((getD_set_other (hne k hs)).symm.trans hk) hs
  · rw [gput_ne (hne k hsk), gput_ne (hne j hsj)]
    exact I.ok.2 j k ((getD_set_other (hne j hsj)).symm.trans hj) ((getD_set_other (hne k hsk)).symm.trans hk) hsj hsk hjk
  · rw [getD_set_other (hsi s hs)] at hl
    refine S.depF s hs g _ (fun x hx => gput_ne ?_) w (I.fact s hs hl fun j hj => ?_)
    · rcases hx with rfl | hx
      · exact hsi s hs
      · rintro rfl
        have := listed_pre I.shut hl (hC.1 s hs x hx).2
        rw [hun] at this
        cases this
    · have := hk j hj
      by_cases hji : j = i
      · subst hji; exact hun
      · rwa [getD_set_other hji] at this
theorem size_of_getD {listed : Array Bool} {i : Nat} (h : listed.getD i true = false) : i < listed.size := by
  rcases Nat.lt_or_ge i listed.size with h' | h'
  · exact h'
  · simp [Array.getElem?_eq_none h'] at h
theorem getD_set_self {listed : Array Bool} {i : Nat} (h : i < listed.size) : (listed.setIfInBounds i true).getD i false = true := by simp [h]
theorem Inv.step {listed : Array Bool} {g : Ghost} {w w' : World} (S : St sh M Z w1) (hC : Cl md ops sh) (I : Inv ops md sh M w1 listed g w) {o : Oper} {s : Sh} {i : Nat} (hs : spOf sh i = some s) (ho : ops[i]? = some o) (hun : listed.getD i true = false)
    (hall : ∀ e ∈ o.after, Region.binds md e = true → listed.getD e.on false = true) (v : Value) (hL : Left M s g w v w') : Inv ops md sh M w1 (listed.setIfInBounds i true) (gput g i ⟨v, w.heap.size, w'.heap.size⟩) w' := by
  obtain ⟨hmem, rfl⟩ := spOf_spec hs
  obtain ⟨hV, hT, hF⟩ := hL
  have hun' := getD_of_true hun
  have hlt := size_of_getD hun
  have hB : w1.heap.size ≤ w.heap.size := I.tr.size
  have hXi : ∀ k ∈ s.Xi, listed.getD k false = true ∧ (spOf sh k).isSome = true := fun k hk => by
    obtain ⟨hd, hso⟩ := hC.2.2.2.1 s hmem k hk
    obtain ⟨hne, hp⟩ := hC.1 s hmem k hd
    exact ⟨(ready_pre I.shut ho hall hp).resolve_right hne, hso⟩
  refine ⟨⟨hT.os.trans I.tr.os, hT.tape.trans I.tr.tape, hT.output.trans I.tr.output, Nat.le_trans hB hT.size, fun b hb hx => ?_⟩, shut_set ho I.shut hall, ⟨fun k hk hsk => ?_, fun j k hj hk hsj hsk hjk => ?_⟩, fun t ht hl hk => ?_⟩
  · rw [hT.block b (Nat.lt_of_lt_of_le hb hB) ?_, I.tr.block b hb fun ⟨t, ht, hl, hxt⟩ => hx ⟨t, ht, getD_set_true hl, hxt⟩]
    rintro (hx' | ⟨k, hk, h1, h2⟩)
    · exact hx ⟨s, hmem, getD_set_self hlt, hx'⟩
    · have := (I.ok.1 k (hXi k hk).1 (hXi k hk).2).1
      omega
  · by_cases hki : k = s.i
    · subst hki; simp only [gput, if_true]; exact ⟨hB, hT.size, Nat.le_refl _⟩
    · rw [gput_ne hki]
      have := I.ok.1 k ((getD_set_other hki).symm.trans hk) hsk
      exact ⟨this.1, this.2.1, Nat.le_trans this.2.2 hT.size⟩
  · by_cases hji : j = s.i
    · by_cases hki : k = s.i
      · exact absurd (hji.trans hki.symm) hjk
      · rw [gput_ne hki, hji]
        have := I.ok.1 k ((getD_set_other hki).symm.trans hk) hsk
        simp only [gput, if_true]
        omega
    · rw [gput_ne hji]
      have hj := (getD_set_other hji).symm.trans hj
      by_cases hki : k = s.i
      · rw [hki]
        have := I.ok.1 j hj hsj
        simp only [gput, if_true]
        omega
      · rw [gput_ne hki]
        exact I.ok.2 j k hj ((getD_set_other hki).symm.trans hk) hsj hsk hjk
  · by_cases hti : t.i = s.i
    · rw [hti]; exact hF
    · rw [getD_set_other hti] at hl
      have hkill : s.i ∉ t.kill := fun hm => by
        have := hk _ hm
        rw [getD_set_self hlt] at this
        cases this
      have hD : ∀ x, x = t.i ∨ x ∈ t.D → x ≠ s.i := fun x hx => by
        rcases hx with rfl | hx
        · exact hti
        · rintro rfl
          have := listed_pre I.shut hl (hC.1 t ht _ hx).2
          rw [hun'] at this
          cases this
      have hF0 := I.fact t ht hl fun j hj => by
        have := hk j hj
        by_cases hji : j = s.i
        · subst hji; exact hun'
        · rwa [getD_set_other hji] at this
      refine S.depF t ht g _ (fun x hx => gput_ne (hD x hx)) w' (S.loc t ht g w w' hF0 (hT.mono fun b hb hX hLb => ?_))
      have hsep := (S.sep t ht s hmem hti).resolve_left hkill
      rcases hX with hx | ⟨k, hkx, h1, h2⟩
      · rcases hLb with hany | hLo | ⟨k, hk, h1, h2⟩
        · exact (hsep.2 hany).1 b hx
        · exact hsep.1 b hLo hx
        · have hlt := (S.xo s hmem b hx).2.2
          obtain ⟨hkD, hks⟩ := hC.2.2.2.2.1 t ht k hk
          have hkl : listed.getD k false = true := by
            rcases hkD with rfl | hkD
            · exact hl
            · exact listed_pre I.shut hl (hC.1 t ht _ hkD).2
          have := (I.ok.1 k hkl hks).1
          omega
      · obtain ⟨hxl, hxs⟩ := hXi k hkx
        rcases hLb with hany | hLo | ⟨m, hm, h3, h4⟩
        · rw [(hsep.2 hany).2] at hkx; cases hkx
        · have hlt := S.lo t ht b hLo
          have := (I.ok.1 k hxl hxs).1
          omega
        · obtain ⟨hmD, hms⟩ := hC.2.2.2.2.1 t ht m hm
          have hml : listed.getD m false = true := by
            rcases hmD with rfl | hmD
            · exact hl
            · exact listed_pre I.shut hl (hC.1 t ht _ hmD).2
          have hne : m ≠ k := fun e => by
            subst e
            exact ((hC.2.2.2.2.2 t ht s hmem hti).resolve_left hkill) m hm hkx
          have := I.ok.2 m k hml hxl hms hxs hne
          omega
theorem wp_of_outS (S : St sh M Z w1) (hC : Cl md ops sh) {listed : Array Bool} {g : Ghost} {w : World} (I : Inv ops md sh M w1 listed g w) {o : Oper} {s : Sh} {i : Nat} (hs : spOf sh i = some s) (ho : ops[i]? = some o) (hun : listed.getD i true = false)
    (hall : ∀ e ∈ o.after, Region.binds md e = true → listed.getD e.on false = true) {a : Act} {K' : Act → World → Prop} {Q' : Exit → Act → World → Prop} (hout : outS P ops md sh M Z w1 o s g a)
    (h : ∀ v w', Left M s g w v w' → K' (a.put o.dst v) w') : o.wp P a w K' Q' := by
  obtain ⟨hmem, rfl⟩ := spOf_spec hs
  have hun' := getD_of_true hun
  have hDl : ∀ k ∈ s.D, listed.getD k false = true := fun k hk => by
    obtain ⟨hne, hp⟩ := hC.1 s hmem k hk
    exact (ready_pre I.shut ho hall hp).resolve_right hne
  have hh := hout.2 w (I.kn S hun') ⟨fun k hk hsk => I.ok.1 k (hDl k hk) hsk, fun j k hj hk hsj hsk hjk => I.ok.2 j k (hDl j hj) (hDl k hk) hsj hsk hjk⟩ fun k hk => by
    obtain ⟨hkD, hks, hku⟩ := hC.2.2.1 s hmem k hk
    obtain ⟨t, ht⟩ := Option.isSome_iff_exists.1 hks
    obtain ⟨htm, rfl⟩ := spOf_spec ht
    refine I.fact t htm (hDl _ hkD) fun j hj => ?_
    rcases hku t htm rfl j hj with rfl | hp
    · exact hun'
    · by_cases hjl : listed.getD j false = true
      · have := listed_pre I.shut hjl hp
        rw [hun'] at this
        cases this
      · simpa using hjl
  unfold Oper.wp
  generalize (execOp a.eval o).run P w = r at *
  cases r with
  | ok n w' =>
    cases n <;> simp only [sUpon] at hh <;> simp only [Oper.upon]
    case enter f args =>
      refine hh.mono fun e w'' hx => ?_
      obtain ⟨v, rfl, hv⟩ := hx
      exact h v w'' hv
    all_goals exact h _ _ hh
  | halt x w' => simp only [sUpon] at hh
theorem wpAny_of_S (S : St sh M Z w1) (hC : Cl md ops sh) {Q : Ghost → Act → Prop} {Q' : Exit → Act → World → Prop}
    (hQ : ∀ g a, Q g a → ∀ w listed, Inv ops md sh M w1 listed g w → (∀ j, j < ops.size → listed.getD j false = true) → Q' .normal a w) : ∀ (fuel : Nat) (listed : Array Bool) (g : Ghost) (a : Act),
    wpAnyS P ops md sh M Z w1 Q fuel listed g a → ∀ w, Inv ops md sh M w1 listed g w → listed.size = ops.size → wpAny P md ops Q' fuel listed a w
  | 0, listed, g, a, h => fun w hI hz => ⟨h.1, hQ _ _ h.2.2 w listed hI fun j hj => (by have := h.2.1 j hj; simpa [hz, hj] using this)⟩
  | fuel + 1, listed, g, a, h => fun w hI hz => by
    refine ⟨fun h0 => absurd h0 h.1, fun i hi => ?_⟩
    have hs := h.2 i hi
    obtain ⟨hun, o', ho', hall⟩ := mem_ready.1 hi
    unfold sOp at hs
    unfold wpOp
    split
    · rename_i ho; simp only [ho] at hs
    · rename_i o ho
      simp only [ho] at hs
      have hoo : o' = o := by rw [ho'] at ho; exact Option.some.inj ho
      subst hoo
      cases hsp : spOf sh i with
      | some s =>
        simp only [hsp] at hs
        rw [if_pos hs.1.1]
        refine .inl (wp_of_outS S hC hI hsp ho' hun hall hs.1 fun v w' hL => ?_)
        have hst := hI.step S hC hsp ho' hun hall v hL
        have hi' := (spOf_spec hsp).2
        exact wpAny_of_S S hC hQ fuel _ _ _ (hs.2 ⟨v, w.heap.size, w'.heap.size⟩ hI.tr.size hL.2.1.size (by rw [← hi']; exact hL.1)) w' hst (by simpa using hz)
      | none =>
        simp only [hsp] at hs
        obtain ⟨v, hy, hK⟩ := hs
        have hq := hI.quiet S hC ho' (getD_of_true hun) hall hsp ⟨v, 0, 0⟩
        rcases hy with ⟨hw, hr⟩ | ⟨hw, rfl⟩
        · rw [if_pos hw]
          refine .inl ?_
          unfold Oper.wp
          rw [hr w (hI.kn S (getD_of_true hun))]
          exact wpAny_of_S S hC hQ fuel _ _ _ hK w hq (by simpa using hz)
        · rw [if_neg (by simp [hw])]
          exact wpAny_of_S S hC hQ fuel _ _ _ hK w hq (by simpa using hz)
def Yields (P : Program) (ops : Array Oper) (md : Region.Mode) (sh : List Sh) (M : Nat → Mean) (Z : Nat → Prop) (w1 : World) (o : Oper) (i : Nat) (g : Ghost) (a : Act) (x : GV) : Prop :=
  match spOf sh i with
  | some s => outS P ops md sh M Z w1 o s g a ∧ w1.heap.size ≤ x.lo ∧ x.lo ≤ x.hi ∧ (M i).V g x
  | none => YK P ops md sh M Z w1 o i a x.v ∧ x.lo = 0 ∧ x.hi = 0
theorem GOk.congr {D : Nat → Prop} {g g' : Ghost} {n : Nat} (h : ∀ k, D k → g' k = g k) (hg : GOk sh w1 D g n) : GOk sh w1 D g' n :=
  ⟨fun k hk hs => by rw [h k hk]; exact hg.1 k hk hs, fun j k hj hk hsj hsk hjk => by rw [h k hk, h j hj]; exact hg.2 j k hj hk hsj hsk hjk⟩
theorem XX_congr {s : Sh} {g g' : Ghost} (h : ∀ k ∈ s.Xi, g' k = g k) : XX M s g' = XX M s g := by
  funext b
  unfold XX
  apply propext
  exact or_congr Iff.rfl ⟨fun ⟨k, hk, h1⟩ => ⟨k, hk, by rw [← h k hk]; exact h1⟩, fun ⟨k, hk, h1⟩ => ⟨k, hk, by rw [h k hk]; exact h1⟩⟩
theorem V_gput (S : St sh M Z w1) {s : Sh} (hs : s ∈ sh) {g : Ghost} {i : Nat} (x : GV) (h : i ∉ s.D) (y : GV) : (M s.i).V (gput g i x) y ↔ (M s.i).V g y :=
  ⟨S.depV s hs _ _ (fun k hk => (gput_ne (fun e : k = i => h (by rw [← e]; exact hk))).symm) y, S.depV s hs _ _ (fun k hk => gput_ne (fun e : k = i => h (by rw [← e]; exact hk))) y⟩
theorem outS_gput (S : St sh M Z w1) (hC : Cl md ops sh) {s : Sh} (hs : s ∈ sh) {o : Oper} {a : Act} {g : Ghost} {i : Nat} (x : GV) (h : i ∉ s.D) :
    outS P ops md sh M Z w1 o s (gput g i x) a ↔ outS P ops md sh M Z w1 o s g a := by
  have hn : ∀ k ∈ s.D, gput g i x k = g k := fun k hk => gput_ne (fun e : k = i => h (by rw [← e]; exact hk))
  have hX : XX M s (gput g i x) = XX M s g := XX_congr fun k hk => hn k (hC.2.2.2.1 s hs k hk).1
  have hF : ∀ y w, (M s.i).F (gput (gput g i x) s.i y) w ↔ (M s.i).F (gput g s.i y) w := fun y w => by
    have hx : ∀ k, k = s.i ∨ k ∈ s.D → gput (gput g i x) s.i y k = gput g s.i y k := fun k hk => by
      by_cases hks : k = s.i
      · subst hks; simp [gput]
      · rw [gput_ne hks, gput_ne hks]
        exact hn k (hk.resolve_left hks)
    exact ⟨S.depF s hs _ _ (fun k hk => (hx k hk).symm) w, S.depF s hs _ _ hx w⟩
  have hL : ∀ w, Left M s (gput g i x) w = Left M s g w := fun w => by
    funext v w'
    unfold Left
    rw [hX]
    apply propext
    exact and_congr (V_gput S hs x h _) (and_congr Iff.rfl (hF _ _))
  have hU : ∀ k ∈ s.use, ∀ w, (M k).F (gput g i x) w ↔ (M k).F g w := fun k hk w => by
    obtain ⟨hkD, hks, _⟩ := hC.2.2.1 s hs k hk
    obtain ⟨t, ht⟩ := Option.isSome_iff_exists.1 hks
    obtain ⟨htm, rfl⟩ := spOf_spec ht
    have hx : ∀ m, m = t.i ∨ m ∈ t.D → gput g i x m = g m := fun m hm => by
      rcases hm with rfl | hm
      · exact hn _ hkD
      · exact hn _ (hC.2.1 s hs t htm hkD m hm)
    exact ⟨S.depF t htm _ _ (fun m hm => (hx m hm).symm) w, S.depF t htm _ _ hx w⟩
  unfold outS
  refine and_congr Iff.rfl (forall_congr' fun w => forall_congr' fun _ => ?_)
  rw [hL w]
  constructor
  · intro hh hg hf
    exact hh (GOk.congr (fun k hk => hn k hk) hg) fun k hk => (hU k hk w).2 (hf k hk)
  · intro hh hg hf
    exact hh (GOk.congr (fun k hk => (hn k hk).symm) hg) fun k hk => (hU k hk w).1 (hf k hk)
theorem YK_put {o : Oper} {a : Act} {i : Nat} {v : Value} (hsel : ∀ cs b, o.op ≠ .select cs b) {dst : Option Tmp} {u : Value} (h : ∀ d, dst = some d → d ∉ o.looksAt ops) : YK P ops md sh M Z w1 o i (a.put dst u) v ↔ YK P ops md sh M Z w1 o i a v := by
  unfold YK
  rw [wanted_put o a dst u h, execOp_put o hsel a dst u h]
theorem outS_put {o : Oper} {a : Act} {s : Sh} {g : Ghost} (hsel : ∀ cs b, o.op ≠ .select cs b) {dst : Option Tmp} {u : Value} (h : ∀ d, dst = some d → d ∉ o.looksAt ops) : outS P ops md sh M Z w1 o s g (a.put dst u) ↔ outS P ops md sh M Z w1 o s g a := by
  unfold outS
  rw [wanted_put o a dst u h, execOp_put o hsel a dst u h]
theorem YK_one {o : Oper} {i : Nat} {a : Act} {u v : Value} (hu : YK P ops md sh M Z w1 o i a u) (hv : YK P ops md sh M Z w1 o i a v) : u = v := by
  have hk : Kn ops md sh M Z w1 i w1 := ⟨Tr.refl _ _, Tr.refl _ _⟩
  rcases hu with ⟨h1, h2⟩ | ⟨h1, rfl⟩ <;> rcases hv with ⟨h3, h4⟩ | ⟨h3, rfl⟩
  · have := (h2 w1 hk).symm.trans (h4 w1 hk)
    simpa using this
  · rw [h1] at h3; cases h3
  · rw [h1] at h3; cases h3
  · rfl
theorem Yields_keep (S : St sh M Z w1) (hC : Cl md ops sh) {i j : Nat} {oi oj : Oper} (hDi : ∀ s ∈ sh, s.i = i → j ∉ s.D) (hsi : ∀ cs b, oi.op ≠ .select cs b) (h3 : ∀ d, oj.dst = some d → d ∉ oi.looksAt ops)
    {g : Ghost} {a : Act} {x : GV} (y : GV) (hy : Yields P ops md sh M Z w1 oi i g a x) : Yields P ops md sh M Z w1 oi i (gput g j y) (a.put oj.dst y.v) x := by
  unfold Yields at *
  split
  · rename_i s hs
    simp only [hs] at hy
    obtain ⟨hm, rfl⟩ := spOf_spec hs
    exact ⟨(outS_put hsi h3).2 ((outS_gput S hC hm y (hDi s hm rfl)).2 hy.1), hy.2.1, hy.2.2.1, (V_gput S hm y (hDi s hm rfl) x).2 hy.2.2.2⟩
  · rename_i hs
    simp only [hs] at hy
    exact ⟨(YK_put hsi h3).2 hy.1, hy.2⟩
def AllY (P : Program) (ops : Array Oper) (md : Region.Mode) (sh : List Sh) (M : Nat → Mean) (Z : Nat → Prop) (w1 : World) (o : Oper) (i : Nat) (g : Ghost) (a : Act) (K : GV → Prop) : Prop :=
  (∃ x, Yields P ops md sh M Z w1 o i g a x) ∧ ∀ x, Yields P ops md sh M Z w1 o i g a x → K x
theorem sOp_iff (S : St sh M Z w1) {i : Nat} {o : Oper} (ho : ops[i]? = some o) {K : Ghost → Act → Prop} {g : Ghost} {a : Act} :
    sOp P ops md sh M Z w1 i K g a ↔ AllY P ops md sh M Z w1 o i g a fun x => K (gput g i x) (a.put o.dst x.v) := by
  unfold sOp AllY Yields
  simp only [ho]
  cases hs : spOf sh i with
  | some s =>
    obtain ⟨hm, rfl⟩ := spOf_spec hs
    simp only []
    constructor
    · intro ⟨h1, h2⟩
      obtain ⟨x, h3, h4, h5⟩ := S.some_ s hm g
      exact ⟨⟨x, h1, h3, h4, h5⟩, fun x ⟨_, h6, h7, h8⟩ => h2 x h6 h7 h8⟩
    · intro ⟨⟨x, h1, h3⟩, h2⟩
      exact ⟨h1, fun y h6 h7 h8 => h2 y ⟨h1, h6, h7, h8⟩⟩
  | none =>
    simp only []
    constructor
    · intro ⟨v, h1, h2⟩
      refine ⟨⟨⟨v, 0, 0⟩, h1, rfl, rfl⟩, fun ⟨u, lo, hi⟩ ⟨h3, h4, h5⟩ => ?_⟩
      dsimp only at h3 h4 h5
      subst h4; subst h5
      rw [YK_one h3 h1]
      exact h2
    · intro ⟨⟨⟨v, lo, hi⟩, h1, h4, h5⟩, h2⟩
      dsimp only at h1 h4 h5
      subst h4; subst h5
      exact ⟨v, h1, h2 ⟨v, 0, 0⟩ ⟨h1, rfl, rfl⟩⟩
theorem wpAnyS_first (S : St sh M Z w1) (hC : Cl md ops sh) {Q : Ghost → Act → Prop} {i : Nat} {oi : Oper} (hi : ops[i]? = some oi) (hsel : ∀ (j : Nat) (o : Oper) cs b, ops[j]? = some o → o.op ≠ .select cs b) :
    ∀ (fuel : Nat) (listed : Array Bool) (g : Ghost) (a : Act), (∀ k, listed.getD k false = true → ∀ m, edgeB md ops k m = true → listed.getD m false = true) →
      (∀ j oj, ops[j]? = some oj → j ≠ i → listed.getD j true = false → (∀ e ∈ oj.after, Region.binds md e = true → e.on ≠ i) → oi.apart ops oj = true) →
      i ∈ Region.ready md ops listed → AllY P ops md sh M Z w1 oi i g a (fun x => wpAnyS P ops md sh M Z w1 Q fuel (listed.setIfInBounds i true) (gput g i x) (a.put oi.dst x.v)) → wpAnyS P ops md sh M Z w1 Q (fuel + 1) listed g a := by
  have hnotOf : ∀ (listed : Array Bool) (i j : Nat) (oj : Oper), listed.getD i true = false → (∀ e ∈ oj.after, Region.binds md e = true → listed.getD e.on false = true) → ∀ e ∈ oj.after, Region.binds md e = true → e.on ≠ i := by
    intro listed i j oj h0 hall e he hb heq
    have h1 := hall e he hb
    rw [heq] at h1
    rcases Nat.lt_or_ge i listed.size with h' | h'
    · simp [h'] at h0 h1; rw [h0] at h1; cases h1
    · simp [Array.getElem?_eq_none h'] at h1
  intro fuel
  induction fuel with
  | zero =>
    intro listed g a hsh _ hr H
    refine ⟨fun h => (by rw [h] at hr; cases hr), fun j hj => ?_⟩
    by_cases hji : j = i
    · subst hji
      exact (sOp_iff S hi).2 H
    · exfalso
      obtain ⟨x0, hx0⟩ := H.1
      have := ready_mono hj hji
      rw [(H.2 x0 hx0).1] at this
      cases this
  | succ fuel ih =>
    intro listed g a hsh hfree hr H
    refine ⟨fun h => (by rw [h] at hr; cases hr), fun j hj => ?_⟩
    by_cases hji : j = i
    · subst hji
      exact (sOp_iff S hi).2 H
    · obtain ⟨x0, hx0⟩ := H.1
      have h1 := fun x hx => (H.2 x hx).2 j (ready_mono hj hji)
      obtain ⟨hjun, oj, hoj, hall⟩ := mem_ready.1 hj
      obtain ⟨hiun, oi', hoi', halli⟩ := mem_ready.1 hr
      have hoo : oi' = oi := by rw [hoi'] at hi; exact Option.some.inj hi
      subst hoo
      have hnot := hnotOf listed i j oj hiun hall
      have hnot' := hnotOf listed j i oi' hjun halli
      have hap := hfree j oj hoj hji hjun hnot
      obtain ⟨hp1, hp2, hp3⟩ := Oper.apart_spec hap
      have hDj : ∀ s ∈ sh, s.i = j → i ∉ s.D := fun s hs e hm => by
        obtain ⟨hne, hp⟩ := hC.1 s hs i hm
        rw [e] at hp
        rcases ready_pre hsh hoj hall hp with h' | h'
        · rw [getD_of_true hiun] at h'; cases h'
        · exact hji h'.symm
      have hDi : ∀ s ∈ sh, s.i = i → j ∉ s.D := fun s hs e hm => by
        obtain ⟨hne, hp⟩ := hC.1 s hs j hm
        rw [e] at hp
        rcases ready_pre hsh hoi' halli hp with h' | h'
        · rw [getD_of_true hjun] at h'; cases h'
        · exact hji h'
      have hselj := fun cs b => hsel j oj cs b hoj
      have hseli := fun cs b => hsel i oi' cs b hoi'
      have back : ∀ x y, Yields P ops md sh M Z w1 oj j g a y → Yields P ops md sh M Z w1 oj j (gput g i x) (a.put oi'.dst x.v) y := fun x y hy =>
        Yields_keep S hC hDj hselj hp1 x hy
      have forth : ∀ x y, Yields P ops md sh M Z w1 oj j (gput g i x) (a.put oi'.dst x.v) y → Yields P ops md sh M Z w1 oj j g a y := fun x y hy => by
        unfold Yields at *
        split
        · rename_i s hs
          simp only [hs] at hy
          obtain ⟨hm, e⟩ := spOf_spec hs
          subst e
          exact ⟨(outS_gput S hC hm x (hDj s hm rfl)).1 ((outS_put hselj hp1).1 hy.1), hy.2.1, hy.2.2.1, (V_gput S hm x (hDj s hm rfl) y).1 hy.2.2.2⟩
        · rename_i hs
          simp only [hs] at hy
          exact ⟨(YK_put hselj hp1).1 hy.1, hy.2⟩
      refine (sOp_iff S hoj).2 ⟨?_, fun y hy => ?_⟩
      · obtain ⟨⟨y, hy⟩, _⟩ := (sOp_iff S hoj).1 (h1 x0 hx0)
        exact ⟨y, forth x0 y hy⟩
      · have hfree' : ∀ k ok, ops[k]? = some ok → k ≠ i → (listed.setIfInBounds j true).getD k true = false →
            (∀ e ∈ ok.after, Region.binds md e = true → e.on ≠ i) → oi'.apart ops ok = true := fun k ok hk hki hun hno => by
          refine hfree k ok hk hki ?_ hno
          by_cases hjk : j = k
          · subst hjk; exact hjun
          · rw [getD_set_ne true hjk] at hun; exact hun
        refine ih (listed.setIfInBounds j true) _ _ (shut_set hoj hsh hall) hfree' (ready_mono hr (Ne.symm hji)) ⟨?_, fun x hx => ?_⟩
        · exact ⟨x0, Yields_keep S hC hDi hseli hp3 y hx0⟩
        · have hx' : Yields P ops md sh M Z w1 oi' i g a x := by
            unfold Yields at *
            split
            · rename_i s hs
              simp only [hs] at hx
              obtain ⟨hm, e⟩ := spOf_spec hs
              subst e
              exact ⟨(outS_gput S hC hm y (hDi s hm rfl)).1 ((outS_put hseli hp3).1 hx.1), hx.2.1, hx.2.2.1, (V_gput S hm y (hDi s hm rfl) x).1 hx.2.2.2⟩
            · rename_i hs
              simp only [hs] at hx
              exact ⟨(YK_put hseli hp3).1 hx.1, hx.2⟩
          have := ((sOp_iff S hoj).1 (h1 x hx')).2 y (back x y hy)
          show wpAnyS P ops md sh M Z w1 Q fuel _ _ _
          rw [Array.setIfInBounds_comm _ _ hji, ← gput_comm g y x (Ne.symm hji), ← Act.put_comm a x.v y.v hp2]
          exact this
def lexFrom6 (md : Region.Mode) (ops : Array Oper) : Nat → Nat → Array Bool → Bool
  | 0, _, listed => (Region.ready md ops listed).isEmpty && (List.range ops.size).all fun j => listed.getD j true
  | fuel + 1, k, listed => (Region.ready md ops listed).contains k && Region.free md ops listed k && lexFrom6 md ops fuel (k + 1) (listed.setIfInBounds k true)
def lex6 (md : Region.Mode) (ops : Array Oper) (sh : List Sh) : Bool := Region.noSelect ops && lexFrom6 md ops ops.size 0 (Array.replicate ops.size false) && decide (Cl md ops sh)
theorem wpAnyS_lex (S : St sh M Z w1) (hC : Cl md ops sh) {Q : Ghost → Act → Prop} (hs : Region.noSelect ops = true) : ∀ (l : List Oper) (k : Nat) (listed : Array Bool) (g : Ghost) (a : Act), (∀ j, l[j]? = ops[k + j]?) →
    (∀ k, listed.getD k false = true → ∀ m, edgeB md ops k m = true → listed.getD m false = true) →
    lexFrom6 md ops l.length k listed = true → wpS P ops md sh M Z w1 Q k l g a → wpAnyS P ops md sh M Z w1 Q l.length listed g a
  | [], _, _, _, _, _, _, hB, h => by
    simp only [List.length_nil, lexFrom6, Bool.and_eq_true] at hB
    exact ⟨by simpa using hB.1, fun j hj => List.all_eq_true.1 hB.2 j (List.mem_range.2 hj), h⟩
  | o :: l, k, listed, g, a, hl, hsh, hB, h => by
    have h0 : ops[k]? = some o := by simpa using (hl 0).symm
    simp only [List.length_cons, lexFrom6, Bool.and_eq_true] at hB
    obtain ⟨⟨hr, hf⟩, hB'⟩ := hB
    have hr' : k ∈ Region.ready md ops listed := by simpa using hr
    obtain ⟨hun, o', ho', hall⟩ := mem_ready.1 hr'
    have hoo : o' = o := by rw [ho'] at h0; exact Option.some.inj h0
    subst hoo
    have hop : sOp P ops md sh M Z w1 k (fun g a => wpS P ops md sh M Z w1 Q (k + 1) l g a) g a := by
      unfold sOp
      simp only [h0]
      exact h
    obtain ⟨h1, h2⟩ := (sOp_iff S h0).1 hop
    refine wpAnyS_first S hC h0 (Region.noSelect_spec hs) l.length listed g a hsh (Region.free_spec h0 hf) hr' ⟨h1, fun x hx => ?_⟩
    exact wpAnyS_lex S hC hs l (k + 1) _ _ _ (fun j => by have := hl (j + 1); simpa [Nat.add_assoc, Nat.add_comm 1 j] using this) (shut_set h0 hsh hall) hB' (h2 x hx)
def After (sh : List Sh) (M : Nat → Mean) (Z : Nat → Prop) (w1 : World) (n : Nat) (R : Act → World → Prop) (g : Ghost) (a : Act) : Prop :=
  ∀ w', Tr Z w1 w' → GOk sh w1 (· < n) g w'.heap.size → (∀ i s, spOf sh i = some s → s.kill = [] → i < n → (M i).F g w') → R a w'
theorem wpAny_six {Q : Exit → Act → World → Prop} {a : Act} {l : List Oper} (hB : lex6 .any l.toArray sh = true) (S : St sh M Z w1)
    (h : ∀ QQ : Ghost → Act → Prop, (∀ g a', After sh M Z w1 l.length (fun a w => Q .normal a w) g a' → QQ g a') → wpS P l.toArray .any sh M Z w1 QQ 0 l (fun _ => ⟨undef, 0, 0⟩) a) :
    wpAny P .any l.toArray Q l.toArray.size (Array.replicate l.toArray.size false) a w1 := by
  simp only [lex6, Bool.and_eq_true, decide_eq_true_eq] at hB
  have hno : ∀ k, (Array.replicate l.toArray.size false).getD k false = true → False := fun k hk => by
    rw [Array.getD_eq_getD_getElem?, Array.getElem?_replicate] at hk
    split at hk <;> cases hk
  have h1 := wpAnyS_lex (md := .any) S hB.2 hB.1.1 l 0 (Array.replicate l.toArray.size false) (fun _ => ⟨undef, 0, 0⟩) a (by simp) (fun k hk => (hno k hk).elim) (by simpa using hB.1.2) (h _ fun _ _ h => h)
  have := wpAny_of_S S hB.2 (Q' := Q) (fun g a h w listed I hall => h w (I.tr.mono fun b _ ⟨s, hs, _, hx⟩ => (S.xo s hs b hx).2.1)
    ⟨fun k hk hsk => I.ok.1 k (hall k (by simpa using hk)) hsk, fun j k hj hk hsj hsk hjk => I.ok.2 j k (hall j (by simpa using hj)) (hall k (by simpa using hk)) hsj hsk hjk⟩
    fun i s hs hk hlt => (spOf_spec hs).2 ▸ I.fact s (spOf_spec hs).1 (by rw [(spOf_spec hs).2]; exact hall _ (by simpa using hlt)) fun j hj => by rw [hk] at hj; cases hj) _ _ _ _ h1 w1
    ⟨Tr.refl _ _, fun k hk => (hno k hk).elim, ⟨fun k hk => (hno k hk).elim, fun j k hj => (hno j hj).elim⟩, fun s _ hl => (hno _ hl).elim⟩ (by simp)
  simpa using this
theorem wp_region_six {id : Nat} {Q : Exit → Act → World → Prop} {a : Act} {w : World} {l : List Oper} (sh : List Sh) (M : Nat → Mean) (Z : Nat → Prop) (hm : P.follows .mixedOrders = true) (hB : lex6 .any l.toArray sh = true)
    (S : St sh M Z w.drew)
    (h : ∀ QQ : Ghost → Act → Prop, (∀ g a', After sh M Z w.drew l.length (fun a w => Q .normal a w) g a' → QQ g a') → wpS P l.toArray .any sh M Z w.drew QQ 0 l (fun _ => ⟨undef, 0, 0⟩) a) : (Code.region id l.toArray true).wp P Q a w :=
  wp_region_any hm (wpAny_six hB S h)
theorem wp_region_six0 {id : Nat} {Q : Exit → Act → World → Prop} {a : Act} {w : World} {l : List Oper} (sh : List Sh) (M : Nat → Mean) (Z : Nat → Prop) (hm : Region.linearise .any l.toArray 0 = List.range l.toArray.size) (hB : lex6 .any l.toArray sh = true)
    (S : St sh M Z w)
    (h : ∀ QQ : Ghost → Act → Prop, (∀ g a', After sh M Z w l.length (fun a w => Q .normal a w) g a' → QQ g a') → wpS P l.toArray .any sh M Z w QQ 0 l (fun _ => ⟨undef, 0, 0⟩) a) : (Code.region id l.toArray false).wp P Q a w :=
  wp_region (hm ▸ wpAny_sound _ 0 _ _ _ (wpAny_six hB S h))
end
end Go.Proofs.Ytpdenhmkpiafiaa.K6
namespace Go.Proofs.Ytpdenhmkpiafiaa.K6
open Go Go.RowKit
abbrev Sp := Sh × Mean
def dflt : Mean := ⟨fun _ _ => True, fun _ _ => True, None_, None_⟩
def shs (l : List Sp) : List Sh := l.map (·.1)
def look6 (l : List Sp) (i : Nat) : Mean := match l with
  | [] => dflt
  | p :: l => if p.1.i = i then p.2 else look6 l i
structure OpOk (w1 : World) (Z : Nat → Prop) (p : Sp) : Prop where
  some_ : ∀ g, ∃ x : GV, w1.heap.size ≤ x.lo ∧ x.lo ≤ x.hi ∧ p.2.V g x
  depV : ∀ g g', (∀ x ∈ p.1.D, g' x = g x) → ∀ x, p.2.V g x → p.2.V g' x
  depF : ∀ g g', (∀ x, x = p.1.i ∨ x ∈ p.1.D → g' x = g x) → ∀ w, p.2.F g w → p.2.F g' w
  loc : ∀ g w w', p.2.F g w → Tr (fun b => ¬ (p.1.any = true ∨ p.2.Lo b ∨ ∃ k ∈ p.1.Li, (g k).lo ≤ b ∧ b < (g k).hi)) w w' → p.2.F g w'
  xo : ∀ b, p.2.Xo b → p.1.x = true ∧ Z b ∧ b < w1.heap.size
  lo : ∀ b, p.2.Lo b → p.1.l = true ∧ b < w1.heap.size
def AllOk (w1 : World) (Z : Nat → Prop) : List Sp → Prop
  | [] => True
  | p :: l => OpOk w1 Z p ∧ AllOk w1 Z l
theorem AllOk.mem {w1 : World} {Z : Nat → Prop} : ∀ {l : List Sp}, AllOk w1 Z l → ∀ p ∈ l, OpOk w1 Z p
  | _ :: _, h, p, hp => by
    rcases List.mem_cons.1 hp with rfl | hp
    · exact h.1
    · exact h.2.mem p hp
def onceB : List Sp → Bool
  | [] => true
  | p :: l => l.all (fun q => q.1.i != p.1.i) && onceB l
theorem look_mem : ∀ {l : List Sp}, onceB l = true → ∀ p ∈ l, look6 l p.1.i = p.2
  | q :: l, h, p, hp => by
    simp only [onceB, Bool.and_eq_true] at h
    rcases List.mem_cons.1 hp with rfl | hp
    · simp [look6]
    · have := List.all_eq_true.1 h.1 p hp
      have hne : q.1.i ≠ p.1.i := fun e => by simp [e] at this
      simp only [look6, if_neg hne]
      exact look_mem h.2 p hp
def isX (s : Sh) : Bool := s.x || !s.Xi.isEmpty
def sepB (sh : List Sh) (fi xi : List Nat) : Bool := sh.all fun s => (!s.any && !s.l) || (fi.contains s.i && !s.any && sh.all fun t => !isX t || xi.contains t.i) || sh.all fun t => !isX t || t.i == s.i || s.kill.contains t.i
theorem mk_St {w1 : World} {Z : Nat → Prop} (l : List Sp) (fi xi : List Nat) (h1 : onceB l = true) (h2 : sepB (shs l) fi xi = true) (h : AllOk w1 Z l)
    (h3 : ∀ i ∈ fi, ∀ j ∈ xi, i ≠ j → ∀ b, (look6 l i).Lo b → ¬ (look6 l j).Xo b) : St (shs l) (look6 l) Z w1 := by
  have hm : ∀ s ∈ shs l, ∃ m, (s, m) ∈ l ∧ look6 l s.i = m := fun s hs => by
    obtain ⟨⟨s', m⟩, hp, rfl⟩ := List.mem_map.1 hs
    exact ⟨m, hp, look_mem h1 _ hp⟩
  have hx : ∀ s ∈ shs l, isX s = false → (∀ b, ¬ (look6 l s.i).Xo b) ∧ s.Xi = [] := fun s hs he => by
    obtain ⟨m, hp, hl⟩ := hm s hs
    simp only [isX, Bool.or_eq_false_iff, Bool.not_eq_false', List.isEmpty_iff] at he
    refine ⟨fun b hb => ?_, he.2⟩
    rw [hl] at hb
    have := ((h.mem _ hp).xo b hb).1
    simp only at this
    rw [he.1] at this
    cases this
  refine ⟨fun s hs => ?_, fun s hs => ?_, fun s hs => ?_, fun s hs => ?_, fun s hs => ?_, fun s hs => ?_, fun s hs t ht hne => ?_⟩
  · obtain ⟨m, hp, hl⟩ := hm s hs; rw [hl]; exact (h.mem _ hp).some_
  · obtain ⟨m, hp, hl⟩ := hm s hs; rw [hl]; exact (h.mem _ hp).depV
  · obtain ⟨m, hp, hl⟩ := hm s hs; rw [hl]; exact (h.mem _ hp).depF
  · obtain ⟨m, hp, hl⟩ := hm s hs
    unfold LL
    rw [hl]; exact (h.mem _ hp).loc
  · obtain ⟨m, hp, hl⟩ := hm s hs; rw [hl]; exact (h.mem _ hp).xo
  · obtain ⟨m, hp, hl⟩ := hm s hs; rw [hl]; exact fun b hb => ((h.mem _ hp).lo b hb).2
  · have hs2 := List.all_eq_true.1 h2 s hs
    cases ht' : isX t with
    | false =>
      obtain ⟨h5, h6⟩ := hx t ht ht'
      exact .inr ⟨fun b _ => h5 b, fun _ => ⟨h5, h6⟩⟩
    | true =>
      simp only [Bool.or_eq_true, Bool.and_eq_true] at hs2
      rcases hs2 with (⟨hna, hnl⟩ | ⟨⟨hf, hany⟩, hxi⟩) | hk
      · obtain ⟨m, hp, hl⟩ := hm s hs
        refine .inr ⟨fun b hb => ?_, fun ha => by rw [ha] at hna; cases hna⟩
        rw [hl] at hb
        have := ((h.mem _ hp).lo b hb).1
        simp only at this
        rw [this] at hnl
        cases hnl
      · have := List.all_eq_true.1 hxi t ht
        simp only [ht', Bool.not_true, Bool.false_or] at this
        refine .inr ⟨h3 s.i (by simpa using hf) t.i (by simpa using this) hne, fun ha => ?_⟩
        rw [ha] at hany; cases hany
      · have := List.all_eq_true.1 hk t ht
        simp only [ht', Bool.not_true, Bool.false_or, Bool.or_eq_true, beq_iff_eq] at this
        exact .inl (by simpa using this.resolve_left (Ne.symm hne))
def sV (i : Nat) (D use : List Nat) (p : Value → Prop) : Sp := (⟨i, D, use, [], [], [], false, false, false⟩, ⟨fun _ x => p x.v, fun _ _ => True, None_, None_⟩)
theorem ok_V {w1 : World} {Z : Nat → Prop} {i : Nat} {D use : List Nat} {p : Value → Prop} (h : ∃ v, p v) : OpOk w1 Z (sV i D use p) where
  some_ := fun _ => by obtain ⟨v, hv⟩ := h; exact ⟨⟨v, w1.heap.size, w1.heap.size⟩, Nat.le_refl _, Nat.le_refl _, hv⟩
  depV := fun _ _ _ _ h => h
  depF := fun _ _ _ _ h => h
  loc := fun _ _ _ _ _ => trivial
  xo := fun _ h => h.elim
  lo := fun _ h => h.elim
def sF (i : Nat) (D use kill : List Nat) (p : GV → Prop) (f : GV → World → Prop) : Sp := (⟨i, D, use, kill, [], [], true, false, false⟩, ⟨fun _ x => p x, fun g w => f (g i) w, None_, None_⟩)
theorem ok_F {w1 : World} {Z : Nat → Prop} {i : Nat} {D use kill : List Nat} {p : GV → Prop} {f : GV → World → Prop} (h : ∃ x : GV, w1.heap.size ≤ x.lo ∧ x.lo ≤ x.hi ∧ p x) (hl : ∀ x w w', f x w → Below w.heap.size w w' → f x w') : OpOk w1 Z (sF i D use kill p f) where
  some_ := fun _ => h
  depV := fun _ _ _ _ h => h
  depF := fun g g' hg w h => by show f (g' i) w; rw [hg i (.inl rfl)]; exact h
  loc := fun g w w' h hT => hl _ w w' h ((hT.mono fun b _ hb => hb (.inl rfl)).below)
  xo := fun _ h => h.elim
  lo := fun _ h => h.elim
def sA (i t : Nat) (kill : List Nat) (cs : Array Value) : Sp := (⟨i, [], [], kill, [], [i], false, false, false⟩, ⟨fun _ x => x.v = .pointer (some ⟨x.lo, 0, none⟩) ∧ x.hi = x.lo + 1, fun g w => (g i).hi = (g i).lo + 1 ∧ Row w (g i).lo t cs, None_, None_⟩)
theorem Row.tr {X : Nat → Prop} {w w' : World} {g t : Nat} {cs : Array Value} (h : Row w g t cs) (hT : Tr X w w') (hx : ¬ X g) : Row w' g t cs := (hT.block g h.lt hx).trans h
theorem ok_A {w1 : World} {Z : Nat → Prop} {i t : Nat} {kill : List Nat} {cs : Array Value} : OpOk w1 Z (sA i t kill cs) where
  some_ := fun _ => ⟨⟨.pointer (some ⟨w1.heap.size, 0, none⟩), w1.heap.size, w1.heap.size + 1⟩, Nat.le_refl _, Nat.le_succ _, rfl, rfl⟩
  depV := fun _ _ _ _ h => h
  depF := fun g g' hg w h => by show (g' i).hi = (g' i).lo + 1 ∧ Row w (g' i).lo t cs; rw [hg i (.inl rfl)]; exact h
  loc := fun g w w' h hT => ⟨h.1, Row.tr h.2 hT fun hn => hn (.inr (.inr ⟨i, by simp [sA], Nat.le_refl _, by have : (g i).hi = (g i).lo + 1 := h.1; omega⟩))⟩
  xo := fun _ h => h.elim
  lo := fun _ h => h.elim
def sT (i k t : Nat) (D : List Nat) (cells : Ghost → Array Value) : Sp := (⟨i, k :: D, [k], [], [k], [k], false, false, false⟩, ⟨fun _ x => x.v = undef, fun g w => (g k).hi = (g k).lo + 1 ∧ Row w (g k).lo t (cells g), None_, None_⟩)
theorem ok_T {w1 : World} {Z : Nat → Prop} {i k t : Nat} {D : List Nat} {cells : Ghost → Array Value} (h : ∀ g g', (∀ x ∈ D, g' x = g x) → cells g' = cells g) : OpOk w1 Z (sT i k t D cells) where
  some_ := fun _ => ⟨⟨undef, w1.heap.size, w1.heap.size⟩, Nat.le_refl _, Nat.le_refl _, rfl⟩
  depV := fun _ _ _ _ h => h
  depF := fun g g' hg w hf => by
    show (g' k).hi = (g' k).lo + 1 ∧ Row w (g' k).lo t (cells g')
    rw [hg k (.inr (by simp [sT])), h g g' fun x hx => hg x (.inr (by simp [sT, hx]))]; exact hf
  loc := fun g w w' h hT => ⟨h.1, Row.tr h.2 hT fun hn => hn (.inr (.inr ⟨k, by simp [sT], Nat.le_refl _, by have : (g k).hi = (g k).lo + 1 := h.1; omega⟩))⟩
  xo := fun _ h => h.elim
  lo := fun _ h => h.elim
def sO (i b t : Nat) (D : List Nat) (cells : Ghost → Array Value) : Sp := (⟨i, D, [], [], [], [], false, true, true⟩, ⟨fun _ x => x.v = undef, fun g w => Row w b t (cells g), (· = b), (· = b)⟩)
theorem ok_O {w1 : World} {Z : Nat → Prop} {i b t : Nat} {D : List Nat} {cells : Ghost → Array Value} (h : ∀ g g', (∀ x ∈ D, g' x = g x) → cells g' = cells g) (hb : b < w1.heap.size) (hz : Z b) : OpOk w1 Z (sO i b t D cells) where
  some_ := fun _ => ⟨⟨undef, w1.heap.size, w1.heap.size⟩, Nat.le_refl _, Nat.le_refl _, rfl⟩
  depV := fun _ _ _ _ h => h
  depF := fun g g' hg w hf => by
    show Row w b t (cells g')
    rw [h g g' fun x hx => hg x (.inr hx)]; exact hf
  loc := fun g w w' h hT => Row.tr h hT fun hn => hn (.inr (.inl rfl))
  xo := fun c hc => by
    have hc' : c = b := hc
    subst hc'; exact ⟨rfl, hz, hb⟩
  lo := fun c hc => by
    have hc' : c = b := hc
    subst hc'; exact ⟨rfl, hb⟩
def RowL : List (Nat × Nat × Array Value) → World → Prop
  | [], _ => True
  | (g, t, cs) :: L, w => Row w g t cs ∧ RowL L w
theorem RowL.keep {w w' : World} (hb : Below w.heap.size w w') : ∀ {L : List (Nat × Nat × Array Value)}, RowL L w → RowL L w'
  | [], _ => trivial
  | _ :: _, hr => ⟨hr.1.below hb hr.1.lt, hr.2.keep hb⟩
def Mem (w : World) (L : List (Nat × Nat × Array Value)) (wc : World) : Prop := Below w.heap.size w wc ∧ RowL L wc
theorem Mem.keep {w wc w' : World} {L : List (Nat × Nat × Array Value)} (h : Mem w L wc) (hb : Below wc.heap.size wc w') : Mem w L w' := ⟨h.1.trans (hb.mono h.1.size), h.2.keep hb⟩
theorem Mem.drew {w wc : World} {L : List (Nat × Nat × Array Value)} (h : Mem w L wc) : Mem w L wc.drew := h.keep ((Below.refl _ _).drew)
theorem Mem.tr {w wc w' : World} {L : List (Nat × Nat × Array Value)} (h : Mem w L wc) (hb : Tr None_ wc w') : Mem w L w' := h.keep hb.below
theorem wp_abs {P : Program} {Q : Exit → Act → World → Prop} {a : Act} {W : World} {c : Code} (Fa : World → Prop) (h : Fa W) (k : ∀ W0, Fa W0 → c.wp P Q a W0) : c.wp P Q a W := k W h
theorem wp_seq_eq {P : Program} {Q : Exit → Act → World → Prop} {a a1 : Act} {w W1 : World} {A B : Code} (h1 : ∀ J : Act → World → Prop, J a1 W1 → A.wp P (Exit.then J Q) a w) (h2 : B.wp P Q a1 W1) : (A.seq B).wp P Q a w := wp_seq (h1 _ h2)
section
variable {P : Program} {ops : Array Oper} {md : Region.Mode} {sh : List Sh} {M : Nat → Mean} {Z : Nat → Prop} {w1 : World} {Q : Ghost → Act → Prop} {k : Nat} {o : Oper} {rest : List Oper} {g : Ghost} {a : Act}
def gives (v : Value) (w : World) : Result Next → Prop
  | .ok (.value u) w' => u = v ∧ w' = w
  | _ => False
theorem gives_eq {v : Value} {w : World} {r : Result Next} (h : gives v w r) : r = .ok (.value v) w := by
  cases r with
  | ok n w' =>
    cases n <;> simp only [gives] at h
    obtain ⟨rfl, rfl⟩ := h
    rfl
  | halt x w' => simp only [gives] at h
def kOut (P : Program) (w1 : World) (X : Nat → Prop) (o : Oper) (a : Act) (v : Value) : Prop := ∀ w, Tr X w1 w → gives v w ((execOp a.eval o).run P w)
theorem xu_full {b : Nat} (hf : fullB md ops sh k = true) (h : XU ops md sh M k b) : False := by
  obtain ⟨s, hs, hx, hp, _⟩ := h
  have := List.all_eq_true.1 hf s hs
  rw [hx] at this
  exact hp (by simpa using this)
def xuOf (md : Region.Mode) (ops : Array Oper) (sh : List Sh) (k : Nat) : List Nat := (sh.filter fun s => s.x && !(pre md ops s.i).contains k).map (·.i)
theorem xu_list {b : Nat} {l : List Nat} (hl : xuOf md ops sh k = l) (h : XU ops md sh M k b) : ∃ i ∈ l, (M i).Xo b := by
  obtain ⟨s, hs, hx, hp, hb⟩ := h
  refine ⟨s.i, ?_, hb⟩
  subst hl
  exact List.mem_map.2 ⟨s, List.mem_filter.2 ⟨hs, by simp [hx, hp]⟩, rfl⟩
theorem stepK (h0 : spOf sh k = none) (hf : fullB md ops sh k = true)
    (h : ∀ K : Ghost → Act → Prop, (∀ g a, wpS P ops md sh M Z w1 Q (k + 1) rest g a → K g a) → if Region.wanted o (yielded ops a.tmps) then ∃ v, kOut P w1 None_ o a v ∧ K (gput g k ⟨v, 0, 0⟩) (a.put o.dst v) else K (gput g k ⟨undef, 0, 0⟩) (a.put o.dst undef)) :
    wpS P ops md sh M Z w1 Q k (o :: rest) g a := by
  have hh := h _ (fun _ _ h => h)
  unfold wpS
  simp only [h0]
  split at hh
  · rename_i hw
    obtain ⟨v, h1, h2⟩ := hh
    refine ⟨v, .inl ⟨hw, fun w hk => gives_eq (h1 w ?_)⟩, h2⟩
    exact hk.1.mono fun b _ hb => (xu_full hf hb).elim
  · rename_i hw
    exact ⟨undef, .inr ⟨by simpa using hw, rfl⟩, hh⟩
theorem stepKz (h0 : spOf sh k = none)
    (h : ∀ K : Ghost → Act → Prop, (∀ g a, wpS P ops md sh M Z w1 Q (k + 1) rest g a → K g a) → if Region.wanted o (yielded ops a.tmps) then ∃ v, kOut P w1 Z o a v ∧ K (gput g k ⟨v, 0, 0⟩) (a.put o.dst v) else K (gput g k ⟨undef, 0, 0⟩) (a.put o.dst undef)) :
    wpS P ops md sh M Z w1 Q k (o :: rest) g a := by
  have hh := h _ (fun _ _ h => h)
  unfold wpS
  simp only [h0]
  split at hh
  · rename_i hw
    obtain ⟨v, h1, h2⟩ := hh
    exact ⟨v, .inl ⟨hw, fun w hk => gives_eq (h1 w hk.2)⟩, h2⟩
  · rename_i hw
    exact ⟨undef, .inr ⟨by simpa using hw, rfl⟩, hh⟩
def sOut (P : Program) (w1 : World) (sh : List Sh) (M : Nat → Mean) (X : Nat → Prop) (o : Oper) (a : Act) (s : Sh) (g : Ghost) : Prop :=
  ∀ w, Tr X w1 w → GOk sh w1 (· ∈ s.D) g w.heap.size → (∀ k ∈ s.use, (M k).F g w) → sUpon P (Left M s g w) ((execOp a.eval o).run P w)
theorem stepS (s : Sh) (h0 : spOf sh k = some s) (hf : fullB md ops sh k = true)
    (h : ∀ K : Ghost → Act → Prop, (∀ g a, wpS P ops md sh M Z w1 Q (k + 1) rest g a → K g a) → Region.wanted o (yielded ops a.tmps) = true ∧ sOut P w1 sh M None_ o a s g ∧ ∀ x : GV, w1.heap.size ≤ x.lo → x.lo ≤ x.hi → (M k).V g x → K (gput g k x) (a.put o.dst x.v)) :
    wpS P ops md sh M Z w1 Q k (o :: rest) g a := by
  have hh := h _ (fun _ _ h => h)
  unfold wpS
  simp only [h0]
  refine ⟨⟨hh.1, fun w hk => hh.2.1 w ?_⟩, hh.2.2⟩
  rw [(spOf_spec h0).2] at hk
  exact hk.1.mono fun b _ hb => (xu_full hf hb).elim
theorem stepSz (s : Sh) (h0 : spOf sh k = some s)
    (h : ∀ K : Ghost → Act → Prop, (∀ g a, wpS P ops md sh M Z w1 Q (k + 1) rest g a → K g a) → Region.wanted o (yielded ops a.tmps) = true ∧ sOut P w1 sh M Z o a s g ∧ ∀ x : GV, w1.heap.size ≤ x.lo → x.lo ≤ x.hi → (M k).V g x → K (gput g k x) (a.put o.dst x.v)) :
    wpS P ops md sh M Z w1 Q k (o :: rest) g a := by
  have hh := h _ (fun _ _ h => h)
  unfold wpS
  simp only [h0]
  exact ⟨⟨hh.1, fun w hk => hh.2.1 w hk.2⟩, hh.2.2⟩
theorem stepSx (s : Sh) (l : List Nat) (X : Nat → Prop) (h0 : spOf sh k = some s) (hl : xuOf md ops sh k = l) (hX : ∀ i ∈ l, ∀ b, (M i).Xo b → X b)
    (h : ∀ K : Ghost → Act → Prop, (∀ g a, wpS P ops md sh M Z w1 Q (k + 1) rest g a → K g a) → Region.wanted o (yielded ops a.tmps) = true ∧ sOut P w1 sh M X o a s g ∧ ∀ x : GV, w1.heap.size ≤ x.lo → x.lo ≤ x.hi → (M k).V g x → K (gput g k x) (a.put o.dst x.v)) :
    wpS P ops md sh M Z w1 Q k (o :: rest) g a := by
  have hh := h _ (fun _ _ h => h)
  unfold wpS
  simp only [h0]
  refine ⟨⟨hh.1, fun w hk => hh.2.1 w ?_⟩, hh.2.2⟩
  rw [(spOf_spec h0).2] at hk
  exact hk.1.mono fun b _ hb => by
    obtain ⟨i, hi, hx⟩ := xu_list hl hb
    exact hX i hi b hx
theorem stepKx (l : List Nat) (X : Nat → Prop) (h0 : spOf sh k = none) (hl : xuOf md ops sh k = l) (hX : ∀ i ∈ l, ∀ b, (M i).Xo b → X b)
    (h : ∀ K : Ghost → Act → Prop, (∀ g a, wpS P ops md sh M Z w1 Q (k + 1) rest g a → K g a) → if Region.wanted o (yielded ops a.tmps) then ∃ v, kOut P w1 X o a v ∧ K (gput g k ⟨v, 0, 0⟩) (a.put o.dst v) else K (gput g k ⟨undef, 0, 0⟩) (a.put o.dst undef)) :
    wpS P ops md sh M Z w1 Q k (o :: rest) g a := by
  have hh := h _ (fun _ _ h => h)
  unfold wpS
  simp only [h0]
  split at hh
  · rename_i hw
    obtain ⟨v, h1, h2⟩ := hh
    refine ⟨v, .inl ⟨hw, fun w hk => gives_eq (h1 w (hk.1.mono fun b _ hb => ?_))⟩, h2⟩
    obtain ⟨i, hi, hx⟩ := xu_list hl hb
    exact hX i hi b hx
  · rename_i hw
    exact ⟨undef, .inr ⟨by simpa using hw, rfl⟩, hh⟩
theorem stepN (h : Q g a) : wpS P ops md sh M Z w1 Q k [] g a := h
theorem upon_value {V : Value → World → Prop} {u : Value} {w : World} (h : V u w) : sUpon P V (.ok (.value u) w) := h
theorem upon_enter {V : Value → World → Prop} {f : FuncId} {args : Array Value} {w : World} (h : Calls P f args w (fun e w' => ∃ v, e = .returned v ∧ V v w')) : sUpon P V (.ok (.enter f args) w) := h
theorem gput_self (g : Ghost) (i : Nat) (x : GV) : gput g i x i = x := by simp [gput]
theorem left_F {l : List Sp} {i : Nat} {D use kill : List Nat} {p : GV → Prop} {f : GV → World → Prop} {s : Sh} (hl : look6 l s.i = (sF i D use kill p f).2) (hs : s = (sF i D use kill p f).1) {g : Ghost} {w w' : World} {v : Value}
    (hb : Below w.heap.size w w') (hp : p ⟨v, w.heap.size, w'.heap.size⟩) (hf : f ⟨v, w.heap.size, w'.heap.size⟩ w') : Left (look6 l) s g w v w' := by
  unfold Left
  rw [hl]
  subst hs
  exact ⟨hp, Tr.of hb, by show f (gput g i _ i) w'; rw [gput_self]; exact hf⟩
theorem left_V {l : List Sp} {i : Nat} {D use : List Nat} {p : Value → Prop} {s : Sh} (hl : look6 l s.i = (sV i D use p).2) {g : Ghost} {w w' : World} {v : Value}
    (hb : Below w.heap.size w w') (hp : p v) : Left (look6 l) s g w v w' := by
  unfold Left
  rw [hl]
  exact ⟨hp, Tr.of hb, trivial⟩
theorem left_A {l : List Sp} {i t : Nat} {kill : List Nat} {cs : Array Value} {s : Sh} (hl : look6 l s.i = (sA i t kill cs).2) (hs : s = (sA i t kill cs).1) {g : Ghost} {w : World} : Left (look6 l) s g w (.pointer (some ⟨w.heap.size, 0, none⟩)) (w.alloc (.cells cs t)) := by
  unfold Left
  rw [hl]
  subst hs
  refine ⟨⟨rfl, by simp⟩, Tr.of ((Below.refl _ _).alloc (Nat.le_refl _) _), ?_⟩
  show (gput g i _ i).hi = (gput g i _ i).lo + 1 ∧ Row _ (gput g i _ i).lo t cs
  rw [gput_self]
  exact ⟨by simp, Row.new_at rfl⟩
theorem left_T {l : List Sp} {i k t : Nat} {D : List Nat} {cells : Ghost → Array Value} {s : Sh} (hl : look6 l s.i = (sT i k t D cells).2) (hs : s = (sT i k t D cells).1) (hik : i ∉ k :: D) (hc : ∀ g g', (∀ x ∈ D, g' x = g x) → cells g' = cells g) {g : Ghost} {w w' : World}
    (hh : (g k).hi = (g k).lo + 1) (hb : ∀ b, b ≠ (g k).lo → w'.heap[b]? = w.heap[b]?) (ho : w'.os = w.os) (ht : w'.tape = w.tape) (hu : w'.output = w.output) (hz : w'.heap.size = w.heap.size) (hr : Row w' (g k).lo t (cells g)) : Left (look6 l) s g w undef w' := by
  unfold Left
  rw [hl]
  subst hs
  simp only [List.mem_cons, not_or] at hik
  refine ⟨rfl, ⟨ho, ht, hu, by omega, fun b _ hx => hb b fun e => hx (.inr ⟨k, by simp [sT], by omega, by omega⟩)⟩, ?_⟩
  show (gput g i _ k).hi = (gput g i _ k).lo + 1 ∧ Row _ (gput g i _ k).lo t (cells (gput g i _))
  rw [gput_ne (Ne.symm hik.1), hc g _ fun x hx => gput_ne (fun e : x = i => hik.2 (by rw [← e]; exact hx))]
  exact ⟨hh, hr⟩
theorem left_O {l : List Sp} {i b t : Nat} {D : List Nat} {cells : Ghost → Array Value} {s : Sh} (hl : look6 l s.i = (sO i b t D cells).2) (hs : s = (sO i b t D cells).1) (hik : i ∉ D) (hc : ∀ g g', (∀ x ∈ D, g' x = g x) → cells g' = cells g) {g : Ghost} {w w' : World}
    (hb : ∀ c, c ≠ b → w'.heap[c]? = w.heap[c]?) (ho : w'.os = w.os) (ht : w'.tape = w.tape) (hu : w'.output = w.output) (hz : w'.heap.size = w.heap.size) (hr : Row w' b t (cells g)) : Left (look6 l) s g w undef w' := by
  unfold Left
  rw [hl]
  subst hs
  refine ⟨rfl, ⟨ho, ht, hu, by omega, fun c _ hx => hb c fun e => hx (.inl (by rw [hl]; exact e))⟩, ?_⟩
  show Row _ b t (cells (gput g i _))
  rw [hc g _ fun x hx => gput_ne (fun e : x = i => hik (by rw [← e]; exact hx))]
  exact hr
theorem heap_setRow_ne {w : World} {g b : Nat} {cs : Array Value} (h : b ≠ g) : (w.setRow g cs).heap[b]? = w.heap[b]? := by
  simp only [World.setRow, Array.getElem?_modify]
  rw [if_neg (fun e => h e.symm)]
theorem row_setRow {w : World} {g t : Nat} {cs old : Array Value} (h : Row w g t old) : Row (w.setRow g cs) g t cs := by
  unfold Row at h ⊢
  simp [World.setRow, Array.getElem?_modify, h]
theorem kLoad {X : Nat → Prop} {ty : TypeId} {x : Operand} {b t n : Nat} {cs : Array Value} (ho : o.op = .load ty x) (hx : a.eval x = .pointer (some ⟨b, 0, none⟩)) (T : AggT P ty n) (hr : Row w1 b t cs) (hs : cs.size = n) (hX : ¬ X b) : kOut P w1 X o a (.agg cs) := by
  intro w hw
  have h := T.load (w := w) (Row.tr hr hw hX) hs
  unfold execOp
  simp only [ho, hx, Instr.loadAt, Instr.sureAddr, Sem.run_bind, Sem.run_pure, Result.andThen_ok, h]
  exact ⟨rfl, rfl⟩
theorem kLoadMid {X : Nat → Prop} {ty : TypeId} {x : Operand} {b off t n : Nat} {cs cs' : Array Value} (ho : o.op = .load ty x) (hx : a.eval x = .pointer (some ⟨b, off, none⟩)) (T : AggT P ty n) (hr : Row w1 b t cs) (hsub : ∀ j v, cs'[j]? = some v → cs[off + j]? = some v) (hs : cs'.size = n) (hX : ¬ X b) : kOut P w1 X o a (.agg cs') := by
  intro w hw
  have hr' := Row.tr hr hw hX
  obtain ⟨⟨d, hu, hd⟩, hi⟩ := T
  have hc : w.rangeAt b off cs'.toList := fun j v hv => by rw [hr'.cell]; exact hsub j v (by simpa using hv)
  have h := run_loadAt_mid (P := P) w b off ty cs'.toList d hc hu (by cases d <;> first | rfl | exact Bool.noConfusion hd) (by rw [hi, ← hs]; simp)
  unfold execOp
  simp only [ho, hx, Sem.run_bind, Sem.run_pure, Result.andThen_ok, h]
  exact ⟨by simp, rfl⟩
theorem run_store_row {ty : TypeId} {x y : Operand} {b t : Nat} {old cells : Array Value} {w : World} (ho : o.op = .store ty x y) (hx : a.eval x = .pointer (some ⟨b, 0, none⟩)) (hy : a.eval y = .agg cells) (hr : Row w b t old)
    (hi : (P.info? ty).map (·.size) = some cells.size) (hold : old.size = cells.size) (h1 : cells.all (·.oneCell') = true) : (execOp a.eval o).run P w = .ok .skip (w.setRow b cells) := by
  unfold execOp
  simp only [ho, hx, hy, Instr.storeAt, Instr.sureAddr, Sem.run_bind, Sem.run_pure, Result.andThen_ok, run_storeVar_row w b t ty old cells hr hi hold h1]
theorem sStoreT {X : Nat → Prop} {l : List Sp} {i k' t : Nat} {D : List Nat} {kill : List Nat} {old : Array Value} {cells : Ghost → Array Value} {cs : Array Value} {s : Sh} (hl : look6 l s.i = (sT i k' t D cells).2) (hs : s = (sT i k' t D cells).1) (hk : look6 l k' = (sA k' t kill old).2)
    {ty : TypeId} {x y : Operand} (ho : o.op = .store ty x y) (hx : a.eval x = .pointer (some ⟨(g k').lo, 0, none⟩)) (hy : a.eval y = .agg cs) (hcs : cells g = cs)
    (hi : (P.info? ty).map (·.size) = some cs.size) (hold : old.size = cs.size) (h1 : cs.all (·.oneCell') = true) (hik : i ∉ k' :: D) (hc : ∀ g g', (∀ x ∈ D, g' x = g x) → cells g' = cells g) :
    sOut P w1 sh (look6 l) X o a s g := by
  subst hcs
  intro w hT hg hu
  have hf := hu k' (by subst hs; simp [sT])
  rw [hk] at hf
  obtain ⟨h2, h3⟩ : (g k').hi = (g k').lo + 1 ∧ Row w (g k').lo t old := hf
  rw [run_store_row ho hx hy h3 hi hold h1]
  exact left_T hl hs hik hc h2 (fun b hb => heap_setRow_ne hb) rfl rfl rfl (by simp) (row_setRow h3)
theorem sStoreO {X : Nat → Prop} {l : List Sp} {i b t : Nat} {D : List Nat} {old : Array Value} {cells : Ghost → Array Value} {cs : Array Value} {s : Sh} (hl : look6 l s.i = (sO i b t D cells).2) (hs : s = (sO i b t D cells).1)
    {ty : TypeId} {x y : Operand} (ho : o.op = .store ty x y) (hx : a.eval x = .pointer (some ⟨b, 0, none⟩)) (hy : a.eval y = .agg cs) (hcs : cells g = cs) (hr : Row w1 b t old) (hX : ¬ X b)
    (hi : (P.info? ty).map (·.size) = some cs.size) (hold : old.size = cs.size) (h1 : cs.all (·.oneCell') = true) (hik : i ∉ D) (hc : ∀ g g', (∀ x ∈ D, g' x = g x) → cells g' = cells g) :
    sOut P w1 sh (look6 l) X o a s g := by
  subst hcs
  intro w hT hg hu
  rw [run_store_row ho hx hy (Row.tr hr hT hX) hi hold h1]
  exact left_O hl hs hik hc (fun b hb => heap_setRow_ne hb) rfl rfl rfl (by simp) (row_setRow (Row.tr hr hT hX))
end
end Go.Proofs.Ytpdenhmkpiafiaa.K6

namespace Go.Proofs.Ytpdenhmkpiafiaa.Ref
abbrev B : Nat := 2 ^ 32
def val : List Nat → Nat
  | [] => 0
  | d :: r => d + B * val r
def Dig (xs : List Nat) : Prop := ∀ x ∈ xs, x < B
def digs (n : Nat) : List Nat :=
  if _h : n = 0 then [] else n % B :: digs (n / B)
termination_by n
decreasing_by exact Nat.div_lt_self (Nat.pos_of_ne_zero _h) (by decide)
theorem digs_zero : digs 0 = [] := by unfold digs; simp
theorem digs_pos {n : Nat} (h : n ≠ 0) : digs n = n % B :: digs (n / B) := by
  rw [digs]; simp [h]
theorem dig_digs (n : Nat) : Dig (digs n) := by
  induction n using Nat.strongRecOn with
  | _ n ih =>
    by_cases h : n = 0
    · subst h; rw [digs_zero]; intro x hx; cases hx
    · rw [digs_pos h]
      intro x hx
      cases hx with
      | head => exact Nat.mod_lt _ (by decide)
      | tail _ hx => exact ih (n / B) (Nat.div_lt_self (Nat.pos_of_ne_zero h) (by decide)) x hx
theorem val_digs (n : Nat) : val (digs n) = n := by
  induction n using Nat.strongRecOn with
  | _ n ih =>
    by_cases h : n = 0
    · subst h; rw [digs_zero]; rfl
    · rw [digs_pos h, val, ih (n / B) (Nat.div_lt_self (Nat.pos_of_ne_zero h) (by decide))]
      exact Nat.mod_add_div n B
theorem val_append (xs ys : List Nat) : val (xs ++ ys) = val xs + B ^ xs.length * val ys := by
  induction xs with
  | nil => simp [val]
  | cons d r ih =>
    rw [List.cons_append, val, val, ih, List.length_cons, Nat.pow_succ, Nat.mul_add, ← Nat.add_assoc,
      Nat.mul_comm (B ^ r.length) B, Nat.mul_assoc]
theorem val_lt {xs : List Nat} (h : Dig xs) : val xs < B ^ xs.length := by
  induction xs with
  | nil => exact Nat.one_pos
  | cons d r ih =>
    have hd : d < B := h d (List.mem_cons_self ..)
    have hr := ih (fun x hx => h x (List.mem_cons_of_mem _ hx))
    rw [val, List.length_cons, Nat.pow_succ, Nat.mul_comm (B ^ r.length) B]
    have : B * (val r + 1) ≤ B * B ^ r.length := Nat.mul_le_mul_left B hr
    rw [Nat.mul_add] at this
    omega
theorem digs_val {xs : List Nat} (h : Dig xs)
    (hl : ∀ y, xs.getLast? = some y → y ≠ 0) : xs = digs (val xs) := by
  induction xs with
  | nil => rw [val, digs_zero]
  | cons d r ih =>
    have hd : d < B := h d (List.mem_cons_self ..)
    have hr := ih (fun x hx => h x (List.mem_cons_of_mem _ hx)) (by
      intro y hy
      apply hl y
      cases r with
      | nil => simp at hy
      | cons e q => rw [List.getLast?_cons_cons]; exact hy)
    have hq : (d + B * val r) / B = val r := by
      rw [Nat.add_mul_div_left _ _ (by decide : 0 < B), Nat.div_eq_of_lt hd, Nat.zero_add]
    have hm : (d + B * val r) % B = d := by
      rw [Nat.add_mul_mod_self_left, Nat.mod_eq_of_lt hd]
    have hn : d + B * val r ≠ 0 := by
      intro h0
      have hd0 : d = 0 := by omega
      cases r with
      | nil => exact hl d (by simp) hd0
      | cons e q =>
        have hv : val (e :: q) = 0 := by
          have : B * val (e :: q) = 0 := by omega
          rcases Nat.mul_eq_zero.mp this with h1 | h1
          · exact absurd h1 (by decide)
          · exact h1
        rw [hv, digs_zero] at hr
        cases hr
    rw [val, digs_pos hn, hm, hq, ← hr]
theorem take_val {xs : List Nat} {n : Nat} (h0 : xs[n]? = some 0) :
    val (xs.take (n + 1)) = val (xs.take n) := by
  rw [List.take_add_one, h0, val_append]
  simp [val]
theorem trim_end {xs : List Nat} {n : Nat} (hD : Dig xs) (hn : n ≤ xs.length)
    (hv : val (xs.take n) = val xs) (hl : n = 0 ∨ xs[n - 1]? ≠ some 0) :
    xs.take n = digs (val xs) := by
  rw [← hv]
  apply digs_val (fun x hx => hD x (List.mem_of_mem_take hx))
  intro y hy h0
  subst h0
  rcases hl with h | h
  · subst h; simp at hy
  · apply h
    rw [List.getLast?_eq_getElem?, List.length_take, Nat.min_eq_left hn, List.getElem?_take] at hy
    split at hy
    · exact hy
    · cases hy
theorem digs_len {n k : Nat} (h : n < B ^ k) : (digs n).length ≤ k := by
  induction k generalizing n with
  | zero =>
    have : n = 0 := by rw [Nat.pow_zero] at h; omega
    subst this; rw [digs_zero]; exact Nat.le_refl 0
  | succ k ih =>
    by_cases h0 : n = 0
    · subst h0; rw [digs_zero]; exact Nat.zero_le _
    · rw [digs_pos h0, List.length_cons]
      apply Nat.succ_le_succ
      apply ih
      rw [Nat.pow_succ, Nat.mul_comm] at h
      exact Nat.div_lt_of_lt_mul h
end Go.Proofs.Ytpdenhmkpiafiaa.Ref
namespace Go.Proofs.Ytpdenhmkpiafiaa
open Go Go.RowKit Ref
def dg (xs : List Nat) (i : Nat) : Nat := xs.getD i 0
theorem dg_some {xs : List Nat} {i : Nat} (h : i < xs.length) : xs[i]? = some (dg xs i) := by
  unfold dg
  rw [List.getD_eq_getElem?_getD, List.getElem?_eq_getElem h, Option.getD_some]
theorem dg_take {xs : List Nat} {n i : Nat} (h : i < n) : dg (xs.take n) i = dg xs i := by
  unfold dg
  rw [List.getD_eq_getElem?_getD, List.getD_eq_getElem?_getD, List.getElem?_take, if_pos h]
def Sl (w : World) (v : Value) (xs : List Nat) : Prop :=
  ∃ r c, v = .slice r xs.length c ∧ xs.length ≤ c ∧ (r = none → c = 0) ∧ ∀ a, r = some a → ∃ g o, a = ⟨g, o, none⟩ ∧ g < w.heap.size ∧ ∀ i, i < xs.length → w.cell? ⟨g, o + i, none⟩ = some (.int .u32 ((dg xs i : Nat) : Int))
theorem Sl.below {w w' : World} {v : Value} {xs : List Nat} (h : Sl w v xs) (hb : Below w.heap.size w w') : Sl w' v xs := by
  obtain ⟨r, c, e, hc, h0, h1⟩ := h
  refine ⟨r, c, e, hc, h0, fun a ha => ?_⟩
  obtain ⟨g, o, e, hg, hi⟩ := h1 a ha
  exact ⟨g, o, e, Nat.lt_of_lt_of_le hg hb.size, fun i h => ((bcell hb).1 g (o + i) hg).trans (hi i h)⟩
theorem Sl.cut {w : World} {r : Option Addr} {n c k : Nat} {xs : List Nat} (h : Sl w (.slice r n c) xs) (hk : k ≤ n) : Sl w (.slice r k c) (xs.take k) := by
  obtain ⟨r', c', e, hc, h0, h1⟩ := h
  cases e
  have hl : (xs.take k).length = k := by rw [List.length_take]; omega
  refine ⟨r, c, by rw [hl], by omega, h0, fun a ha => ?_⟩
  obtain ⟨g, o, e, hg, hi⟩ := h1 a ha
  refine ⟨g, o, e, hg, fun i hi' => ?_⟩
  rw [hl] at hi'
  rw [dg_take hi']
  exact hi i (by omega)
set_option maxRecDepth 100000 in
set_option maxHeartbeats 2000000 in
theorem trim_any (v : Value) (xs : List Nat) (w : World) (hD : Dig xs) (hs : Sl w v xs) (hL : xs.length < 1099511627776) :
    Calls Try.prog 197 #[v] w fun e w' => w' = w ∧ ∃ u, e = .returned u ∧ Sl w u (digs (val xs)) := by
  have hs' := hs
  obtain ⟨r, c, rfl, hc, hr0, hr⟩ := hs'
  obtain ⟨n, hn⟩ : ∃ n, xs.length = n := ⟨_, rfl⟩
  rw [hn] at hc hr hL hs ⊢
  have HS := Lib.hid hs
  clear hs
  go_enter Try.func197, Try.ntmps197
  go_wp2_with fail
  go_loopg [3] n (fun gg s3 wr => gg ≤ n ∧ s3 = .int .i64 (gg : Int) ∧ wr = w ∧ val (xs.take gg) = val xs)
  case atStart => exact ⟨Nat.le_refl _, rfl, rfl, by rw [← hn, List.take_length]⟩
  case round =>
    obtain ⟨hk, rfl, rfl, hv⟩ := hrel
    rcases Nat.eq_zero_or_pos gk with h0 | h0
    · subst h0
      have HV := Lib.hid hv
      clear hv hr
      go_wp2_with fail
      go_ret
      refine ⟨rfl, _, rfl, ?_⟩
      rw [← trim_end hD (by omega) HV.out (Or.inl rfl)]
      exact HS.out.cut (Nat.zero_le _)
    · obtain ⟨g, o, ha, hg, hcell⟩ : ∃ g o, r = some ⟨g, o, none⟩ ∧ g < wr.heap.size ∧ ∀ i, i < n → wr.cell? ⟨g, o + i, none⟩ = some (.int .u32 ((dg xs i : Nat) : Int)) := by
        cases r with
        | none => exfalso; have := hr0 rfl; omega
        | some a => obtain ⟨g, o, e, h⟩ := hr a rfl; exact ⟨g, o, by rw [e], h⟩
      subst ha
      obtain ⟨j, rfl⟩ : ∃ j, gk = j + 1 := ⟨gk - 1, by omega⟩
      have cj := hcell j (by omega)
      have e1 : ((j : Int) + 1) - 1 = (j : Int) := by omega
      clear hr hcell hr0
      have hds := dg_some (xs := xs) (i := j) (by omega)
      obtain ⟨y, hy⟩ : ∃ y, dg xs j = y := ⟨_, rfl⟩
      rw [hy] at cj hds
      have HV := Lib.hid hv
      clear hv hy
      by_cases hz : y = 0
      · subst hz
        have HY := Lib.hid hds
        clear hds
        go_wp2_with fail
        go_roundg j
        case measure => omega
        case rel => exact ⟨by omega, rfl, rfl, by rw [← HV.out]; exact (take_val HY.out).symm⟩
      · have hz' : ((y : Int) == 0) = false := by simp; omega
        have HZ := Lib.hid hz
        have HY := Lib.hid hds
        clear hds hz
        go_wp2_with fail
        go_ret
        refine ⟨rfl, _, rfl, ?_⟩
        rw [← trim_end hD (by omega) HV.out (Or.inr (by rw [show j + 1 - 1 = j by omega, HY.out]; intro h; exact HZ.out (Option.some.inj h)))]
        exact HS.out.cut hk
end Go.Proofs.Ytpdenhmkpiafiaa
namespace Go.Proofs.Ytpdenhmkpiafiaa
open Go Go.RowKit K6
theorem M_pos : 0 < M := by unfold M; omega
theorem any_some (w1 : World) : ∃ x : GV, w1.heap.size ≤ x.lo ∧ x.lo ≤ x.hi ∧ True := ⟨⟨undef, w1.heap.size, w1.heap.size⟩, Nat.le_refl _, Nat.le_refl _, trivial⟩
def aggOf (g : Ghost) (k : Nat) : Array Value := match (g k).v with | .agg cs => cs | _ => #[]
theorem aggOf_congr {k : Nat} (g g' : Ghost) (h : ∀ x ∈ [k], g' x = g x) : aggOf g' k = aggOf g k := by unfold aggOf; rw [h k (by simp)]
theorem Mem.of {w wc w' : World} {L : List (Nat × Nat × Array Value)} {X : Nat → Prop} (h : Mem w [] wc) (hT : Tr X wc w') (hx : ∀ c, X c → w.heap.size ≤ c) (hr : RowL L w') : Mem w L w' := ⟨h.1.trans (hT.below_of h.1.size hx), hr⟩
end Go.Proofs.Ytpdenhmkpiafiaa
namespace Go.Proofs.Ytpdenhmkpiafiaa.K6
open Go Go.RowKit
theorem own_tr {X : Nat → Prop} {w w' : World} {base e size n : Nat} {v : Value} {zs : List Value} (h : w.ownsRow base e size v n zs) (hT : Tr X w w') (hx : ∀ b, v.ownBlock = some b → ¬ X b) : w'.ownsRow base e size v n zs := by
  refine ⟨h.1, ?_⟩
  rcases h.2 with hn | ⟨g, cap, cur, rfl, hb, hgg, rest⟩
  · exact .inl hn
  · refine .inr ⟨g, cap, cur, rfl, hb, ?_, rest⟩
    rw [hT.block g (Array.getElem?_eq_some_iff.1 hgg).1 (hx g rfl)]
    exact hgg
def Grew (v : Value) (x : GV) : Prop := x.v.ownBlock = v.ownBlock ∨ (x.v.ownBlock = some x.lo ∧ x.lo < x.hi)
def sP (i : Nat) (D use : List Nat) (base e : Nat) (v : Value) (n : Nat) (zs : List Value) : Sp :=
  (⟨i, D, use, [], [], [i], false, true, true⟩, ⟨fun _ x => Grew v x, fun g w => Grew v (g i) ∧ w.ownsRow base e 1 (g i).v n zs, fun b => v.ownBlock = some b, fun b => v.ownBlock = some b⟩)
theorem ok_P {w1 : World} {Z : Nat → Prop} {i : Nat} {D use : List Nat} {base e : Nat} {v : Value} {n : Nat} {zs : List Value} (hv : ∀ b, v.ownBlock = some b → Z b ∧ b < w1.heap.size) : OpOk w1 Z (sP i D use base e v n zs) where
  some_ := fun _ => ⟨⟨v, w1.heap.size, w1.heap.size⟩, Nat.le_refl _, Nat.le_refl _, .inl rfl⟩
  depV := fun _ _ _ _ h => h
  depF := fun g g' hg w h => by
    show Grew v (g' i) ∧ w.ownsRow base e 1 (g' i).v n zs
    rw [hg i (.inl rfl)]; exact h
  loc := fun g w w' h hT => by
    refine ⟨h.1, own_tr h.2 hT fun b hb hn => hn ?_⟩
    rcases h.1 with h1 | ⟨h1, h2⟩
    · rw [h1] at hb; exact .inr (.inl hb)
    · rw [h1] at hb
      cases hb
      exact .inr (.inr ⟨i, by simp [sP], Nat.le_refl _, h2⟩)
  xo := fun b hb => ⟨rfl, hv b hb⟩
  lo := fun b hb => ⟨rfl, (hv b hb).2⟩
theorem left_P {l : List Sp} {i : Nat} {D use : List Nat} {base e : Nat} {v : Value} {n : Nat} {zs : List Value} {s : Sh} (hl : look6 l s.i = (sP i D use base e v n zs).2) (hs : s = (sP i D use base e v n zs).1) {g : Ghost} {w w' : World} {v' : Value}
    (hg : w.grownBy w' v.ownBlock) (ho : w'.ownsRow base e 1 v' n zs) (hw : v'.ownBlock = v.ownBlock ∨ v'.ownBlock = some w.heap.size) : Left (look6 l) s g w v' w' := by
  have hG : Grew v ⟨v', w.heap.size, w'.heap.size⟩ := by
    rcases hw with h | h
    · exact .inl h
    · exact .inr ⟨h, (ho.lt _ h).2⟩
  unfold Left
  rw [hl]
  subst hs
  refine ⟨hG, ⟨hg.os, hg.tape, hg.output, hg.size, fun b hb hx => hg.block b hb fun hn => hx (.inl (by rw [hl]; exact hn.symm))⟩, ?_⟩
  show Grew v (gput g i _ i) ∧ w'.ownsRow base e 1 (gput g i _ i).v n zs
  rw [gput_self]
  exact ⟨hG, ho⟩
theorem run_append_op {P : Program} {o : Oper} {a : Act} {x y : Operand} {t : TypeId} {v u v2 : Value} {w w2 : World} (ho : o.op = .call { callee := .builtin .append, args := #[x, y], argTypes := #[t, t] }) (hx : a.eval x = v) (hy : a.eval y = u)
    (hrun : (Builtin.append_ #[t, t] o.type #[v, u]).run P w = .ok v2 w2) : (execOp a.eval o).run P w = .ok (.value v2) w2 := by
  unfold execOp
  simp only [ho, resolve, invoke, builtin, Sem.run_bind, Sem.run_pure, Result.andThen_ok, List.map_toArray, List.map_cons, List.map_nil, hx, hy, hrun]
end Go.Proofs.Ytpdenhmkpiafiaa.K6
namespace Go.Proofs.Ytpdenhmkpiafiaa
open Go Go.RowKit K6
def bv (xs : List Int) : List Value := xs.map (Value.int .u8)
theorem bv_len (xs : List Int) : (bv xs).length = xs.length := List.length_map ..
theorem bv_app (xs ys : List Int) : bv (xs ++ ys) = bv xs ++ bv ys := List.map_append ..
def Ob (w : World) (base : Nat) (v : Value) (xs : List Int) : Prop := w.ownsRow base 5 1 v xs.length (bv xs)
def Bs (w : World) (u : Value) (xs : List Int) : Prop := ∃ q c, u = .slice q xs.length c ∧ (q = none → c = 0 ∧ xs = []) ∧ ∀ a, q = some a → ∀ j v, (bv xs)[j]? = some v → w.cell? (a.add j) = some v
theorem Ob.base {w : World} {b b' : Nat} {v : Value} {xs : List Int} (h : Ob w b v xs) (hb : b' ≤ b) : Ob w b' v xs := by
  refine ⟨h.1, ?_⟩
  rcases h.2 with h0 | ⟨g, cap, cur, rfl, h1, rest⟩
  · exact .inl h0
  · exact .inr ⟨g, cap, cur, rfl, Nat.le_trans hb h1, rest⟩
theorem Ob.nil (w : World) (b : Nat) : Ob w b (.slice none 0 0) [] := ⟨rfl, .inl ⟨rfl, rfl⟩⟩
theorem Bs.nil (w : World) : Bs w (.slice none 0 0) [] := ⟨none, 0, rfl, fun _ => ⟨rfl, rfl⟩, fun _ ha => (by cases ha)⟩
theorem add_at (g i : Nat) : (⟨g, 0, none⟩ : Addr).add i = ⟨g, 0 + i, none⟩ := by unfold Addr.add; split <;> simp_all
theorem add_off (g o i : Nat) : (⟨g, o, none⟩ : Addr).add i = ⟨g, o + i, none⟩ := by unfold Addr.add; split <;> simp_all
theorem Ob.bs {w : World} {b : Nat} {v : Value} {xs : List Int} (h : Ob w b v xs) : Bs w v xs := by
  rcases h.2 with ⟨rfl, h0⟩ | ⟨g, cap, cur, rfl, h1, hg, h2, h3, h4, h5⟩
  · obtain rfl : xs = [] := List.eq_nil_of_length_eq_zero h0
    exact Bs.nil w
  · refine ⟨some ⟨g, 0, none⟩, cap, rfl, (fun h => (by cases h)), fun a ha j u hj => ?_⟩
    cases ha
    exact World.ownsRow.cells h (g := g) rfl j u hj
theorem cell_lt {w : World} {a : Addr} {v : Value} (h : w.cell? a = some v) : a.block < w.heap.size := by
  unfold World.cell? at h
  split at h
  · rename_i c e f hc
    exact (Array.getElem?_eq_some_iff.1 hc).1
  · cases h
theorem add_block (a : Addr) (j : Nat) : (a.add j).block = a.block := by unfold Addr.add; split <;> rfl
theorem Bs.keep {X : Nat → Prop} {w w' : World} {u : Value} {xs : List Int} (h : Bs w u xs) (hT : Tr X w w') (hx : ∀ b, u.ownBlock = some b → ¬ X b) : Bs w' u xs := by
  obtain ⟨q, c, rfl, h0, h1⟩ := h
  refine ⟨q, c, rfl, h0, fun a ha j v hj => ?_⟩
  subst ha
  have h2 := h1 a rfl j v hj
  rw [← h2]
  refine World.cell?_of_block ?_
  rw [add_block]
  have h3 := cell_lt h2
  rw [add_block] at h3
  exact hT.block _ h3 (hx _ rfl)
theorem Bs.below {w w' : World} {u : Value} {xs : List Int} (h : Bs w u xs) (hb : Below w.heap.size w w') : Bs w' u xs := h.keep (X := None_) (Tr.of hb) (fun _ _ => id)
theorem Ob.keep {X : Nat → Prop} {w w' : World} {b : Nat} {v : Value} {xs : List Int} (h : Ob w b v xs) (hT : Tr X w w') (hx : ∀ b, v.ownBlock = some b → ¬ X b) : Ob w' b v xs := own_tr h hT hx
theorem Ob.below {w w' : World} {b : Nat} {v : Value} {xs : List Int} (h : Ob w b v xs) (hb : Below w.heap.size w w') : Ob w' b v xs := own_tr h (X := None_) (Tr.of hb) (fun _ _ => id)
theorem Bs.conv {w : World} {u : Value} {xs : List Int} (h : Bs w u xs) (h0 : xs ≠ []) : (convert 33 9 u).run Try.prog w = .ok (.string (strOfNums xs)) w := by
  obtain ⟨q, c, rfl, hn, h1⟩ := h
  cases q with
  | none => exact absurd (hn rfl).2 h0
  | some a =>
    have hl : 0 < xs.length := List.length_pos_iff.2 h0
    have hc : ∀ i, i < xs.length → w.cell? (a.add i) = some (.int .u8 (xs.getD i 0)) := fun i hi => h1 a rfl i _ (by unfold bv; rw [List.getElem?_map, List.getElem?_eq_getElem hi]; simp [List.getD_eq_getElem?_getD, hi])
    have hs : a.spot = none := by
      have h2 := hc 0 hl
      rw [show a.add 0 = a from by unfold Addr.add; rfl] at h2
      unfold World.cell? at h2
      split at h2
      · cases hs : a.spot with
        | none => rfl
        | some k => rw [hs] at h2; simp at h2
      · cases h2
    obtain ⟨g, o, s⟩ := a
    simp only at hs
    subst hs
    exact run_convert_bytes_arg (P := Try.prog) w 33 5 Try.underlying33 Try.underlying5 g o xs.length c xs rfl (fun i hi => by rw [← add_off]; exact hc i hi) 9 Try.underlying9
set_option maxRecDepth 100000 in
theorem append_nil {w : World} {base : Nat} {v : Value} {xs : List Int} (h : Ob w base v xs) : (Builtin.append_ #[33, 33] 33 #[v, .slice none 0 0]).run Try.prog w = .ok v w := by
  obtain ⟨i, hi⟩ : ∃ i, Try.prog.info? 5 = some i := ⟨_, rfl⟩
  rcases h.2 with ⟨rfl, h0⟩ | ⟨g, cap, cur, rfl, hb, hg, h2, h3, h4, h5⟩
  · simp [Builtin.append_, run_underlying Try.underlying33, sizeOf, typeInfo, hi, Builtin.lenOf, Builtin.firstCells]
  · simp [Builtin.append_, run_underlying Try.underlying33, sizeOf, typeInfo, hi, Builtin.lenOf, Builtin.firstCells, h2, storeCells]
set_option maxRecDepth 100000 in
set_option maxHeartbeats 4000000 in
theorem append_run {w : World} {base : Nat} {v u : Value} {xs ys : List Int} (h : Ob w base v xs) (hu : Bs w u ys) (hL : xs.length + ys.length ≤ 1000000000) (hb : base ≤ w.heap.size) :
    ∃ v' w', (Builtin.append_ #[33, 33] 33 #[v, u]).run Try.prog w = .ok v' w' ∧ Ob w' base v' (xs ++ ys) ∧ w.grownBy w' v.ownBlock ∧ (v'.ownBlock = v.ownBlock ∨ v'.ownBlock = some w.heap.size) := by
  obtain ⟨q, c, rfl, hn, h1⟩ := hu
  cases q with
  | none =>
    obtain ⟨rfl, rfl⟩ := hn rfl
    refine ⟨v, w, append_nil h, by rw [List.append_nil]; exact h, ⟨rfl, rfl, rfl, Nat.le_refl _, fun _ _ _ => rfl⟩, .inl rfl⟩
  | some a =>
    obtain ⟨v', w', hrun, ho, hg, -, hw⟩ := run_append_own_at (P := Try.prog) w base 33 33 5 _ _ 1 1 rfl rfl rfl rfl rfl rfl (by decide) v xs.length (bv xs) h a ys.length c (bv ys) (by rw [bv_len, Nat.mul_one]) (h1 a rfl) (fun u hu => by obtain ⟨x, _, rfl⟩ := List.mem_map.1 hu; rfl) (by simp only [maxLen]; omega) (by omega) hb
    refine ⟨v', w', hrun, ?_, hg, hw⟩
    unfold Ob
    rw [List.length_append, bv_app]
    exact ho
namespace K6
def InB (ks : List Nat) (g : Ghost) (b : Nat) : Prop := ∃ k ∈ ks, (g k).lo ≤ b ∧ b < (g k).hi
def OwnF (i : Nat) (ks : List Nat) (base : Nat) (zs : List Int) (g : Ghost) (w : World) : Prop := Ob w base (g i).v zs ∧ ∀ b, (g i).v.ownBlock = some b → InB (i :: ks) g b
def sQ (i : Nat) (ks D use kill : List Nat) (base : Nat) (zs : List Int) (p : Value → Prop) : Sp := (⟨i, D, use, kill, ks, i :: ks, false, false, false⟩, ⟨fun _ x => p x.v, OwnF i ks base zs, None_, None_⟩)
theorem ok_Q {w1 : World} {Z : Nat → Prop} {i : Nat} {ks D use kill : List Nat} {base : Nat} {zs : List Int} {p : Value → Prop} (hp : ∃ v, p v) (hks : ∀ k ∈ ks, k ∈ D) : OpOk w1 Z (sQ i ks D use kill base zs p) where
  some_ := fun _ => by obtain ⟨v, hv⟩ := hp; exact ⟨⟨v, w1.heap.size, w1.heap.size⟩, Nat.le_refl _, Nat.le_refl _, hv⟩
  depV := fun _ _ _ _ h => h
  depF := fun g g' hg w h => by
    have e : g' i = g i := hg i (.inl rfl)
    refine ⟨by rw [e]; exact h.1, fun b hb => ?_⟩
    rw [e] at hb
    obtain ⟨k, hk, h1⟩ := h.2 b hb
    refine ⟨k, hk, ?_⟩
    rcases List.mem_cons.1 hk with rfl | hk'
    · rw [e]; exact h1
    · rw [hg k (.inr (hks k hk'))]; exact h1
  loc := fun g w w' h hT => ⟨h.1.keep hT fun b hb hn => hn (.inr (.inr (h.2 b hb))), h.2⟩
  xo := fun _ h => h.elim
  lo := fun _ h => h.elim
theorem left_Qc {l : List Sp} {i : Nat} {D use kill : List Nat} {base : Nat} {zs : List Int} {p : Value → Prop} {s : Sh} (hl : look6 l s.i = (sQ i [] D use kill base zs p).2) (hs : s = (sQ i [] D use kill base zs p).1) {g : Ghost} {w w' : World} {v : Value}
    (ho : Ob w' w.heap.size v zs) (hb : Below w.heap.size w w') (hbase : base ≤ w.heap.size) (hp : p v) : Left (look6 l) s g w v w' := by
  unfold Left
  rw [hl]
  subst hs
  refine ⟨hp, Tr.of hb, ?_⟩
  show Ob w' base (gput g i _ i).v zs ∧ ∀ b, (gput g i _ i).v.ownBlock = some b → InB [i] (gput g i _) b
  rw [gput_self]
  refine ⟨ho.base hbase, fun b h => ⟨i, by simp, ?_⟩⟩
  rw [gput_self]
  exact ho.lt b h
theorem left_Qa {l : List Sp} {i : Nat} {ks D use kill : List Nat} {base : Nat} {zs : List Int} {p : Value → Prop} {s : Sh} (hl : look6 l s.i = (sQ i ks D use kill base zs p).2) (hs : s = (sQ i ks D use kill base zs p).1) (hik : i ∉ ks) {g : Ghost} {w w' : World} {v v' : Value}
    (hv : ∀ b, v.ownBlock = some b → InB ks g b) (hg : w.grownBy w' v.ownBlock) (ho : Ob w' base v' zs) (hw : v'.ownBlock = v.ownBlock ∨ v'.ownBlock = some w.heap.size) (hp : p v') : Left (look6 l) s g w v' w' := by
  unfold Left
  rw [hl]
  subst hs
  refine ⟨hp, ⟨hg.os, hg.tape, hg.output, hg.size, fun b hb hx => hg.block b hb fun hn => hx ?_⟩, ?_⟩
  · obtain ⟨k, hk, h1⟩ := hv b hn.symm
    exact .inr ⟨k, hk, h1⟩
  · show Ob w' base (gput g i _ i).v zs ∧ ∀ b, (gput g i _ i).v.ownBlock = some b → InB (i :: ks) (gput g i _) b
    rw [gput_self]
    refine ⟨ho, fun b h => ?_⟩
    rcases hw with h1 | h1
    · obtain ⟨k, hk, h2⟩ := hv b (h1 ▸ h)
      refine ⟨k, List.mem_cons_of_mem _ hk, ?_⟩
      rw [gput_ne (fun e : k = i => hik (e ▸ hk))]
      exact h2
    · have e : w.heap.size = b := Option.some.inj (h1.symm.trans h)
      refine ⟨i, List.mem_cons_self .., ?_⟩
      rw [gput_self]
      exact ⟨Nat.le_of_eq e, by subst e; exact (ho.lt _ h).2⟩
end K6
end Go.Proofs.Ytpdenhmkpiafiaa

namespace Go.Proofs.Ytpdenhmkpiafiaa
open Go Go.RowKit
end Go.Proofs.Ytpdenhmkpiafiaa
namespace Go.Proofs.Ytpdenhmkpiafiaa
open Go Go.RowKit K6
end Go.Proofs.Ytpdenhmkpiafiaa
namespace Go.Proofs.Ytpdenhmkpiafiaa
open Go Go.RowKit
end Go.Proofs.Ytpdenhmkpiafiaa
namespace Go.Proofs.Ytpdenhmkpiafiaa
open Go.ChangeShapes Go.WideShapes Go.ChangeAt Go.RowKit
theorem own : ownKnob Try.prog.godebug = none := by kernel_rfl
theorem laidOut : laidOutB Try.prog = true := by kernel_rfl
section
variable {H : Type} {enc : TypeId × Value → H} {P : Program}
theorem args_stay (hl : laidOutB P = true) {W W' : World} (hb : Below W.heap.size W W') : ∀ {ts : List TypeId} {vs : List Value} {ds : List (DataW H)} {ps : List MemPlace},
    (∀ t ∈ ts, P.readableRec t = true ∧ t < P.types.size) → DataW.TrodAll enc P W 0 (fun _ => true) true ts vs ds ps → (∀ p ∈ ps, p.block < W.heap.size) →
    DataW.TrodAll enc P W' 0 (fun b => decide (b < W.heap.size)) true ts vs ds ps
  | [], vs, ds, ps, _, h, _ => by
    obtain ⟨rfl, rfl, rfl⟩ := trodAll_nil h
    exact trodAll_mk0
  | t :: ts, vs, ds, ps, hr, h, hlt => by
    obtain ⟨v, vs', d, ds', p, q, rfl, rfl, rfl, h0, h1⟩ := trodAll_cons h
    have ht := hr t (List.mem_cons_self ..)
    exact trodAll_cons_mk (Below.trod hl ht.1 ht.2 h0 hb fun x hx => hlt x (List.mem_append_left _ hx))
      (args_stay hl hb (fun t ht => hr t (List.mem_cons_of_mem _ ht)) h1 fun x hx => hlt x (List.mem_append_right _ hx))
theorem law_post (hl : laidOutB P = true) (h4 : P.underlying 4 = some .bool) {f : Func} {s : ChangeSpec} {W W' : World} {args : Array Value} {ds gs : List (DataW H)} {before : List MemPlace}
    (hW : DataW.Whole enc P f.params.toList s.vars false W args.toList ds gs before) (hv : s.vars = []) (hfn : s.fn H (ds ++ gs) = { results := [.lit (.bool true)], args := ds }) (hres : f.resultTypes = #[4])
    (hr : ∀ t ∈ f.params.toList, P.readableRec t = true ∧ t < P.types.size) (hb : Below W.heap.size W W') : s.post enc P f false true false false W args (.bool true) W' := by
  have hlt := hW.lt
  have hW' := hW
  obtain ⟨p, q, hA, hV, rfl, _, _⟩ := hW
  rw [hv] at hV
  obtain ⟨rfl, rfl⟩ := trodVars_none hV
  simp only [List.append_nil] at hfn hlt
  refine ⟨ds, [], p ++ [], [], p, [], hW', ?_, ?_, ?_, hb.frame _, fun h => by cases h⟩
  · simp only [List.append_nil]
    rw [hfn, hres]
    exact trodAll_cons_mk (p := []) (shut_bool h4 true) trodAll_mk0
  · simp only [List.append_nil]
    rw [hfn]
    exact args_stay hl hb hr hA hlt
  · simp only [List.append_nil]
    rw [hfn, hv]
    rfl
end
theorem bounds64 {x : Int} (h : (Lit.int .u64 x).wf = true) : 0 ≤ x ∧ x < 18446744073709551616 := by
  have h1 : IntKind.u64.min = 0 := by decide
  have h2 : IntKind.u64.max = 18446744073709551615 := by decide
  simp [Lit.wf, h1, h2] at h
  omega
end Go.Proofs.Ytpdenhmkpiafiaa
namespace Go.Proofs.Ytpdenhmkpiafiaa
open Go Go.RowKit K6
def W4 (n : Nat) : Array Value := #[.int .u64 (wordsOf n 0), .int .u64 (wordsOf n 1), .int .u64 (wordsOf n 2), .int .u64 (wordsOf n 3)]
theorem W4_size (n : Nat) : (W4 n).size = 4 := rfl
theorem W4_eq {x0 x1 x2 x3 : Int} {n : Nat} (h : IsW x0 x1 x2 x3 n) : #[Value.int .u64 x0, .int .u64 x1, .int .u64 x2, .int .u64 x3] = W4 n := by
  obtain ⟨rfl, rfl, rfl, rfl⟩ := h.uniq (wordsOf_isW n h.ltM)
  rfl
theorem W4_zero : #[Value.int .u64 0, .int .u64 0, .int .u64 0, .int .u64 0] = W4 0 := W4_eq isW_zero
theorem W4_inj {a b : Nat} (ha : a < M) (hb : b < M) (h : W4 a = W4 b) : a = b := by
  unfold W4 at h
  have h0 : wordsOf a 0 = wordsOf b 0 ∧ wordsOf a 1 = wordsOf b 1 ∧ wordsOf a 2 = wordsOf b 2 ∧ wordsOf a 3 = wordsOf b 3 := by simpa using h
  have h1 := (wordsOf_isW a ha).lin
  have h2 := (wordsOf_isW b hb).lin
  obtain ⟨e0, e1, e2, e3⟩ := h0
  rw [e0, e1, e2, e3] at h1
  have := h1.1.trans h2.1.symm
  omega
theorem eqU {a b : Nat} (ha : a < M) (hb : b < M) (w : World) : (Op.equalIn 10000 31 (.agg (W4 a)) (.agg (W4 b))).run Try.prog w = .ok (decide (a = b)) w := by
  unfold W4
  rw [eq31]
  congr 1
  rw [Bool.eq_iff_iff]
  simp only [Bool.and_eq_true, beq_iff_eq, decide_eq_true_eq]
  constructor
  · rintro ⟨h0, h1, h2, h3⟩
    exact W4_inj ha hb (by unfold W4; rw [h0, h1, h2, h3])
  · rintro rfl; exact ⟨rfl, rfl, rfl, rfl⟩
def Ret (w : World) (v : Value) (e : Ending) (w' : World) : Prop := e = .returned v ∧ Below w.heap.size w w'
theorem pair_ret {w : World} {n : Nat} {ok : Bool} {e : Ending} {w' : World} (h : Pair w n ok e w') : Ret w (.tuple #[.agg (W4 n), .bool ok]) e w' := by
  obtain ⟨x0, x1, x2, x3, rfl, hx, hb⟩ := h
  exact ⟨by rw [W4_eq hx], hb⟩
theorem bitsU {a : Nat} (ha : a < M) (w : World) : Calls Try.prog 49 #[.agg (W4 a)] w (Ret w (.int .i64 (blen a))) :=
  bits_any _ _ _ _ a (wordsOf_isW a ha) w
theorem bytesU {a : Nat} (ha : a < M) (w : World) : Calls Try.prog 82 #[.agg (W4 a)] w (Bytes32 w a) := bytes_any _ _ _ _ a (wordsOf_isW a ha) w
end Go.Proofs.Ytpdenhmkpiafiaa
namespace Go.Proofs.Ytpdenhmkpiafiaa
open Go.ChangeShapes Go.WideShapes Go.ChangeAt Go.RowKit
theorem int_hi {m : Int} (h : (Lit.int .i64 m).wf = true) : m < 9223372036854775808 := by
  have h1 : IntKind.i64.min = -9223372036854775808 := by decide
  have h2 : IntKind.i64.max = 9223372036854775807 := by decide
  simp [Lit.wf, h1, h2] at h
  omega
theorem int_lo {m : Int} (h : (Lit.int .i64 m).wf = true) : -9223372036854775808 ≤ m := by
  have h1 : IntKind.i64.min = -9223372036854775808 := by decide
  have h2 : IntKind.i64.max = 9223372036854775807 := by decide
  simp [Lit.wf, h1, h2] at h
  omega
theorem cells5' : Try.prog.cellsOf 5 = 1 := by kernel_rfl
theorem bounds8' {x : Int} (h : (Lit.int .u8 x).wf = true) : 0 ≤ x ∧ x < 256 := by
  have h1 : IntKind.u8.min = 0 := by decide
  have h2 : IntKind.u8.max = 255 := by decide
  simp [Lit.wf, h1, h2] at h
  omega
set_option maxRecDepth 100000 in
theorem open_S {H : Type} {enc : TypeId × Value → H} {W : World} {base b0 : Nat} {r : Reach} {held : Bool} {v : Value} {d : DataW H} {p : List MemPlace}
    (hval : Value.okWide Try.prog W r b0 33 v) (h : DataW.Trod enc Try.prog W base (fun _ => true) held 33 v d p) :
    ∃ (q : Option Addr) (c : Nat) (xs : List Int), v = .slice q xs.length c ∧ Bs W v xs ∧ (∀ x ∈ xs, 0 ≤ x ∧ x < 256) := by
  obtain ⟨q, n, c, rfl⟩ := okWide_slice Try.underlying33 hval
  obtain ⟨fuel, hf⟩ := h
  rcases open_ints Try.underlying33 Try.underlying5 cells5' hf with ⟨hc, hx⟩ | ⟨a, len, cap, zs, hc, _, hle, hmax, hlen, hx, hcell, hwf⟩
  · simp [Value.cells] at hc
    obtain ⟨rfl, rfl, rfl⟩ := hc
    exact ⟨none, 0, [], rfl, Bs.nil W, fun x hx => (by cases hx)⟩
  · simp [Value.cells] at hc
    obtain ⟨rfl, rfl, rfl⟩ := hc
    have hl2 : zs.length = c := by simpa using hlen
    have e : (zs.take n).length = n := by rw [List.length_take]; omega
    refine ⟨some a, c, zs.take n, by rw [e], ⟨some a, c, by rw [e], (fun h => (by cases h)), fun p hp j u hj => ?_⟩, fun x hx => bounds8' (hwf x (List.mem_of_mem_take hx))⟩
    cases hp
    unfold bv at hj
    rw [List.getElem?_map, List.getElem?_take] at hj
    split at hj
    · rename_i hjn
      have hjl : j < zs.length := by omega
      rw [List.getElem?_eq_getElem hjl] at hj
      cases hj
      rw [hcell j hjl, List.getD_eq_getElem?_getD, List.getElem?_eq_getElem hjl]
      rfl
    · cases hj
end Go.Proofs.Ytpdenhmkpiafiaa
namespace Go.Proofs.Ytpdenhmkpiafiaa
open Go.ChangeShapes Go.WideShapes Go.ChangeAt Go.RowKit K6
theorem spot_noneV {w : World} {a : Addr} {v : Value} (h : w.cell? a = some v) : a.spot = none ∧ a.block < w.heap.size := by
  unfold World.cell? at h
  split at h
  · rename_i c e f hc
    refine ⟨?_, (Array.getElem?_eq_some_iff.1 hc).1⟩
    cases hs : a.spot with
    | none => rfl
    | some k => rw [hs] at h; simp at h
  · cases h
theorem add_plainV {a : Addr} (h : a.spot = none) (i : Nat) : a.add i = ⟨a.block, a.off + i, none⟩ := by
  obtain ⟨b, o, s⟩ := a
  simp only at h
  subst h
  unfold Addr.add
  split <;> simp_all
theorem spot_of_addV {a : Addr} (h : (a.add 0).spot = none) : a.spot = none := by
  unfold Addr.add at h
  simpa using h
structure Vl where
  k : Int
  n : Int
  a : Nat
  v : Value
  b : List Int
instance : Inhabited Vl := ⟨⟨0, 0, 0, .slice none 0 0, []⟩⟩
theorem trod_struct4 {H : Type} {enc : TypeId × Value → H} {P : Program} {w : World} {base : Nat} {spare : Nat → Bool} {held : Bool} {t : TypeId} {f0 f1 f2 f3 : Field} {fuel : Nat} {cs : List Value} {x : DataW H × List MemPlace} (ht : P.underlying t = some (.struct #[f0, f1, f2, f3])) (h : DataW.trod enc P w base spare held fuel t cs = some x) :
    ∃ y0 y1 y2 y3 n, DataW.trod enc P w base spare held n f0.type ((cs.drop f0.offset).take (P.cellsOf f0.type)) = some y0 ∧ DataW.trod enc P w base spare held n f1.type ((cs.drop f1.offset).take (P.cellsOf f1.type)) = some y1 ∧
      DataW.trod enc P w base spare held n f2.type ((cs.drop f2.offset).take (P.cellsOf f2.type)) = some y2 ∧ DataW.trod enc P w base spare held n f3.type ((cs.drop f3.offset).take (P.cellsOf f3.type)) = some y3 := by
  obtain ⟨xs, n, _, rfl, hl, hlen, hf⟩ := DataW.trod_struct ht h
  match xs, hlen with
  | [y0, y1, y2, y3], _ => exact ⟨y0, y1, y2, y3, n, by simpa using hf 0 f0 rfl, by simpa using hf 1 f1 rfl, by simpa using hf 2 f2 rfl, by simpa using hf 3 f3 rfl⟩
theorem cells3V : Try.prog.cellsOf 3 = 1 := by kernel_rfl
theorem cells31V : Try.prog.cellsOf 31 = 4 := by kernel_rfl
set_option maxRecDepth 100000 in
theorem words_V {H : Type} {enc : TypeId × Value → H} {w : World} {base : Nat} {spare : Nat → Bool} {held : Bool} {n : Nat} {cs : List Value} {y : DataW H × List MemPlace} (hl : cs.length = 4)
    (h : DataW.trod enc Try.prog w base spare held n 31 cs = some y) : ∃ a, cs = (W4 a).toList ∧ a < M := by
  match cs, hl with
  | [c0, c1, c2, c3], _ =>
    obtain ⟨y0, y1, y2, y3, m, _, h0, h1, h2, h3⟩ := trod_array4 Try.underlying31 cells29 h
    obtain ⟨x0, e0, _, w0⟩ := DataW.trod_int Try.underlying29 h0
    obtain ⟨x1, e1, _, w1⟩ := DataW.trod_int Try.underlying29 h1
    obtain ⟨x2, e2, _, w2⟩ := DataW.trod_int Try.underlying29 h2
    obtain ⟨x3, e3, _, w3⟩ := DataW.trod_int Try.underlying29 h3
    simp only [List.cons.injEq, and_true] at e0 e1 e2 e3
    subst e0 e1 e2 e3
    have b0 := bounds64 w0
    have b1 := bounds64 w1
    have b2 := bounds64 w2
    have b3 := bounds64 w3
    obtain ⟨k, hk⟩ : ∃ k, IsW x0 x1 x2 x3 k := ⟨_, IsW.mk' (Int.toNat_of_nonneg (by omega)) b0 b1 b2 b3⟩
    exact ⟨k, by rw [← W4_eq hk], hk.ltM⟩
end Go.Proofs.Ytpdenhmkpiafiaa
namespace Go.Proofs.Ytpdenhmkpiafiaa
open Go Go.RowKit K6
def uw (l : List Nat) : List Value := l.flatMap fun a => (W4 a).toList
theorem uw_len (l : List Nat) : (uw l).length = l.length * 4 := by
  unfold uw
  induction l with
  | nil => rfl
  | cons a l ih => rw [List.flatMap_cons, List.length_append, ih, List.length_cons, show (W4 a).toList.length = 4 from rfl]; omega
theorem uw_app (l k : List Nat) : uw (l ++ k) = uw l ++ uw k := List.flatMap_append
theorem uw_get (l : List Nat) (i j : Nat) (hi : i < l.length) (hj : j < 4) : (uw l)[i * 4 + j]? = (W4 (l[i]))[j]? := by
  induction l generalizing i with
  | nil => exact absurd hi (Nat.not_lt_zero _)
  | cons a l ih =>
    have hl4 : (W4 a).toList.length = 4 := rfl
    show ((W4 a).toList ++ uw l)[i * 4 + j]? = _
    match i, hi with
    | 0, _ =>
      rw [List.getElem?_append_left (by rw [hl4]; omega), Nat.zero_mul, Nat.zero_add]
      simp
    | i + 1, hi =>
      rw [List.getElem?_append_right (by rw [hl4]; omega), hl4, show (i + 1) * 4 + j - 4 = i * 4 + j by omega, ih i (by simpa using hi)]
      rfl
def Oe (w : World) (base : Nat) (v : Value) (l : List Nat) : Prop := w.ownsRow base 31 4 v l.length (uw l)
def Us (w : World) (u : Value) (l : List Nat) : Prop := ∃ q c, u = .slice q l.length c ∧ (q = none → c = 0 ∧ l = []) ∧ ∀ a, q = some a → ∀ j v, (uw l)[j]? = some v → w.cell? (a.add j) = some v
theorem Oe.base {w : World} {b b' : Nat} {v : Value} {l : List Nat} (h : Oe w b v l) (hb : b' ≤ b) : Oe w b' v l := by
  refine ⟨h.1, ?_⟩
  rcases h.2 with h0 | ⟨g, cap, cur, rfl, h1, rest⟩
  · exact .inl h0
  · exact .inr ⟨g, cap, cur, rfl, Nat.le_trans hb h1, rest⟩
theorem Oe.nil (w : World) (b : Nat) : Oe w b (.slice none 0 0) [] := ⟨rfl, .inl ⟨rfl, rfl⟩⟩
theorem Us.nil (w : World) : Us w (.slice none 0 0) [] := ⟨none, 0, rfl, fun _ => ⟨rfl, rfl⟩, fun _ ha => (by cases ha)⟩
theorem Oe.us {w : World} {b : Nat} {v : Value} {l : List Nat} (h : Oe w b v l) : Us w v l := by
  rcases h.2 with ⟨rfl, h0⟩ | ⟨g, cap, cur, rfl, h1, hg, h2, h3, h4, h5⟩
  · obtain rfl : l = [] := List.eq_nil_of_length_eq_zero h0
    exact Us.nil w
  · refine ⟨some ⟨g, 0, none⟩, cap, rfl, (fun h => (by cases h)), fun a ha j u hj => ?_⟩
    cases ha
    exact World.ownsRow.cells h (g := g) rfl j u hj
theorem Us.keep {X : Nat → Prop} {w w' : World} {u : Value} {l : List Nat} (h : Us w u l) (hT : Tr X w w') (hx : ∀ b, u.ownBlock = some b → ¬ X b) : Us w' u l := by
  obtain ⟨q, c, rfl, h0, h1⟩ := h
  refine ⟨q, c, rfl, h0, fun a ha j v hj => ?_⟩
  subst ha
  have h2 := h1 a rfl j v hj
  rw [← h2]
  refine World.cell?_of_block ?_
  rw [add_block]
  have h3 := cell_lt h2
  rw [add_block] at h3
  exact hT.block _ h3 (hx _ rfl)
theorem Us.below {w w' : World} {u : Value} {l : List Nat} (h : Us w u l) (hb : Below w.heap.size w w') : Us w' u l := h.keep (X := None_) (Tr.of hb) (fun _ _ => id)
theorem Oe.keep {X : Nat → Prop} {w w' : World} {b : Nat} {v : Value} {l : List Nat} (h : Oe w b v l) (hT : Tr X w w') (hx : ∀ b, v.ownBlock = some b → ¬ X b) : Oe w' b v l := own_tr h hT hx
theorem Oe.below {w w' : World} {b : Nat} {v : Value} {l : List Nat} (h : Oe w b v l) (hb : Below w.heap.size w w') : Oe w' b v l := own_tr h (X := None_) (Tr.of hb) (fun _ _ => id)
theorem Us.at_ {w : World} {u : Value} {l : List Nat} (h : Us w u l) {i : Nat} (hi : i < l.length) : ∃ g o c, u = .slice (some ⟨g, o, none⟩) l.length c ∧ g < w.heap.size ∧ ∀ i (hi : i < l.length) j v, (W4 (l[i])).toList[j]? = some v → w.cell? ⟨g, o + i * 4 + j, none⟩ = some v := by
  obtain ⟨q, c, rfl, h0, h1⟩ := h
  cases q with
  | none => rw [(h0 rfl).2] at hi; exact absurd hi (Nat.not_lt_zero _)
  | some a =>
    have hc : ∀ i (hi : i < l.length) j v, (W4 (l[i])).toList[j]? = some v → w.cell? (a.add (i * 4 + j)) = some v := fun i hi j v hj => by
      have hj4 : j < 4 := (List.getElem?_eq_some_iff.1 hj).1
      refine h1 a rfl _ _ ?_
      rw [uw_get l i j hi hj4, ← hj]
      simp
    have h2 := hc 0 (by omega) 0 _ rfl
    rw [show a.add (0 * 4 + 0) = a from by unfold Addr.add; rfl] at h2
    have h3 := cell_lt h2
    have hs : a.spot = none := by
      unfold World.cell? at h2
      split at h2
      · cases hs : a.spot with
        | none => rfl
        | some k => rw [hs] at h2; simp at h2
      · cases h2
    obtain ⟨g, o, s⟩ := a
    simp only at hs
    subst hs
    refine ⟨g, o, c, rfl, h3, fun i hi j v hj => ?_⟩
    rw [Nat.add_assoc, ← add_off]
    exact hc i hi j v hj
namespace K6
def sPz (i : Nat) (D use : List Nat) (base e z : Nat) (v : Value) (n : Nat) (zs : List Value) : Sp :=
  (⟨i, D, use, [], [], [i], false, true, true⟩, ⟨fun _ x => Grew v x ∧ ∃ q m c, x.v = .slice q m c, fun g w => Grew v (g i) ∧ w.ownsRow base e z (g i).v n zs, fun b => v.ownBlock = some b, fun b => v.ownBlock = some b⟩)
theorem own_trz {X : Nat → Prop} {w w' : World} {base e z n : Nat} {v : Value} {zs : List Value} (h : w.ownsRow base e z v n zs) (hT : Tr X w w') (hx : ∀ b, v.ownBlock = some b → ¬ X b) : w'.ownsRow base e z v n zs := own_tr h hT hx
theorem ok_Pz {w1 : World} {Z : Nat → Prop} {i : Nat} {D use : List Nat} {base e z : Nat} {v : Value} {n : Nat} {zs : List Value} (hsl : ∃ q m c, v = .slice q m c) (hv : ∀ b, v.ownBlock = some b → Z b ∧ b < w1.heap.size) : OpOk w1 Z (sPz i D use base e z v n zs) where
  some_ := fun _ => ⟨⟨v, w1.heap.size, w1.heap.size⟩, Nat.le_refl _, Nat.le_refl _, .inl rfl, hsl⟩
  depV := fun _ _ _ _ h => h
  depF := fun g g' hg w h => by
    show Grew v (g' i) ∧ w.ownsRow base e z (g' i).v n zs
    rw [hg i (.inl rfl)]; exact h
  loc := fun g w w' h hT => by
    refine ⟨h.1, own_trz h.2 hT fun b hb hn => hn ?_⟩
    rcases h.1 with h1 | ⟨h1, h2⟩
    · rw [h1] at hb; exact .inr (.inl hb)
    · rw [h1] at hb
      cases hb
      exact .inr (.inr ⟨i, by simp [sPz], Nat.le_refl _, h2⟩)
  xo := fun b hb => ⟨rfl, hv b hb⟩
  lo := fun b hb => ⟨rfl, (hv b hb).2⟩
theorem left_Pz {l : List Sp} {i : Nat} {D use : List Nat} {base e z : Nat} {v : Value} {n : Nat} {zs : List Value} {s : Sh} (hl : look6 l s.i = (sPz i D use base e z v n zs).2) (hs : s = (sPz i D use base e z v n zs).1) {g : Ghost} {w w' : World} {v' : Value}
    (hg : w.grownBy w' v.ownBlock) (ho : w'.ownsRow base e z v' n zs) (hlt : ∀ b, v'.ownBlock = some b → b < w'.heap.size) (hw : v'.ownBlock = v.ownBlock ∨ v'.ownBlock = some w.heap.size) : Left (look6 l) s g w v' w' := by
  have hG : Grew v ⟨v', w.heap.size, w'.heap.size⟩ := by
    rcases hw with h | h
    · exact .inl h
    · exact .inr ⟨h, hlt _ h⟩
  unfold Left
  rw [hl]
  subst hs
  have hsl : ∃ q m c, v' = .slice q m c := by
    rcases ho.2 with ⟨rfl, -⟩ | ⟨g, cap, cur, rfl, -⟩
    · exact ⟨_, _, _, rfl⟩
    · exact ⟨_, _, _, rfl⟩
  refine ⟨⟨hG, hsl⟩, ⟨hg.os, hg.tape, hg.output, hg.size, fun b hb hx => hg.block b hb fun hn => hx (.inl (by rw [hl]; exact hn.symm))⟩, ?_⟩
  show Grew v (gput g i _ i) ∧ w'.ownsRow base e z (gput g i _ i).v n zs
  rw [gput_self]
  exact ⟨hG, ho⟩
end K6
theorem Oe.lt {w : World} {base : Nat} {v : Value} {l : List Nat} (h : Oe w base v l) (b : Nat) (hb : v.ownBlock = some b) : base ≤ b ∧ b < w.heap.size := by
  rcases h.2 with ⟨rfl, -⟩ | ⟨g, cap, cur, rfl, h1, hg, -⟩
  · cases hb
  · have h2 : some g = some b := hb
    injection h2 with h2
    subst h2
    exact ⟨h1, (Array.getElem?_eq_some_iff.1 hg).1⟩
end Go.Proofs.Ytpdenhmkpiafiaa
namespace Go.Proofs.Ytpdenhmkpiafiaa
open Go Go.RowKit K6 Ref
namespace K6
def sL (i t : Nat) (kill : List Nat) (n : Nat) (cs : Array Value) : Sp := (⟨i, [], [], kill, [], [i], false, false, false⟩, ⟨fun _ x => x.v = .slice (some ⟨x.lo, 0, none⟩) n n ∧ x.hi = x.lo + 1, fun g w => (g i).hi = (g i).lo + 1 ∧ Row w (g i).lo t cs, None_, None_⟩)
theorem ok_L {w1 : World} {Z : Nat → Prop} {i t n : Nat} {kill : List Nat} {cs : Array Value} : OpOk w1 Z (sL i t kill n cs) where
  some_ := fun _ => ⟨⟨.slice (some ⟨w1.heap.size, 0, none⟩) n n, w1.heap.size, w1.heap.size + 1⟩, Nat.le_refl _, Nat.le_succ _, rfl, rfl⟩
  depV := fun _ _ _ _ h => h
  depF := fun g g' hg w h => by show (g' i).hi = (g' i).lo + 1 ∧ Row w (g' i).lo t cs; rw [hg i (.inl rfl)]; exact h
  loc := fun g w w' h hT => ⟨h.1, Row.tr h.2 hT fun hn => hn (.inr (.inr ⟨i, by simp [sL], Nat.le_refl _, by have : (g i).hi = (g i).lo + 1 := h.1; omega⟩))⟩
  xo := fun _ h => h.elim
  lo := fun _ h => h.elim
theorem left_L {l : List Sp} {i t n : Nat} {kill : List Nat} {cs : Array Value} {s : Sh} (hl : look6 l s.i = (sL i t kill n cs).2) (hs : s = (sL i t kill n cs).1) {g : Ghost} {w : World} : Left (look6 l) s g w (.slice (some ⟨w.heap.size, 0, none⟩) n n) (w.alloc (.cells cs t)) := by
  unfold Left
  rw [hl]
  subst hs
  refine ⟨⟨rfl, by simp⟩, Tr.of ((Below.refl _ _).alloc (Nat.le_refl _) _), ?_⟩
  show (gput g i _ i).hi = (gput g i _ i).lo + 1 ∧ Row _ (gput g i _ i).lo t cs
  rw [gput_self]
  exact ⟨by simp, Row.new_at rfl⟩
end K6
def d32 (a j : Nat) : Nat := a / 2 ^ (32 * j) % 2 ^ 32
def ofV (a i : Nat) : List Value := (List.range (2 * i)).map fun j => .int .u32 ((d32 a j : Nat) : Int)
theorem Sl_own {w : World} {base n : Nat} {v : Value} {xs : List Nat} (h : w.ownsRow base 181 1 v n (xs.map fun x => .int .u32 ((x : Nat) : Int))) (hn : n = xs.length) : Sl w v xs := by
  subst hn
  rcases h.2 with ⟨rfl, h0⟩ | ⟨g, cap, cur, rfl, hb, hg, h1, h2, h3, h4⟩
  · exact ⟨none, 0, by rw [h0], by omega, (fun _ => rfl), fun a ha => (by cases ha)⟩
  · refine ⟨_, _, rfl, h1, (fun h => (by cases h)), fun a ha => ?_⟩
    cases ha
    refine ⟨g, 0, rfl, (Array.getElem?_eq_some_iff.1 hg).1, fun i hi => ?_⟩
    have h5 := h.cells (g := g) rfl i (.int .u32 ((dg xs i : Nat) : Int)) (by rw [List.getElem?_map, dg_some hi]; rfl)
    have hadd : (⟨g, 0, none⟩ : Addr).add i = ⟨g, 0 + i, none⟩ := by unfold Addr.add; split <;> simp_all
    rw [hadd] at h5
    exact h5
theorem val_d32 (a k : Nat) : val ((List.range k).map (d32 a)) = a % 2 ^ (32 * k) := by
  induction k with
  | zero => simp [val, Nat.mod_one]
  | succ k ih =>
    rw [List.range_succ, List.map_append, val_append, ih, List.length_map, List.length_range, show 32 * (k + 1) = 32 * k + 32 by omega, Nat.pow_add, Nat.mod_mul, show B ^ k = 2 ^ (32 * k) by rw [Nat.pow_mul]]
    simp [val, d32]
theorem dig_d32 (a k : Nat) : Dig ((List.range k).map (d32 a)) := by
  intro x hx
  obtain ⟨j, _, rfl⟩ := List.mem_map.1 hx
  exact Nat.mod_lt _ (by decide)
theorem ofV_map (a i : Nat) : ofV a i = ((List.range (2 * i)).map (d32 a)).map fun x => .int .u32 ((x : Nat) : Int) := by
  unfold ofV
  rw [List.map_map]
  rfl
theorem ofV_succ (a i : Nat) : ofV a (i + 1) = ofV a i ++ [.int .u32 ((d32 a (2 * i) : Nat) : Int), .int .u32 ((d32 a (2 * i + 1) : Nat) : Int)] := by
  unfold ofV
  rw [show 2 * (i + 1) = 2 * i + 1 + 1 by omega, List.range_succ, List.range_succ]
  simp
theorem lo32 (a i : Nat) : IntKind.u32.wrap (wordsOf a i) = ((d32 a (2 * i) : Nat) : Int) := by
  unfold wordsOf d32
  rw [show 32 * (2 * i) = 64 * i by omega, IntKind.wrap_u32]
  have : a / 2 ^ (64 * i) % 2 ^ 64 % 2 ^ 32 = a / 2 ^ (64 * i) % 2 ^ 32 := Nat.mod_mod_of_dvd _ (by decide)
  rw [← this]
  omega
theorem hi32 (a i : Nat) : IntKind.u32.wrap (wordsOf a i / 4294967296) = ((d32 a (2 * i + 1) : Nat) : Int) := by
  unfold wordsOf d32
  rw [show 32 * (2 * i + 1) = 64 * i + 32 by omega, Nat.pow_add, ← Nat.div_div_eq_div_mul, IntKind.wrap_u32]
  generalize a / 2 ^ (64 * i) = x
  omega
set_option maxRecDepth 100000 in
set_option maxHeartbeats 4000000 in
theorem of164 (a : Nat) (ha : a < M) (w : World) :
    Calls Try.prog 164 #[.agg (W4 a)] w fun e w' => ∃ v, e = .returned v ∧ Sl w' v (digs a) ∧ Below w.heap.size w w' := by
  go_enter Try.func164, Try.ntmps164
  go_wp2_with fail
  go_loopg [3, 4] 4 (fun gg s3 s4 wr => ∃ i, i + gg = 4 ∧ s4 = .int .i64 ((i : Nat) : Int) ∧ Below w.heap.size w wr ∧ Row wr w.heap.size 31 (W4 a) ∧ wr.ownsRow (w.heap.size + 1) 181 1 s3 (2 * i) (ofV a i))
  case atStart => exact ⟨0, rfl, rfl, by go_grown, Row.new_at rfl, by simp [ofV, World.ownsRow]⟩
  case round =>
    obtain ⟨i, hi, rfl, hl, r0, ho⟩ := hrel
    by_cases hlt : i < 4
    · have H := Lib.hid (show _ ∧ _ ∧ _ from ⟨hl, r0, ho⟩)
      clear hl r0 ho
      have hd : decide ((i : Int) < 4) = true := by simp; omega
      go_upto_region 5 with (fail)
      obtain ⟨hl, r0, ho⟩ := H.out
      refine wp_abs (fun w5 => Below w.heap.size w w5 ∧ Row w5 w.heap.size 31 (W4 a) ∧ w5.ownsRow (w.heap.size + 1) 181 1 u3 (2 * i) (ofV a i)) ⟨hl, r0, ho⟩ ?_
      clear hl r0 ho H
      rintro w5 ⟨hl, r0, ho⟩
      obtain ⟨x0, hx0⟩ : ∃ x, IntKind.u32.wrap (wordsOf a i) = x := ⟨_, rfl⟩
      obtain ⟨x1, hx1⟩ : ∃ x, IntKind.u32.wrap (wordsOf a i / 4294967296) = x := ⟨_, rfl⟩
      have hI : (i : Int) < 4 := by omega
      have hown : ∀ b, u3.ownBlock = some b → u3.ownBlock = some b ∧ b < w5.heap.size := fun b hb => ⟨hb, (ho.lt b hb).2⟩
      let L : List Sp := [sL 10 181 [] 2 #[.int .u32 (x0), .int .u32 (x1)], sP 11 [10] [10] (w.heap.size + 1) 181 u3 (2 * i + 2) (ofV a (i + 1))]
      refine wp_region_six (shs L) (look6 L) (fun b => u3.ownBlock = some b) (by kernel_rfl) (by kernel_rfl) (mk_St L [11] [11] (by kernel_rfl) (by kernel_rfl) ⟨ok_L, ok_P hown, trivial⟩ (by simp)) ?_
      intro QQ hQ
      refine stepK rfl (by kernel_rfl) (fun K hK => ?_); go_simp
      apply Exists.intro; apply And.intro; (focus (intro wk hk; go_simp; exact ⟨rfl, rfl⟩)); refine hK _ _ ?_; clear hK K
      refine stepK rfl (by kernel_rfl) (fun K hK => ?_); go_simp
      apply Exists.intro; apply And.intro; (focus (intro wk hk; go_simp; exact ⟨rfl, rfl⟩)); refine hK _ _ ?_; clear hK K
      refine stepK rfl (by kernel_rfl) (fun K hK => ?_); go_simp
      apply Exists.intro; apply And.intro; (focus (intro wk hk; go_simp; exact ⟨rfl, rfl⟩)); refine hK _ _ ?_; clear hK K
      refine stepK rfl (by kernel_rfl) (fun K hK => ?_); go_simp
      apply Exists.intro; apply And.intro; (focus (intro wk hk; have cc := (K6.Row.tr r0 hk.undrew id).at_ i (by omega); go_simp; exact ⟨rfl, rfl⟩)); refine hK _ _ ?_; clear hK K
      refine stepK rfl (by kernel_rfl) (fun K hK => ?_); go_simp
      apply Exists.intro; apply And.intro; (focus (intro wk hk; go_simp; exact ⟨rfl, rfl⟩)); refine hK _ _ ?_; clear hK K
      refine stepK rfl (by kernel_rfl) (fun K hK => ?_); go_simp
      apply Exists.intro; apply And.intro; (focus (intro wk hk; go_simp; exact ⟨rfl, rfl⟩)); refine hK _ _ ?_; clear hK K
      refine stepK rfl (by kernel_rfl) (fun K hK => ?_); go_simp
      apply Exists.intro; apply And.intro; (focus (intro wk hk; go_simp; exact ⟨rfl, rfl⟩)); refine hK _ _ ?_; clear hK K
      refine stepK rfl (by kernel_rfl) (fun K hK => ?_); go_simp
      apply Exists.intro; apply And.intro; (focus (intro wk hk; have cc := (K6.Row.tr r0 hk.undrew id).at_ i (by omega); go_simp; exact ⟨rfl, rfl⟩)); refine hK _ _ ?_; clear hK K
      refine stepK rfl (by kernel_rfl) (fun K hK => ?_); go_simp
      apply Exists.intro; apply And.intro; (focus (intro wk hk; go_simp; exact ⟨rfl, rfl⟩)); refine hK _ _ ?_; clear hK K
      refine stepK rfl (by kernel_rfl) (fun K hK => ?_); go_simp
      apply Exists.intro; apply And.intro; (focus (intro wk hk; go_simp; exact ⟨rfl, rfl⟩)); refine hK _ _ ?_; clear hK K
      refine stepS _ rfl (by kernel_rfl) (fun K hK => ?_); go_simp
      refine ⟨?_, ?_⟩
      · intro wk hk hg hu; go_simp; exact left_L rfl rfl
      rintro ⟨v10, lo10, hi10⟩ hlo10 hhi10 ⟨e10, f10⟩
      replace e10 : v10 = .slice (some ⟨lo10, 0, none⟩) 2 2 := e10; replace f10 : hi10 = lo10 + 1 := f10; replace hlo10 : _ ≤ lo10 := hlo10; subst e10; subst f10
      refine hK _ _ ?_; clear hK K
      refine stepS _ rfl (by kernel_rfl) (fun K hK => ?_); go_simp
      refine ⟨?_, ?_⟩
      · intro wk hk hg hu; have u10 := hu 10 (show 10 ∈ [10] by decide); have r10 : Row wk lo10 181 #[.int .u32 x0, .int .u32 x1] := u10.2; have how := own_tr ho hk.undrew (fun _ _ => id); obtain ⟨v2, w2, hrun, ho2, hgb, -, hw2⟩ := run_append_own_at (P := Try.prog) wk (w.heap.size + 1) 153 153 181 _ _ 1 4 rfl rfl rfl rfl rfl rfl (by decide) u3 (2 * i) (ofV a i) how ⟨lo10, 0, none⟩ 2 2 [.int .u32 x0, .int .u32 x1] rfl (by intro j u hj; match j, hj with | 0, hj => (cases hj; exact r10.cell 0) | 1, hj => (cases hj; exact r10.cell 1)) (by simp [Value.oneCell']) (by simp only [maxLen]; omega) (by omega) (by have h1 := r0.lt; have h2 := hk.undrew.size; omega); rw [run_append_op rfl rfl rfl hrun]; exact left_P rfl rfl hgb (by rw [ofV_succ, ← lo32, ← hi32, hx0, hx1]; exact ho2) hw2
      rintro ⟨v11, lo11, hi11⟩ - - hG11
      refine hK _ _ ?_; clear hK K
      refine stepKz rfl (fun K hK => ?_); go_simp
      apply Exists.intro; apply And.intro; (focus (intro wk hk; go_simp; exact ⟨rfl, rfl⟩)); refine hK _ _ ?_; clear hK K
      refine stepN ?_
      refine hQ _ _ ?_
      intro w6 hT hG hF
      have hO : w6.ownsRow (w.heap.size + 1) 181 1 v11 (2 * i + 2) (ofV a (i + 1)) := (hF 11 _ rfl rfl (by decide)).2
      have hT2 := hT.undrew
      have hl6 : Below w.heap.size w w6 := hl.trans (hT2.below_of hl.size (by intro c hc; have := (ho.lt c hc).1; omega))
      have r6 : Row w6 w.heap.size 31 (W4 a) := K6.Row.tr r0 hT2 (fun hc => by have := (ho.lt _ hc).1; omega)
      have H := Lib.hid (show _ ∧ _ ∧ _ from ⟨hl6, r6, hO⟩)
      clear hT hT2 hG hF hQ QQ L hO hl6 r6 hl r0 ho hown hG11
      go_wp2_with fail
      go_roundg (gk - 1)
      case measure => omega
      case rel => exact ⟨i + 1, by omega, by go_num, H.out.1, H.out.2.1, H.out.2.2⟩
    · obtain rfl : i = 4 := by omega
      have hS : Sl wr u3 ((List.range 8).map (d32 a)) := Sl_own (base := w.heap.size + 1) (n := 2 * 4) (by rw [← ofV_map a 4]; exact ho) (by simp)
      have hT := trim_any u3 _ wr (dig_d32 a 8) hS (by simp)
      rw [val_d32, Nat.mod_eq_of_lt (show a < 2 ^ (32 * 8) from ha)] at hT
      have HT := Lib.hid hT
      clear hS hT r0 ho
      go_wp2_with fail
      refine HT.out.mono ?_
      rintro e w' ⟨rfl, u, rfl, hu⟩
      go_wp2_with fail
      go_ret
      exact ⟨_, rfl, hu, hl⟩
end Go.Proofs.Ytpdenhmkpiafiaa
namespace Go.Proofs.Ytpdenhmkpiafiaa
open Go Go.RowKit K6
def Ns (w : World) (u : Value) (l : List Int) : Prop := ∃ q c, u = .slice q l.length c ∧ (0 < l.length → ∃ g o, q = some ⟨g, o, none⟩ ∧ g < w.heap.size ∧ ∀ i (hi : i < l.length), w.cell? ⟨g, o + i, none⟩ = some (.int .i64 l[i]))
theorem Ns.below {w w' : World} {u : Value} {l : List Int} (h : Ns w u l) (hb : Below w.heap.size w w') : Ns w' u l := by
  obtain ⟨q, c, rfl, h⟩ := h
  refine ⟨q, c, rfl, fun h0 => ?_⟩
  obtain ⟨g, o, rfl, hg, hc⟩ := h h0
  exact ⟨g, o, rfl, Nat.lt_of_lt_of_le hg hb.size, fun i hi => (World.cell?_of_block (hb.block g hg)).trans (hc i hi)⟩
theorem kLoadE {P : Program} {w1 : World} {o : Oper} {a : Act} {X : Nat → Prop} {ty : TypeId} {x : Operand} {b off n : Nat} {cs : List Value} (ho : o.op = .load ty x) (hx : a.eval x = .pointer (some ⟨b, off, none⟩)) (T : AggT P ty n) (hr : ∀ j v, cs[j]? = some v → w1.cell? ⟨b, off + j, none⟩ = some v) (hs : cs.length = n) (hb : b < w1.heap.size) (hX : ¬ X b) : kOut P w1 X o a (.agg cs.toArray) := by
  intro w hw
  obtain ⟨⟨d, hu, hd⟩, hi⟩ := T
  have hc : w.rangeAt b off cs := fun j v hv => (World.cell?_of_block (hw.block b hb hX)).trans (hr j v hv)
  have h := run_loadAt_mid (P := P) w b off ty cs d hc hu (by cases d <;> first | rfl | exact Bool.noConfusion hd) (by rw [hi, ← hs])
  unfold execOp
  simp only [ho, hx, Sem.run_bind, Sem.run_pure, Result.andThen_ok, h]
  exact ⟨by simp, rfl⟩
theorem kLoadA {P : Program} {w1 : World} {o : Oper} {a : Act} {X : Nat → Prop} {ty : TypeId} {x : Operand} {b off n : Nat} {cs : Array Value} (ho : o.op = .load ty x) (hx : a.eval x = .pointer (some ⟨b, off, none⟩)) (T : AggT P ty n) (hr : ∀ j v, cs.toList[j]? = some v → w1.cell? ⟨b, off + j, none⟩ = some v) (hs : cs.size = n) (hb : b < w1.heap.size) (hX : ¬ X b) : kOut P w1 X o a (.agg cs) :=
  kLoadE (cs := cs.toList) ho hx T hr (by rw [Array.length_toList]; exact hs) hb hX
theorem Us.elem {w : World} {u : Value} {l : List Nat} {i x : Nat} (h : Us w u l) (hx : l[i]? = some x) : ∃ g o c, u = .slice (some ⟨g, o, none⟩) l.length c ∧ g < w.heap.size ∧ ∀ j v, (W4 x).toList[j]? = some v → w.cell? ⟨g, o + i * 4 + j, none⟩ = some v := by
  obtain ⟨hi, rfl⟩ := List.getElem?_eq_some_iff.1 hx
  obtain ⟨g, o, c, hu, hg, hc⟩ := h.at_ hi
  exact ⟨g, o, c, hu, hg, fun j v hj => hc i hi j v hj⟩
theorem Oe.one {w : World} {b : Nat} {v : Value} {l : List Nat} (h : Oe w b v l) : v.oneCell' = true := by
  rcases h.2 with ⟨rfl, -⟩ | ⟨g, cap, cur, rfl, -⟩
  · rfl
  · rfl
end Go.Proofs.Ytpdenhmkpiafiaa
namespace Go.Proofs.Ytpdenhmkpiafiaa
open Go Go.RowKit K6
structure Ev where
  k : Int
  q : Option Addr
  c : Nat
  l : List Nat
instance : Inhabited Ev := ⟨⟨0, none, 0, []⟩⟩
def Ev.v (e : Ev) : Value := .slice e.q e.l.length e.c
structure EvOk (w : World) (e : Ev) : Prop where
  us : Us w e.v e.l
  lt : ∀ a ∈ e.l, a < M
  lo : -9223372036854775808 ≤ e.k
  hi : e.k < 9223372036854775808
theorem EvOk.below {w w' : World} {e : Ev} (h : EvOk w e) (hb : Below w.heap.size w w') : EvOk w' e := ⟨h.us.below hb, h.lt, h.lo, h.hi⟩
def Es (w : World) (u : Value) (E : List Ev) : Prop := ∃ q c, u = .slice q E.length c ∧ (0 < E.length → ∃ g o, q = some ⟨g, o, none⟩ ∧ g < w.heap.size ∧ ∀ i e, E[i]? = some e → w.cell? ⟨g, o + i * 2, none⟩ = some (.int .i64 e.k) ∧ w.cell? ⟨g, o + i * 2 + 1, none⟩ = some e.v) ∧ ∀ e ∈ E, EvOk w e
theorem Es.below {w w' : World} {u : Value} {E : List Ev} (h : Es w u E) (hb : Below w.heap.size w w') : Es w' u E := by
  obtain ⟨q, c, rfl, h, hk⟩ := h
  refine ⟨q, c, rfl, fun h0 => ?_, fun e he => (hk e he).below hb⟩
  obtain ⟨g, o, rfl, hg, hc⟩ := h h0
  exact ⟨g, o, rfl, Nat.lt_of_lt_of_le hg hb.size, fun i e he => ⟨(World.cell?_of_block (hb.block g hg)).trans (hc i e he).1, (World.cell?_of_block (hb.block g hg)).trans (hc i e he).2⟩⟩
theorem Es.get {w wr : World} {u : Value} {E : List Ev} (h : Es w u E) (hb : Below w.heap.size w wr) {i : Nat} {e : Ev} (he : E[i]? = some e) :
    ∃ g o c, u = .slice (some ⟨g, o, none⟩) E.length c ∧ g < wr.heap.size ∧ EvOk wr e ∧ ∀ j v, [Value.int .i64 e.k, e.v][j]? = some v → wr.cell? ⟨g, o + i * 2 + j, none⟩ = some v := by
  obtain ⟨q, c, rfl, h, hk⟩ := h.below hb
  obtain ⟨g, o, rfl, hg, hc⟩ := h (by have := (List.getElem?_eq_some_iff.1 he).1; omega)
  refine ⟨g, o, c, rfl, hg, hk e (List.mem_of_getElem? he), fun j v hj => ?_⟩
  obtain ⟨h0, h1⟩ := hc i e he
  match j, hj with
  | 0, hj =>
    have hj' : some (Value.int .i64 e.k) = some v := hj
    rw [← hj']
    exact h0
  | 1, hj =>
    have hj' : some e.v = some v := hj
    rw [← hj']
    exact h1
def IdxP (b : Bool) (w : World) (r : Ending) (w' : World) : Prop := ∃ n : Int, r = .returned (.int .i64 n) ∧ (b = true → n = -1) ∧ (b = false → 0 ≤ n) ∧ Below w.heap.size w w'
end Go.Proofs.Ytpdenhmkpiafiaa
