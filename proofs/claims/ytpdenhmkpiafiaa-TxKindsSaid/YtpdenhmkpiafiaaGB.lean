/-
  The region laws Keep and K6, made ready.
-/
import Derived.Test.YtpdenhmkpiafiaaGA
import Derived.Orders
import Derived.KernelRfl
import Derived.Laws.Tables
import Derived.Deep.MidRow

/-! Keep: A REGION THAT DRAWS ITS ORDER AND HOLDS CALLS THAT MAKE MEMORY: if in every world of a kind ('Keep') each operation gives one value and leads to a world of that kind, the text's order serves. -/
namespace Go.Proofs.Ytpdenhmkpiafiaa
open Go Go.RowKit

section
variable {P : Program} {ops : Array Oper} {md : Region.Mode} {Keep : World → Prop}

def kUpon (P : Program) (Keep : World → Prop) (v : Value) : Result Next → Prop
  | .ok (.value u) w' => u = v ∧ Keep w'
  | .ok .skip w' => v = undef ∧ Keep w'
  | .ok (.enter f args) w' => Calls P f args w' (fun e w'' => e = .returned v ∧ Keep w'')
  | _ => False
theorem kUpon_value {v u : Value} {w : World} (h : u = v) (hk : Keep w) : kUpon P Keep v (.ok (.value u) w) := ⟨h, hk⟩
theorem kUpon_enter {v : Value} {f : FuncId} {args : Array Value} {w : World} (h : Calls P f args w (fun e w'' => e = .returned v ∧ Keep w'')) : kUpon P Keep v (.ok (.enter f args) w) := h
/-- in every world of the kind the operation gives v -/
def outK (P : Program) (Keep : World → Prop) (o : Oper) (a : Act) (v : Value) : Prop := ∀ w, Keep w → kUpon P Keep v ((execOp a.eval o).run P w)

def kOp (P : Program) (Keep : World → Prop) (ops : Array Oper) (i : Nat) (K : Act → Prop) (a : Act) : Prop :=
  match ops[i]? with
  | none => K a
  | some o => if Region.wanted o (yielded ops a.tmps) then ∃ v, outK P Keep o a v ∧ K (a.put o.dst v) else K (a.put o.dst undef)
theorem kOp_mono {i : Nat} {a : Act} {K K' : Act → Prop} (h : ∀ a, K a → K' a) (hh : kOp P Keep ops i K a) : kOp P Keep ops i K' a := by
  unfold kOp at *
  split
  · exact h _ (by simpa [*] using hh)
  · rename_i o ho
    simp only [ho] at hh
    split
    · rename_i hw
      simp only [hw, if_true] at hh
      obtain ⟨v, h1, h2⟩ := hh
      exact ⟨v, h1, h _ h2⟩
    · rename_i hw
      simp only [hw] at hh
      exact h _ hh
def wpK (P : Program) (Keep : World → Prop) (ops : Array Oper) (Q : Act → Prop) : List Oper → Act → Prop
  | [], a => Q a
  | o :: rest, a => if Region.wanted o (yielded ops a.tmps) then ∃ v, outK P Keep o a v ∧ wpK P Keep ops Q rest (a.put o.dst v) else wpK P Keep ops Q rest (a.put o.dst undef)
theorem wpK_nil {Q : Act → Prop} {a : Act} (h : Q a) : wpK P Keep ops Q [] a := h
theorem wpK_step {Q : Act → Prop} {a : Act} {o : Oper} {rest : List Oper}
    (h : ∀ K : Act → Prop, (∀ a, wpK P Keep ops Q rest a → K a) → if Region.wanted o (yielded ops a.tmps) then ∃ v, outK P Keep o a v ∧ K (a.put o.dst v) else K (a.put o.dst undef)) : wpK P Keep ops Q (o :: rest) a :=
  h _ (fun _ h => h)

def wpAnyK (P : Program) (Keep : World → Prop) (md : Region.Mode) (ops : Array Oper) (Q : Act → Prop) : Nat → Array Bool → Act → Prop
  | 0, listed, a => Region.ready md ops listed = [] ∧ Q a
  | fuel + 1, listed, a =>
    (Region.ready md ops listed = [] → Q a) ∧
    ∀ i ∈ Region.ready md ops listed, kOp P Keep ops i (wpAnyK P Keep md ops Q fuel (listed.setIfInBounds i true)) a

theorem wp_of_outK {o : Oper} {a : Act} {v : Value} {K' : Act → World → Prop} {Q' : Exit → Act → World → Prop} {w : World} (hk : Keep w) (ho : outK P Keep o a v) (h : ∀ w', Keep w' → K' (a.put o.dst v) w') : o.wp P a w K' Q' := by
  have hh := ho w hk
  unfold Oper.wp
  generalize (execOp a.eval o).run P w = r at *
  cases r with
  | ok n w' =>
    cases n <;> simp only [kUpon] at hh <;> simp only [Oper.upon]
    case enter f args =>
      exact hh.mono fun e w'' ⟨he, hw⟩ => by subst he; exact h _ hw
    all_goals (obtain ⟨rfl, h2⟩ := hh; exact h _ h2)
  | halt x w' => simp only [kUpon] at hh

theorem wpOp_of_kOp {i : Nat} {a : Act} {K : Act → Prop} {K' : Act → World → Prop} {Q' : Exit → Act → World → Prop} {w : World} (hk : Keep w) (h : ∀ a, K a → ∀ w', Keep w' → K' a w') (hh : kOp P Keep ops i K a) : wpOp P ops Q' i K' a w := by
  unfold kOp at hh
  unfold wpOp
  split
  · rename_i ho; simp only [ho] at hh; exact h _ hh _ hk
  · rename_i o ho
    simp only [ho] at hh
    split
    · rename_i hw
      simp only [hw, if_true] at hh
      obtain ⟨v, h1, h2⟩ := hh
      exact .inl (wp_of_outK hk h1 fun w' hk' => h _ h2 w' hk')
    · rename_i hw; simp only [hw] at hh; exact h _ hh _ hk

theorem wpAny_of_K {Q : Act → Prop} {Q' : Exit → Act → World → Prop} (hQ : ∀ a, Q a → ∀ w, Keep w → Q' .normal a w) : ∀ (fuel : Nat) (listed : Array Bool) (a : Act),
    wpAnyK P Keep md ops Q fuel listed a → ∀ w, Keep w → wpAny P md ops Q' fuel listed a w
  | 0, _, _, h => fun w hk => ⟨h.1, hQ _ h.2 w hk⟩
  | fuel + 1, _, _, h => fun w hk => ⟨fun h0 => hQ _ (h.1 h0) w hk, fun i hi => wpOp_of_kOp hk (fun a' ha' w' hk' => wpAny_of_K hQ fuel _ a' ha' w' hk') (h.2 i hi)⟩

def YieldsK (P : Program) (Keep : World → Prop) (ops : Array Oper) (o : Oper) (v : Value) (a : Act) : Prop :=
  (Region.wanted o (yielded ops a.tmps) = true ∧ outK P Keep o a v) ∨ (Region.wanted o (yielded ops a.tmps) = false ∧ v = undef)
theorem YieldsK.kOp {i : Nat} {o : Oper} {v : Value} {a : Act} (hi : ops[i]? = some o) (hy : YieldsK P Keep ops o v a) {K : Act → Prop} (h : K (a.put o.dst v)) : kOp P Keep ops i K a := by
  unfold Ytpdenhmkpiafiaa.kOp
  simp only [hi]
  rcases hy with ⟨hw, hv⟩ | ⟨hw, rfl⟩
  · simp only [hw, if_true]; exact ⟨v, hv, h⟩
  · simp only [hw, Bool.false_eq_true, if_false]; exact h
theorem YieldsK.of_same {o : Oper} {v : Value} {a a' : Act} (hy : YieldsK P Keep ops o v a) (he : execOp a'.eval o = execOp a.eval o)
    (hw : Region.wanted o (yielded ops a'.tmps) = Region.wanted o (yielded ops a.tmps)) : YieldsK P Keep ops o v a' := by
  unfold YieldsK outK at *
  rw [he, hw]
  exact hy
theorem yieldsK_of {i : Nat} {o : Oper} {a : Act} {K : Act → Prop} (hi : ops[i]? = some o) (h : kOp P Keep ops i K a) : ∃ v, YieldsK P Keep ops o v a ∧ K (a.put o.dst v) := by
  unfold kOp at h
  simp only [hi] at h
  by_cases hw : Region.wanted o (yielded ops a.tmps) = true
  · simp only [hw, if_true] at h
    obtain ⟨v, h1, h2⟩ := h
    exact ⟨v, .inl ⟨hw, h1⟩, h2⟩
  · simp only [hw] at h
    exact ⟨undef, .inr ⟨by simpa using hw, rfl⟩, h⟩

theorem kOp_put {j : Nat} {oi oj : Oper} {v : Value} (hj : ops[j]? = some oj) (hap : oi.apart ops oj = true)
    (hsi : ∀ cs b, oi.op ≠ .select cs b) (hsj : ∀ cs b, oj.op ≠ .select cs b) {K : Act → Prop} {a : Act}
    (hy : YieldsK P Keep ops oi v a) (h : kOp P Keep ops j K (a.put oi.dst v)) :
    kOp P Keep ops j (fun a' => YieldsK P Keep ops oi v a' ∧ K (a'.put oi.dst v)) a := by
  obtain ⟨h1, h2, h3⟩ := Oper.apart_spec hap
  have keep : ∀ (a : Act), YieldsK P Keep ops oi v a → ∀ u, YieldsK P Keep ops oi v (a.put oj.dst u) := fun a hy u =>
    hy.of_same (execOp_put oi hsi a oj.dst u h3) (wanted_put oi a oj.dst u h3)
  unfold kOp at *
  simp only [hj] at *
  rw [wanted_put oj a oi.dst v h1] at h
  split
  · rename_i hw
    simp only [hw, if_true] at h
    obtain ⟨u, hu, hK⟩ := h
    unfold outK at hu
    rw [execOp_put oj hsj a oi.dst v h1] at hu
    exact ⟨u, hu, keep a hy u, by rw [← Act.put_comm a v u h2]; exact hK⟩
  · rename_i hw
    simp only [hw] at h
    exact ⟨keep a hy _, by rw [← Act.put_comm a v undef h2]; exact h⟩

theorem wpAnyK_first {Q : Act → Prop} {i : Nat} {oi : Oper} {v : Value} (hi : ops[i]? = some oi) (hsel : ∀ (j : Nat) (o : Oper) cs b, ops[j]? = some o → o.op ≠ .select cs b) :
    ∀ (fuel : Nat) (listed : Array Bool) (a : Act),
      (∀ j oj, ops[j]? = some oj → j ≠ i → listed.getD j true = false → (∀ e ∈ oj.after, Region.binds md e = true → e.on ≠ i) → oi.apart ops oj = true) →
      i ∈ Region.ready md ops listed → YieldsK P Keep ops oi v a →
      wpAnyK P Keep md ops Q fuel (listed.setIfInBounds i true) (a.put oi.dst v) → wpAnyK P Keep md ops Q (fuel + 1) listed a := by
  intro fuel
  induction fuel with
  | zero =>
    intro listed a _ hr hy H
    refine ⟨fun h => (by rw [h] at hr; cases hr), fun j hj => ?_⟩
    by_cases hji : j = i
    · subst hji; exact hy.kOp hi H
    · have := ready_mono hj hji
      rw [H.1] at this
      cases this
  | succ fuel ih =>
    intro listed a hfree hr hy H
    refine ⟨fun h => (by rw [h] at hr; cases hr), fun j hj => ?_⟩
    by_cases hji : j = i
    · subst hji; exact hy.kOp hi H
    · have h1 := H.2 j (ready_mono hj hji)
      obtain ⟨hjun, oj, hoj, hall⟩ := mem_ready.1 hj
      have hnot : ∀ e ∈ oj.after, Region.binds md e = true → e.on ≠ i := fun e he hb heq => by
        have h1 := hall e he hb
        have h0 := (mem_ready.1 hr).1
        rw [heq] at h1
        rcases Nat.lt_or_ge i listed.size with h' | h'
        · simp [h'] at h0 h1; rw [h0] at h1; cases h1
        · simp [Array.getElem?_eq_none h'] at h1
      have h2 := kOp_put hoj (hfree j oj hoj hji hjun hnot) (fun cs b => hsel i oi cs b hi) (fun cs b => hsel j oj cs b hoj) hy h1
      have hfree' : ∀ k ok, ops[k]? = some ok → k ≠ i → (listed.setIfInBounds j true).getD k true = false →
          (∀ e ∈ ok.after, Region.binds md e = true → e.on ≠ i) → oi.apart ops ok = true := fun k ok hk hki hun hno => by
        refine hfree k ok hk hki ?_ hno
        by_cases hjk : j = k
        · subst hjk; exact hjun
        · rw [getD_set_ne true hjk] at hun; exact hun
      refine kOp_mono (fun a' h3 => ih (listed.setIfInBounds j true) a' hfree' (ready_mono hr (Ne.symm hji)) h3.1 ?_) h2
      rw [Array.setIfInBounds_comm _ _ hji]
      exact h3.2

def lexFrom (md : Region.Mode) (ops : Array Oper) : Nat → Nat → Array Bool → Bool
  | 0, _, listed => (Region.ready md ops listed).isEmpty
  | fuel + 1, k, listed => (Region.ready md ops listed).contains k && Region.free md ops listed k && lexFrom md ops fuel (k + 1) (listed.setIfInBounds k true)
def lexB (md : Region.Mode) (ops : Array Oper) : Bool := Region.noSelect ops && lexFrom md ops ops.size 0 (Array.replicate ops.size false)

theorem wpAnyK_lex {Q : Act → Prop} (hs : Region.noSelect ops = true) : ∀ (l : List Oper) (k : Nat) (listed : Array Bool) (a : Act), (∀ j, l[j]? = ops[k + j]?) →
    lexFrom md ops l.length k listed = true → wpK P Keep ops Q l a → wpAnyK P Keep md ops Q l.length listed a
  | [], _, _, _, _, hB, h => ⟨by simpa [lexFrom] using hB, h⟩
  | o :: l, k, listed, a, hl, hB, h => by
    have h0 : ops[k]? = some o := by simpa using (hl 0).symm
    simp only [List.length_cons, lexFrom, Bool.and_eq_true] at hB
    obtain ⟨⟨hr, hf⟩, hB'⟩ := hB
    have hst : kOp P Keep ops k (wpK P Keep ops Q l) a := by unfold kOp; simp only [h0]; exact h
    obtain ⟨v, hy, hK⟩ := yieldsK_of h0 hst
    exact wpAnyK_first h0 (Region.noSelect_spec hs) l.length listed a (Region.free_spec h0 hf) (by simpa using hr) hy
      (wpAnyK_lex hs l (k + 1) _ _ (fun j => by have := hl (j + 1); simpa [Nat.add_assoc, Nat.add_comm 1 j] using this) hB' hK)

/-- THE LAW -/
theorem wp_region_keep {id : Nat} {Q : Exit → Act → World → Prop} {a : Act} {w : World} {l : List Oper} (Keep : World → Prop) (hm : P.follows .mixedOrders = true) (hB : lexB .any l.toArray = true) (hk : Keep { w with drawn := w.drawn + 1 })
    (h : wpK P Keep l.toArray (fun a' => ∀ w', Keep w' → Q .normal a' w') l a) : (Code.region id l.toArray true).wp P Q a w := by
  simp only [lexB, Bool.and_eq_true] at hB
  refine wp_region_any hm ?_
  have := wpAnyK_lex (md := .any) (Keep := Keep) hB.1 l 0 (Array.replicate l.toArray.size false) a (by simp) (by simpa using hB.2) h
  simpa using wpAny_of_K (fun _ h => h) _ _ _ this _ hk
end
end Go.Proofs.Ytpdenhmkpiafiaa

/-! K6: A REGION THAT DRAWS ITS ORDER (K6): each operation either yields one value in every world of a kind and leaves the world alone (nothing is told of it ahead), or it is listed ahead with what it yields, what it leaves, which blocks it may change and whose undoing it is. The walk goes once, in the text's order; the blocks that each listed operation made are told apart by the heap's sizes before and behind it. -/
namespace Go.Proofs.Ytpdenhmkpiafiaa.K6
open Go Go.RowKit

structure GV where
  v : Value
  lo : Nat
  hi : Nat
abbrev Ghost := Nat → GV
def gput (g : Ghost) (i : Nat) (x : GV) : Ghost := fun k => if k = i then x else g k
theorem gput_comm (g : Ghost) {i j : Nat} (u v : GV) (h : i ≠ j) : gput (gput g i v) j u = gput (gput g j u) i v := by
  funext k
  unfold gput
  by_cases h1 : k = i
  · subst h1; simp [h]
  · simp [h1]
theorem gput_ne {g : Ghost} {i x : Nat} {v : GV} (h : x ≠ i) : gput g i v x = g x := by unfold gput; rw [if_neg h]

/-- what was there is there, but for the blocks of X -/
structure Tr (X : Nat → Prop) (w w' : World) : Prop where
  os : w'.os = w.os
  tape : w'.tape = w.tape
  output : w'.output = w.output
  size : w.heap.size ≤ w'.heap.size
  block : ∀ b, b < w.heap.size → ¬ X b → w'.heap[b]? = w.heap[b]?
theorem Tr.refl (X : Nat → Prop) (w : World) : Tr X w w := ⟨rfl, rfl, rfl, Nat.le_refl _, fun _ _ _ => rfl⟩
theorem Tr.mono {X Y : Nat → Prop} {w w' : World} (h : Tr X w w') (hxy : ∀ b, b < w.heap.size → X b → Y b) : Tr Y w w' :=
  ⟨h.os, h.tape, h.output, h.size, fun b hb hy => h.block b hb fun hx => hy (hxy b hb hx)⟩
theorem Tr.trans {X : Nat → Prop} {a b c : World} (h : Tr X a b) (k : Tr X b c) : Tr X a c :=
  ⟨k.os.trans h.os, k.tape.trans h.tape, k.output.trans h.output, Nat.le_trans h.size k.size, fun i hi hx => (k.block i (Nat.lt_of_lt_of_le hi h.size) hx).trans (h.block i hi hx)⟩
abbrev None_ : Nat → Prop := fun _ => False
theorem Tr.below {w w' : World} (h : Tr None_ w w') : Below w.heap.size w w' := ⟨h.os, h.tape, h.output, h.size, fun b hb => h.block b hb id⟩
theorem Tr.undrew {X : Nat → Prop} {w w' : World} (h : Tr X w.drew w') : Tr X w w' := ⟨h.os, h.tape, h.output, h.size, h.block⟩
theorem Tr.below_of {X : Nat → Prop} {B : Nat} {w w' : World} (h : Tr X w w') (hB : B ≤ w.heap.size) (hx : ∀ c, X c → B ≤ c) : Below B w w' := ⟨h.os, h.tape, h.output, h.size, fun b hb => h.block b (Nat.lt_of_lt_of_le hb hB) fun hc => Nat.lt_irrefl _ (Nat.lt_of_lt_of_le hb (hx b hc))⟩
theorem Tr.of {X : Nat → Prop} {w w' : World} (h : Below w.heap.size w w') : Tr X w w' := ⟨h.os, h.tape, h.output, h.size, fun b hb _ => h.block b hb⟩
theorem Tr.of_drew {X : Nat → Prop} {w w' : World} {n : Nat} (h : Below w.heap.size { w with drawn := n } w') : Tr X w w' := ⟨h.os, h.tape, h.output, h.size, fun b hb _ => h.block b hb⟩

/-- a listed operation: its number; on whose ghosts it rests; whose facts it uses; who undoes its fact; of whose blocks it may change; of whose blocks its fact speaks; does it speak of any block; may it change old blocks; does its fact speak of old ones? -/
structure Sh where
  i : Nat
  D : List Nat
  use : List Nat
  kill : List Nat
  Xi : List Nat
  Li : List Nat
  any : Bool
  x : Bool
  l : Bool
/-- what it yields; what it leaves; the old blocks that it may change; the old blocks of which its fact speaks -/
structure Mean where
  V : Ghost → GV → Prop
  F : Ghost → World → Prop
  Xo : Nat → Prop
  Lo : Nat → Prop

def spOf (sh : List Sh) (i : Nat) : Option Sh := sh.find? (fun s => s.i == i)
theorem spOf_spec {sh : List Sh} {i : Nat} {s : Sh} (h : spOf sh i = some s) : s ∈ sh ∧ s.i = i :=
  ⟨List.mem_of_find?_eq_some h, by simpa using List.find?_some h⟩

def edgeB (md : Region.Mode) (ops : Array Oper) (m k : Nat) : Bool := ((ops[m]?).map fun o => o.after.any fun e => Region.binds md e && e.on == k).getD false
def preGo (md : Region.Mode) (ops : Array Oper) : Nat → List Nat → List Nat
  | 0, acc => acc
  | k + 1, acc => preGo md ops k (if acc.any (fun m => edgeB md ops m k) then k :: acc else acc)
def pre (md : Region.Mode) (ops : Array Oper) (i : Nat) : List Nat := preGo md ops i [i]
theorem preGo_spec {md : Region.Mode} {ops : Array Oper} {L : Nat → Prop} (hL : ∀ m k, L m → edgeB md ops m k = true → L k) : ∀ (n : Nat) (acc : List Nat), (∀ m ∈ acc, L m) → ∀ x ∈ preGo md ops n acc, L x
  | 0, _, h => h
  | k + 1, acc, h => by
    refine preGo_spec hL k _ ?_
    split
    · rename_i ha
      obtain ⟨m, hm, he⟩ := List.any_eq_true.1 ha
      intro x hx
      rcases List.mem_cons.1 hx with rfl | hx
      · exact hL m _ (h m hm) he
      · exact h x hx
    · exact h

def fullB (md : Region.Mode) (ops : Array Oper) (sh : List Sh) (i : Nat) : Bool := sh.all fun s => !s.x || (pre md ops s.i).contains i

/-- what is reckoned ahead -/
def C1 (md : Region.Mode) (ops : Array Oper) (sh : List Sh) : Prop := ∀ s ∈ sh, ∀ k ∈ s.D, k ≠ s.i ∧ k ∈ pre md ops s.i
def C2 (sh : List Sh) : Prop := ∀ s ∈ sh, ∀ t ∈ sh, t.i ∈ s.D → ∀ x ∈ t.D, x ∈ s.D
def C3 (md : Region.Mode) (ops : Array Oper) (sh : List Sh) : Prop := ∀ s ∈ sh, ∀ k ∈ s.use, k ∈ s.D ∧ (spOf sh k).isSome = true ∧ ∀ t ∈ sh, t.i = k → ∀ j ∈ t.kill, j = s.i ∨ s.i ∈ pre md ops j
def C4 (sh : List Sh) : Prop := ∀ s ∈ sh, ∀ k ∈ s.Xi, k ∈ s.D ∧ (spOf sh k).isSome = true
def C5 (sh : List Sh) : Prop := ∀ s ∈ sh, ∀ k ∈ s.Li, (k = s.i ∨ k ∈ s.D) ∧ (spOf sh k).isSome = true
def C6 (sh : List Sh) : Prop := ∀ s ∈ sh, ∀ t ∈ sh, s.i ≠ t.i → t.i ∈ s.kill ∨ ∀ k ∈ s.Li, k ∉ t.Xi
instance (md : Region.Mode) (ops : Array Oper) (sh : List Sh) : Decidable (C1 md ops sh) := by unfold C1; infer_instance
instance (sh : List Sh) : Decidable (C2 sh) := by unfold C2; infer_instance
instance (md : Region.Mode) (ops : Array Oper) (sh : List Sh) : Decidable (C3 md ops sh) := by unfold C3; infer_instance
instance (sh : List Sh) : Decidable (C4 sh) := by unfold C4; infer_instance
instance (sh : List Sh) : Decidable (C5 sh) := by unfold C5; infer_instance
instance (sh : List Sh) : Decidable (C6 sh) := by unfold C6; infer_instance
def Cl (md : Region.Mode) (ops : Array Oper) (sh : List Sh) : Prop := C1 md ops sh ∧ C2 sh ∧ C3 md ops sh ∧ C4 sh ∧ C5 sh ∧ C6 sh
instance (md : Region.Mode) (ops : Array Oper) (sh : List Sh) : Decidable (Cl md ops sh) := by unfold Cl; infer_instance

section
variable (P : Program) (ops : Array Oper) (md : Region.Mode) (sh : List Sh) (M : Nat → Mean) (Z : Nat → Prop) (w1 : World)

/-- the blocks that operation i may change -/
def XX (s : Sh) (g : Ghost) (b : Nat) : Prop := (M s.i).Xo b ∨ ∃ k ∈ s.Xi, (g k).lo ≤ b ∧ b < (g k).hi
def LL (s : Sh) (g : Ghost) (b : Nat) : Prop := s.any = true ∨ (M s.i).Lo b ∨ ∃ k ∈ s.Li, (g k).lo ≤ b ∧ b < (g k).hi
/-- the ghosts are in order -/
def GOk (D : Nat → Prop) (g : Ghost) (n : Nat) : Prop :=
  (∀ k, D k → (spOf sh k).isSome = true → w1.heap.size ≤ (g k).lo ∧ (g k).lo ≤ (g k).hi ∧ (g k).hi ≤ n) ∧
  (∀ j k, D j → D k → (spOf sh j).isSome = true → (spOf sh k).isSome = true → j ≠ k → (g j).hi ≤ (g k).lo ∨ (g k).hi ≤ (g j).lo)

def sUpon (V : Value → World → Prop) : Result Next → Prop
  | .ok (.value u) w' => V u w'
  | .ok .skip w' => V undef w'
  | .ok (.enter f args) w' => Calls P f args w' (fun e w'' => ∃ v, e = .returned v ∧ V v w'')
  | _ => False

/-- the old blocks that may have been changed when operation i comes -/
def XU (i : Nat) (b : Nat) : Prop := ∃ s ∈ sh, s.x = true ∧ i ∉ pre md ops s.i ∧ (M s.i).Xo b
def Kn (i : Nat) (w : World) : Prop := Tr (XU ops md sh M i) w1 w ∧ Tr Z w1 w
def YK (o : Oper) (i : Nat) (a : Act) (v : Value) : Prop :=
  (Region.wanted o (yielded ops a.tmps) = true ∧ ∀ w, Kn ops md sh M Z w1 i w → (execOp a.eval o).run P w = .ok (.value v) w) ∨ (Region.wanted o (yielded ops a.tmps) = false ∧ v = undef)
def Left (s : Sh) (g : Ghost) (w : World) (v : Value) (w' : World) : Prop :=
  (M s.i).V g ⟨v, w.heap.size, w'.heap.size⟩ ∧ Tr (XX M s g) w w' ∧ (M s.i).F (gput g s.i ⟨v, w.heap.size, w'.heap.size⟩) w'
def outS (o : Oper) (s : Sh) (g : Ghost) (a : Act) : Prop :=
  Region.wanted o (yielded ops a.tmps) = true ∧ ∀ w, Kn ops md sh M Z w1 s.i w → GOk sh w1 (· ∈ s.D) g w.heap.size → (∀ k ∈ s.use, (M k).F g w) → sUpon P (Left M s g w) ((execOp a.eval o).run P w)

def sOp (i : Nat) (K : Ghost → Act → Prop) (g : Ghost) (a : Act) : Prop :=
  match ops[i]? with
  | none => False
  | some o =>
    match spOf sh i with
    | some s => outS P ops md sh M Z w1 o s g a ∧ ∀ x : GV, w1.heap.size ≤ x.lo → x.lo ≤ x.hi → (M i).V g x → K (gput g i x) (a.put o.dst x.v)
    | none => ∃ v, YK P ops md sh M Z w1 o i a v ∧ K (gput g i ⟨v, 0, 0⟩) (a.put o.dst v)

/-- the text's order -/
def wpS (Q : Ghost → Act → Prop) : Nat → List Oper → Ghost → Act → Prop
  | _, [], g, a => Q g a
  | k, o :: rest, g, a =>
    match spOf sh k with
    | some s => outS P ops md sh M Z w1 o s g a ∧ ∀ x : GV, w1.heap.size ≤ x.lo → x.lo ≤ x.hi → (M k).V g x → wpS Q (k + 1) rest (gput g k x) (a.put o.dst x.v)
    | none => ∃ v, YK P ops md sh M Z w1 o k a v ∧ wpS Q (k + 1) rest (gput g k ⟨v, 0, 0⟩) (a.put o.dst v)

def wpAnyS (Q : Ghost → Act → Prop) : Nat → Array Bool → Ghost → Act → Prop
  | 0, listed, g, a => Region.ready md ops listed = [] ∧ (∀ j, j < ops.size → listed.getD j true = true) ∧ Q g a
  | fuel + 1, listed, g, a => Region.ready md ops listed ≠ [] ∧ ∀ i ∈ Region.ready md ops listed, sOp P ops md sh M Z w1 i (fun g a => wpAnyS Q fuel (listed.setIfInBounds i true) g a) g a

/-- what is to be shown of the listed operations once -/
structure St : Prop where
  some_ : ∀ s ∈ sh, ∀ g, ∃ x : GV, w1.heap.size ≤ x.lo ∧ x.lo ≤ x.hi ∧ (M s.i).V g x
  depV : ∀ s ∈ sh, ∀ g g', (∀ x ∈ s.D, g' x = g x) → ∀ x, (M s.i).V g x → (M s.i).V g' x
  depF : ∀ s ∈ sh, ∀ g g', (∀ x, x = s.i ∨ x ∈ s.D → g' x = g x) → ∀ w, (M s.i).F g w → (M s.i).F g' w
  loc : ∀ s ∈ sh, ∀ g w w', (M s.i).F g w → Tr (fun b => ¬ LL M s g b) w w' → (M s.i).F g w'
  xo : ∀ s ∈ sh, ∀ b, (M s.i).Xo b → s.x = true ∧ Z b ∧ b < w1.heap.size
  lo : ∀ s ∈ sh, ∀ b, (M s.i).Lo b → b < w1.heap.size
  sep : ∀ s ∈ sh, ∀ t ∈ sh, s.i ≠ t.i → t.i ∈ s.kill ∨ ((∀ b, (M s.i).Lo b → ¬ (M t.i).Xo b) ∧ (s.any = true → (∀ b, ¬ (M t.i).Xo b) ∧ t.Xi = []))
end

section
variable {P : Program} {ops : Array Oper} {md : Region.Mode} {sh : List Sh} {M : Nat → Mean} {Z : Nat → Prop} {w1 : World}

theorem sOp_mono {i : Nat} {g : Ghost} {a : Act} {K K' : Ghost → Act → Prop} (h : ∀ g a, K g a → K' g a) (hh : sOp P ops md sh M Z w1 i K g a) : sOp P ops md sh M Z w1 i K' g a := by
  unfold sOp at *
  split
  · rename_i ho; simp only [ho] at hh
  · rename_i o ho
    simp only [ho] at hh
    split
    · rename_i s hs
      simp only [hs] at hh
      exact ⟨hh.1, fun x h1 h2 h3 => h _ _ (hh.2 x h1 h2 h3)⟩
    · rename_i hs
      simp only [hs] at hh
      obtain ⟨v, h1, h2⟩ := hh
      exact ⟨v, h1, h _ _ h2⟩

/-- what stands while the operations of 'listed' are done -/
structure Inv (ops : Array Oper) (md : Region.Mode) (sh : List Sh) (M : Nat → Mean) (w1 : World) (listed : Array Bool) (g : Ghost) (w : World) : Prop where
  tr : Tr (fun b => ∃ s ∈ sh, listed.getD s.i false = true ∧ (M s.i).Xo b) w1 w
  shut : ∀ k, listed.getD k false = true → ∀ m, edgeB md ops k m = true → listed.getD m false = true
  ok : GOk sh w1 (fun k => listed.getD k false = true) g w.heap.size
  fact : ∀ s ∈ sh, listed.getD s.i false = true → (∀ j ∈ s.kill, listed.getD j false = false) → (M s.i).F g w

theorem edgeB_of {k m : Nat} {o : Oper} (ho : ops[k]? = some o) (h : edgeB md ops k m = true) : ∃ e ∈ o.after, Region.binds md e = true ∧ e.on = m := by
  unfold edgeB at h
  rw [ho] at h
  simp only [Option.map_some, Option.getD_some] at h
  obtain ⟨e, he, hb⟩ := Array.any_eq_true'.1 h
  simp only [Bool.and_eq_true, beq_iff_eq] at hb
  exact ⟨e, he, hb.1, hb.2⟩
theorem ready_pre {listed : Array Bool} {i : Nat} (hsh : ∀ k, listed.getD k false = true → ∀ m, edgeB md ops k m = true → listed.getD m false = true) {o : Oper} (ho : ops[i]? = some o)
    (hall : ∀ e ∈ o.after, Region.binds md e = true → listed.getD e.on false = true) {x : Nat} (hx : x ∈ pre md ops i) : listed.getD x false = true ∨ x = i := by
  refine preGo_spec (L := fun x => listed.getD x false = true ∨ x = i) (fun m k hm he => ?_) i [i] (fun m hm => .inr (by simpa using hm)) x hx
  rcases hm with hm | rfl
  · exact .inl (hsh m hm k he)
  · obtain ⟨e, he', hb, rfl⟩ := edgeB_of ho he
    exact .inl (hall e he' hb)
theorem listed_pre {listed : Array Bool} {i : Nat} (hsh : ∀ k, listed.getD k false = true → ∀ m, edgeB md ops k m = true → listed.getD m false = true)
    (hi : listed.getD i false = true) {x : Nat} (hx : x ∈ pre md ops i) : listed.getD x false = true :=
  preGo_spec (L := fun x => listed.getD x false = true) (fun m k hm he => hsh m hm k he) i [i] (fun m hm => by simp at hm; subst hm; exact hi) x hx

theorem Inv.kn (S : St sh M Z w1) {listed : Array Bool} {g : Ghost} {w : World} (I : Inv ops md sh M w1 listed g w) {i : Nat} (hun : listed.getD i false = false) : Kn ops md sh M Z w1 i w := by
  refine ⟨I.tr.mono fun b _ ⟨s, hs, hl, hx⟩ => ⟨s, hs, (S.xo s hs b hx).1, fun hi => ?_, hx⟩, I.tr.mono fun b _ ⟨s, hs, _, hx⟩ => (S.xo s hs b hx).2.1⟩
  rw [listed_pre I.shut hl hi] at hun
  cases hun

theorem getD_of_true {listed : Array Bool} {i : Nat} (h : listed.getD i true = false) : listed.getD i false = false := by
  rcases Nat.lt_or_ge i listed.size with h' | h'
  · simp [h'] at h ⊢; exact h
  · simp [Array.getElem?_eq_none h']
theorem getD_set_other {listed : Array Bool} {i k : Nat} (h : k ≠ i) : (listed.setIfInBounds i true).getD k false = listed.getD k false := by
  simp [Array.getElem?_setIfInBounds_ne (Ne.symm h)]

theorem shut_set {listed : Array Bool} {i : Nat} {o : Oper} (ho : ops[i]? = some o) (hsh : ∀ k, listed.getD k false = true → ∀ m, edgeB md ops k m = true → listed.getD m false = true)
    (hall : ∀ e ∈ o.after, Region.binds md e = true → listed.getD e.on false = true) :
    ∀ k, (listed.setIfInBounds i true).getD k false = true → ∀ m, edgeB md ops k m = true → (listed.setIfInBounds i true).getD m false = true := by
  intro k hk m he
  by_cases hki : k = i
  · subst hki
    obtain ⟨e, he', hb, rfl⟩ := edgeB_of ho he
    exact getD_set_true (hall e he' hb)
  · rw [getD_set_other hki] at hk
    exact getD_set_true (hsh k hk m he)

/-- an operation that is not listed leaves all as it was -/
theorem Inv.quiet {listed : Array Bool} {g : Ghost} {w : World} (S : St sh M Z w1) (hC : Cl md ops sh) (I : Inv ops md sh M w1 listed g w) {i : Nat} {o : Oper} (ho : ops[i]? = some o) (hun : listed.getD i false = false)
    (hall : ∀ e ∈ o.after, Region.binds md e = true → listed.getD e.on false = true) (hi : spOf sh i = none) (x : GV) : Inv ops md sh M w1 (listed.setIfInBounds i true) (gput g i x) w := by
  have hne : ∀ k, (spOf sh k).isSome = true → k ≠ i := fun k hk e => by subst e; rw [hi] at hk; cases hk
  have hsi : ∀ s ∈ sh, s.i ≠ i := fun s hs e => by
    have : spOf sh i ≠ none := by
      unfold spOf
      intro h
      have := List.find?_eq_none.1 h s hs
      simp [e] at this
    exact this hi
  refine ⟨I.tr.mono fun b _ ⟨s, hs, hl, hx⟩ => ⟨s, hs, getD_set_true hl, hx⟩, shut_set ho I.shut hall, ⟨fun k hk hs => ?_, fun j k hj hk hsj hsk hjk => ?_⟩, fun s hs hl hk => ?_⟩
  · rw [gput_ne (hne k hs)]
    exact I.ok.1 k ((getD_set_other (hne k hs)).symm.trans hk) hs
  · rw [gput_ne (hne k hsk), gput_ne (hne j hsj)]
    exact I.ok.2 j k ((getD_set_other (hne j hsj)).symm.trans hj) ((getD_set_other (hne k hsk)).symm.trans hk) hsj hsk hjk
  · rw [getD_set_other (hsi s hs)] at hl
    refine S.depF s hs g _ (fun x hx => gput_ne ?_) w (I.fact s hs hl fun j hj => ?_)
    · rcases hx with rfl | hx
      · exact hsi s hs
      · rintro rfl
        have := listed_pre I.shut hl (hC.1 s hs x hx).2
        rw [hun] at this
        cases this
    · have := hk j hj
      by_cases hji : j = i
      · subst hji; exact hun
      · rwa [getD_set_other hji] at this

theorem size_of_getD {listed : Array Bool} {i : Nat} (h : listed.getD i true = false) : i < listed.size := by
  rcases Nat.lt_or_ge i listed.size with h' | h'
  · exact h'
  · simp [Array.getElem?_eq_none h'] at h
theorem getD_set_self {listed : Array Bool} {i : Nat} (h : i < listed.size) : (listed.setIfInBounds i true).getD i false = true := by simp [h]

/-- a listed operation -/
theorem Inv.step {listed : Array Bool} {g : Ghost} {w w' : World} (S : St sh M Z w1) (hC : Cl md ops sh) (I : Inv ops md sh M w1 listed g w) {o : Oper} {s : Sh} {i : Nat} (hs : spOf sh i = some s) (ho : ops[i]? = some o) (hun : listed.getD i true = false)
    (hall : ∀ e ∈ o.after, Region.binds md e = true → listed.getD e.on false = true) (v : Value) (hL : Left M s g w v w') : Inv ops md sh M w1 (listed.setIfInBounds i true) (gput g i ⟨v, w.heap.size, w'.heap.size⟩) w' := by
  obtain ⟨hmem, rfl⟩ := spOf_spec hs
  obtain ⟨hV, hT, hF⟩ := hL
  have hun' := getD_of_true hun
  have hlt := size_of_getD hun
  have hB : w1.heap.size ≤ w.heap.size := I.tr.size
  have hXi : ∀ k ∈ s.Xi, listed.getD k false = true ∧ (spOf sh k).isSome = true := fun k hk => by
    obtain ⟨hd, hso⟩ := hC.2.2.2.1 s hmem k hk
    obtain ⟨hne, hp⟩ := hC.1 s hmem k hd
    exact ⟨(ready_pre I.shut ho hall hp).resolve_right hne, hso⟩
  refine ⟨⟨hT.os.trans I.tr.os, hT.tape.trans I.tr.tape, hT.output.trans I.tr.output, Nat.le_trans hB hT.size, fun b hb hx => ?_⟩, shut_set ho I.shut hall, ⟨fun k hk hsk => ?_, fun j k hj hk hsj hsk hjk => ?_⟩, fun t ht hl hk => ?_⟩
  · rw [hT.block b (Nat.lt_of_lt_of_le hb hB) ?_, I.tr.block b hb fun ⟨t, ht, hl, hxt⟩ => hx ⟨t, ht, getD_set_true hl, hxt⟩]
    rintro (hx' | ⟨k, hk, h1, h2⟩)
    · exact hx ⟨s, hmem, getD_set_self hlt, hx'⟩
    · have := (I.ok.1 k (hXi k hk).1 (hXi k hk).2).1
      omega
  · by_cases hki : k = s.i
    · subst hki; simp only [gput, if_true]; exact ⟨hB, hT.size, Nat.le_refl _⟩
    · rw [gput_ne hki]
      have := I.ok.1 k ((getD_set_other hki).symm.trans hk) hsk
      exact ⟨this.1, this.2.1, Nat.le_trans this.2.2 hT.size⟩
  · by_cases hji : j = s.i
    · by_cases hki : k = s.i
      · exact absurd (hji.trans hki.symm) hjk
      · rw [gput_ne hki, hji]
        have := I.ok.1 k ((getD_set_other hki).symm.trans hk) hsk
        simp only [gput, if_true]
        omega
    · rw [gput_ne hji]
      have hj := (getD_set_other hji).symm.trans hj
      by_cases hki : k = s.i
      · rw [hki]
        have := I.ok.1 j hj hsj
        simp only [gput, if_true]
        omega
      · rw [gput_ne hki]
        exact I.ok.2 j k hj ((getD_set_other hki).symm.trans hk) hsj hsk hjk
  · by_cases hti : t.i = s.i
    · rw [hti]; exact hF
    · rw [getD_set_other hti] at hl
      have hkill : s.i ∉ t.kill := fun hm => by
        have := hk _ hm
        rw [getD_set_self hlt] at this
        cases this
      have hD : ∀ x, x = t.i ∨ x ∈ t.D → x ≠ s.i := fun x hx => by
        rcases hx with rfl | hx
        · exact hti
        · rintro rfl
          have := listed_pre I.shut hl (hC.1 t ht _ hx).2
          rw [hun'] at this
          cases this
      have hF0 := I.fact t ht hl fun j hj => by
        have := hk j hj
        by_cases hji : j = s.i
        · subst hji; exact hun'
        · rwa [getD_set_other hji] at this
      refine S.depF t ht g _ (fun x hx => gput_ne (hD x hx)) w' (S.loc t ht g w w' hF0 (hT.mono fun b hb hX hLb => ?_))
      have hsep := (S.sep t ht s hmem hti).resolve_left hkill
      rcases hX with hx | ⟨k, hkx, h1, h2⟩
      · rcases hLb with hany | hLo | ⟨k, hk, h1, h2⟩
        · exact (hsep.2 hany).1 b hx
        · exact hsep.1 b hLo hx
        · have hlt := (S.xo s hmem b hx).2.2
          obtain ⟨hkD, hks⟩ := hC.2.2.2.2.1 t ht k hk
          have hkl : listed.getD k false = true := by
            rcases hkD with rfl | hkD
            · exact hl
            · exact listed_pre I.shut hl (hC.1 t ht _ hkD).2
          have := (I.ok.1 k hkl hks).1
          omega
      · obtain ⟨hxl, hxs⟩ := hXi k hkx
        rcases hLb with hany | hLo | ⟨m, hm, h3, h4⟩
        · rw [(hsep.2 hany).2] at hkx; cases hkx
        · have hlt := S.lo t ht b hLo
          have := (I.ok.1 k hxl hxs).1
          omega
        · obtain ⟨hmD, hms⟩ := hC.2.2.2.2.1 t ht m hm
          have hml : listed.getD m false = true := by
            rcases hmD with rfl | hmD
            · exact hl
            · exact listed_pre I.shut hl (hC.1 t ht _ hmD).2
          have hne : m ≠ k := fun e => by
            subst e
            exact ((hC.2.2.2.2.2 t ht s hmem hti).resolve_left hkill) m hm hkx
          have := I.ok.2 m k hml hxl hms hxs hne
          omega

theorem wp_of_outS (S : St sh M Z w1) (hC : Cl md ops sh) {listed : Array Bool} {g : Ghost} {w : World} (I : Inv ops md sh M w1 listed g w) {o : Oper} {s : Sh} {i : Nat} (hs : spOf sh i = some s) (ho : ops[i]? = some o) (hun : listed.getD i true = false)
    (hall : ∀ e ∈ o.after, Region.binds md e = true → listed.getD e.on false = true) {a : Act} {K' : Act → World → Prop} {Q' : Exit → Act → World → Prop} (hout : outS P ops md sh M Z w1 o s g a)
    (h : ∀ v w', Left M s g w v w' → K' (a.put o.dst v) w') : o.wp P a w K' Q' := by
  obtain ⟨hmem, rfl⟩ := spOf_spec hs
  have hun' := getD_of_true hun
  have hDl : ∀ k ∈ s.D, listed.getD k false = true := fun k hk => by
    obtain ⟨hne, hp⟩ := hC.1 s hmem k hk
    exact (ready_pre I.shut ho hall hp).resolve_right hne
  have hh := hout.2 w (I.kn S hun') ⟨fun k hk hsk => I.ok.1 k (hDl k hk) hsk, fun j k hj hk hsj hsk hjk => I.ok.2 j k (hDl j hj) (hDl k hk) hsj hsk hjk⟩ fun k hk => by
    obtain ⟨hkD, hks, hku⟩ := hC.2.2.1 s hmem k hk
    obtain ⟨t, ht⟩ := Option.isSome_iff_exists.1 hks
    obtain ⟨htm, rfl⟩ := spOf_spec ht
    refine I.fact t htm (hDl _ hkD) fun j hj => ?_
    rcases hku t htm rfl j hj with rfl | hp
    · exact hun'
    · by_cases hjl : listed.getD j false = true
      · have := listed_pre I.shut hjl hp
        rw [hun'] at this
        cases this
      · simpa using hjl
  unfold Oper.wp
  generalize (execOp a.eval o).run P w = r at *
  cases r with
  | ok n w' =>
    cases n <;> simp only [sUpon] at hh <;> simp only [Oper.upon]
    case enter f args =>
      refine hh.mono fun e w'' hx => ?_
      obtain ⟨v, rfl, hv⟩ := hx
      exact h v w'' hv
    all_goals exact h _ _ hh
  | halt x w' => simp only [sUpon] at hh

theorem wpAny_of_S (S : St sh M Z w1) (hC : Cl md ops sh) {Q : Ghost → Act → Prop} {Q' : Exit → Act → World → Prop}
    (hQ : ∀ g a, Q g a → ∀ w listed, Inv ops md sh M w1 listed g w → (∀ j, j < ops.size → listed.getD j false = true) → Q' .normal a w) : ∀ (fuel : Nat) (listed : Array Bool) (g : Ghost) (a : Act),
    wpAnyS P ops md sh M Z w1 Q fuel listed g a → ∀ w, Inv ops md sh M w1 listed g w → listed.size = ops.size → wpAny P md ops Q' fuel listed a w
  | 0, listed, g, a, h => fun w hI hz => ⟨h.1, hQ _ _ h.2.2 w listed hI fun j hj => (by have := h.2.1 j hj; simpa [hz, hj] using this)⟩
  | fuel + 1, listed, g, a, h => fun w hI hz => by
    refine ⟨fun h0 => absurd h0 h.1, fun i hi => ?_⟩
    have hs := h.2 i hi
    obtain ⟨hun, o', ho', hall⟩ := mem_ready.1 hi
    unfold sOp at hs
    unfold wpOp
    split
    · rename_i ho; simp only [ho] at hs
    · rename_i o ho
      simp only [ho] at hs
      have hoo : o' = o := by rw [ho'] at ho; exact Option.some.inj ho
      subst hoo
      cases hsp : spOf sh i with
      | some s =>
        simp only [hsp] at hs
        rw [if_pos hs.1.1]
        refine .inl (wp_of_outS S hC hI hsp ho' hun hall hs.1 fun v w' hL => ?_)
        have hst := hI.step S hC hsp ho' hun hall v hL
        have hi' := (spOf_spec hsp).2
        exact wpAny_of_S S hC hQ fuel _ _ _ (hs.2 ⟨v, w.heap.size, w'.heap.size⟩ hI.tr.size hL.2.1.size (by rw [← hi']; exact hL.1)) w' hst (by simpa using hz)
      | none =>
        simp only [hsp] at hs
        obtain ⟨v, hy, hK⟩ := hs
        have hq := hI.quiet S hC ho' (getD_of_true hun) hall hsp ⟨v, 0, 0⟩
        rcases hy with ⟨hw, hr⟩ | ⟨hw, rfl⟩
        · rw [if_pos hw]
          refine .inl ?_
          unfold Oper.wp
          rw [hr w (hI.kn S (getD_of_true hun))]
          exact wpAny_of_S S hC hQ fuel _ _ _ hK w hq (by simpa using hz)
        · rw [if_neg (by simp [hw])]
          exact wpAny_of_S S hC hQ fuel _ _ _ hK w hq (by simpa using hz)

/-! ### an operation that may come first may come first always -/
def Yields (P : Program) (ops : Array Oper) (md : Region.Mode) (sh : List Sh) (M : Nat → Mean) (Z : Nat → Prop) (w1 : World) (o : Oper) (i : Nat) (g : Ghost) (a : Act) (x : GV) : Prop :=
  match spOf sh i with
  | some s => outS P ops md sh M Z w1 o s g a ∧ w1.heap.size ≤ x.lo ∧ x.lo ≤ x.hi ∧ (M i).V g x
  | none => YK P ops md sh M Z w1 o i a x.v ∧ x.lo = 0 ∧ x.hi = 0

theorem GOk.congr {D : Nat → Prop} {g g' : Ghost} {n : Nat} (h : ∀ k, D k → g' k = g k) (hg : GOk sh w1 D g n) : GOk sh w1 D g' n :=
  ⟨fun k hk hs => by rw [h k hk]; exact hg.1 k hk hs, fun j k hj hk hsj hsk hjk => by rw [h k hk, h j hj]; exact hg.2 j k hj hk hsj hsk hjk⟩
theorem XX_congr {s : Sh} {g g' : Ghost} (h : ∀ k ∈ s.Xi, g' k = g k) : XX M s g' = XX M s g := by
  funext b
  unfold XX
  apply propext
  exact or_congr Iff.rfl ⟨fun ⟨k, hk, h1⟩ => ⟨k, hk, by rw [← h k hk]; exact h1⟩, fun ⟨k, hk, h1⟩ => ⟨k, hk, by rw [h k hk]; exact h1⟩⟩
theorem V_gput (S : St sh M Z w1) {s : Sh} (hs : s ∈ sh) {g : Ghost} {i : Nat} (x : GV) (h : i ∉ s.D) (y : GV) : (M s.i).V (gput g i x) y ↔ (M s.i).V g y :=
  ⟨S.depV s hs _ _ (fun k hk => (gput_ne (fun e : k = i => h (by rw [← e]; exact hk))).symm) y, S.depV s hs _ _ (fun k hk => gput_ne (fun e : k = i => h (by rw [← e]; exact hk))) y⟩
theorem outS_gput (S : St sh M Z w1) (hC : Cl md ops sh) {s : Sh} (hs : s ∈ sh) {o : Oper} {a : Act} {g : Ghost} {i : Nat} (x : GV) (h : i ∉ s.D) :
    outS P ops md sh M Z w1 o s (gput g i x) a ↔ outS P ops md sh M Z w1 o s g a := by
  have hn : ∀ k ∈ s.D, gput g i x k = g k := fun k hk => gput_ne (fun e : k = i => h (by rw [← e]; exact hk))
  have hX : XX M s (gput g i x) = XX M s g := XX_congr fun k hk => hn k (hC.2.2.2.1 s hs k hk).1
  have hF : ∀ y w, (M s.i).F (gput (gput g i x) s.i y) w ↔ (M s.i).F (gput g s.i y) w := fun y w => by
    have hx : ∀ k, k = s.i ∨ k ∈ s.D → gput (gput g i x) s.i y k = gput g s.i y k := fun k hk => by
      by_cases hks : k = s.i
      · subst hks; simp [gput]
      · rw [gput_ne hks, gput_ne hks]
        exact hn k (hk.resolve_left hks)
    exact ⟨S.depF s hs _ _ (fun k hk => (hx k hk).symm) w, S.depF s hs _ _ hx w⟩
  have hL : ∀ w, Left M s (gput g i x) w = Left M s g w := fun w => by
    funext v w'
    unfold Left
    rw [hX]
    apply propext
    exact and_congr (V_gput S hs x h _) (and_congr Iff.rfl (hF _ _))
  have hU : ∀ k ∈ s.use, ∀ w, (M k).F (gput g i x) w ↔ (M k).F g w := fun k hk w => by
    obtain ⟨hkD, hks, _⟩ := hC.2.2.1 s hs k hk
    obtain ⟨t, ht⟩ := Option.isSome_iff_exists.1 hks
    obtain ⟨htm, rfl⟩ := spOf_spec ht
    have hx : ∀ m, m = t.i ∨ m ∈ t.D → gput g i x m = g m := fun m hm => by
      rcases hm with rfl | hm
      · exact hn _ hkD
      · exact hn _ (hC.2.1 s hs t htm hkD m hm)
    exact ⟨S.depF t htm _ _ (fun m hm => (hx m hm).symm) w, S.depF t htm _ _ hx w⟩
  unfold outS
  refine and_congr Iff.rfl (forall_congr' fun w => forall_congr' fun _ => ?_)
  rw [hL w]
  constructor
  · intro hh hg hf
    exact hh (GOk.congr (fun k hk => hn k hk) hg) fun k hk => (hU k hk w).2 (hf k hk)
  · intro hh hg hf
    exact hh (GOk.congr (fun k hk => (hn k hk).symm) hg) fun k hk => (hU k hk w).1 (hf k hk)
theorem YK_put {o : Oper} {a : Act} {i : Nat} {v : Value} (hsel : ∀ cs b, o.op ≠ .select cs b) {dst : Option Tmp} {u : Value} (h : ∀ d, dst = some d → d ∉ o.looksAt ops) : YK P ops md sh M Z w1 o i (a.put dst u) v ↔ YK P ops md sh M Z w1 o i a v := by
  unfold YK
  rw [wanted_put o a dst u h, execOp_put o hsel a dst u h]
theorem outS_put {o : Oper} {a : Act} {s : Sh} {g : Ghost} (hsel : ∀ cs b, o.op ≠ .select cs b) {dst : Option Tmp} {u : Value} (h : ∀ d, dst = some d → d ∉ o.looksAt ops) : outS P ops md sh M Z w1 o s g (a.put dst u) ↔ outS P ops md sh M Z w1 o s g a := by
  unfold outS
  rw [wanted_put o a dst u h, execOp_put o hsel a dst u h]
theorem YK_one {o : Oper} {i : Nat} {a : Act} {u v : Value} (hu : YK P ops md sh M Z w1 o i a u) (hv : YK P ops md sh M Z w1 o i a v) : u = v := by
  have hk : Kn ops md sh M Z w1 i w1 := ⟨Tr.refl _ _, Tr.refl _ _⟩
  rcases hu with ⟨h1, h2⟩ | ⟨h1, rfl⟩ <;> rcases hv with ⟨h3, h4⟩ | ⟨h3, rfl⟩
  · have := (h2 w1 hk).symm.trans (h4 w1 hk)
    simpa using this
  · rw [h1] at h3; cases h3
  · rw [h1] at h3; cases h3
  · rfl

theorem Yields_keep (S : St sh M Z w1) (hC : Cl md ops sh) {i j : Nat} {oi oj : Oper} (hDi : ∀ s ∈ sh, s.i = i → j ∉ s.D) (hsi : ∀ cs b, oi.op ≠ .select cs b) (h3 : ∀ d, oj.dst = some d → d ∉ oi.looksAt ops)
    {g : Ghost} {a : Act} {x : GV} (y : GV) (hy : Yields P ops md sh M Z w1 oi i g a x) : Yields P ops md sh M Z w1 oi i (gput g j y) (a.put oj.dst y.v) x := by
  unfold Yields at *
  split
  · rename_i s hs
    simp only [hs] at hy
    obtain ⟨hm, rfl⟩ := spOf_spec hs
    exact ⟨(outS_put hsi h3).2 ((outS_gput S hC hm y (hDi s hm rfl)).2 hy.1), hy.2.1, hy.2.2.1, (V_gput S hm y (hDi s hm rfl) x).2 hy.2.2.2⟩
  · rename_i hs
    simp only [hs] at hy
    exact ⟨(YK_put hsi h3).2 hy.1, hy.2⟩

/-- all that operation i may yield -/
def AllY (P : Program) (ops : Array Oper) (md : Region.Mode) (sh : List Sh) (M : Nat → Mean) (Z : Nat → Prop) (w1 : World) (o : Oper) (i : Nat) (g : Ghost) (a : Act) (K : GV → Prop) : Prop :=
  (∃ x, Yields P ops md sh M Z w1 o i g a x) ∧ ∀ x, Yields P ops md sh M Z w1 o i g a x → K x

theorem sOp_iff (S : St sh M Z w1) {i : Nat} {o : Oper} (ho : ops[i]? = some o) {K : Ghost → Act → Prop} {g : Ghost} {a : Act} :
    sOp P ops md sh M Z w1 i K g a ↔ AllY P ops md sh M Z w1 o i g a fun x => K (gput g i x) (a.put o.dst x.v) := by
  unfold sOp AllY Yields
  simp only [ho]
  cases hs : spOf sh i with
  | some s =>
    obtain ⟨hm, rfl⟩ := spOf_spec hs
    simp only []
    constructor
    · intro ⟨h1, h2⟩
      obtain ⟨x, h3, h4, h5⟩ := S.some_ s hm g
      exact ⟨⟨x, h1, h3, h4, h5⟩, fun x ⟨_, h6, h7, h8⟩ => h2 x h6 h7 h8⟩
    · intro ⟨⟨x, h1, h3⟩, h2⟩
      exact ⟨h1, fun y h6 h7 h8 => h2 y ⟨h1, h6, h7, h8⟩⟩
  | none =>
    simp only []
    constructor
    · intro ⟨v, h1, h2⟩
      refine ⟨⟨⟨v, 0, 0⟩, h1, rfl, rfl⟩, fun ⟨u, lo, hi⟩ ⟨h3, h4, h5⟩ => ?_⟩
      dsimp only at h3 h4 h5
      subst h4; subst h5
      rw [YK_one h3 h1]
      exact h2
    · intro ⟨⟨⟨v, lo, hi⟩, h1, h4, h5⟩, h2⟩
      dsimp only at h1 h4 h5
      subst h4; subst h5
      exact ⟨v, h1, h2 ⟨v, 0, 0⟩ ⟨h1, rfl, rfl⟩⟩

theorem wpAnyS_first (S : St sh M Z w1) (hC : Cl md ops sh) {Q : Ghost → Act → Prop} {i : Nat} {oi : Oper} (hi : ops[i]? = some oi) (hsel : ∀ (j : Nat) (o : Oper) cs b, ops[j]? = some o → o.op ≠ .select cs b) :
    ∀ (fuel : Nat) (listed : Array Bool) (g : Ghost) (a : Act), (∀ k, listed.getD k false = true → ∀ m, edgeB md ops k m = true → listed.getD m false = true) →
      (∀ j oj, ops[j]? = some oj → j ≠ i → listed.getD j true = false → (∀ e ∈ oj.after, Region.binds md e = true → e.on ≠ i) → oi.apart ops oj = true) →
      i ∈ Region.ready md ops listed → AllY P ops md sh M Z w1 oi i g a (fun x => wpAnyS P ops md sh M Z w1 Q fuel (listed.setIfInBounds i true) (gput g i x) (a.put oi.dst x.v)) → wpAnyS P ops md sh M Z w1 Q (fuel + 1) listed g a := by
  have hnotOf : ∀ (listed : Array Bool) (i j : Nat) (oj : Oper), listed.getD i true = false → (∀ e ∈ oj.after, Region.binds md e = true → listed.getD e.on false = true) → ∀ e ∈ oj.after, Region.binds md e = true → e.on ≠ i := by
    intro listed i j oj h0 hall e he hb heq
    have h1 := hall e he hb
    rw [heq] at h1
    rcases Nat.lt_or_ge i listed.size with h' | h'
    · simp [h'] at h0 h1; rw [h0] at h1; cases h1
    · simp [Array.getElem?_eq_none h'] at h1
  intro fuel
  induction fuel with
  | zero =>
    intro listed g a hsh _ hr H
    refine ⟨fun h => (by rw [h] at hr; cases hr), fun j hj => ?_⟩
    by_cases hji : j = i
    · subst hji
      exact (sOp_iff S hi).2 H
    · exfalso
      obtain ⟨x0, hx0⟩ := H.1
      have := ready_mono hj hji
      rw [(H.2 x0 hx0).1] at this
      cases this
  | succ fuel ih =>
    intro listed g a hsh hfree hr H
    refine ⟨fun h => (by rw [h] at hr; cases hr), fun j hj => ?_⟩
    by_cases hji : j = i
    · subst hji
      exact (sOp_iff S hi).2 H
    · obtain ⟨x0, hx0⟩ := H.1
      have h1 := fun x hx => (H.2 x hx).2 j (ready_mono hj hji)
      obtain ⟨hjun, oj, hoj, hall⟩ := mem_ready.1 hj
      obtain ⟨hiun, oi', hoi', halli⟩ := mem_ready.1 hr
      have hoo : oi' = oi := by rw [hoi'] at hi; exact Option.some.inj hi
      subst hoo
      have hnot := hnotOf listed i j oj hiun hall
      have hnot' := hnotOf listed j i oi' hjun halli
      have hap := hfree j oj hoj hji hjun hnot
      obtain ⟨hp1, hp2, hp3⟩ := Oper.apart_spec hap
      have hDj : ∀ s ∈ sh, s.i = j → i ∉ s.D := fun s hs e hm => by
        obtain ⟨hne, hp⟩ := hC.1 s hs i hm
        rw [e] at hp
        rcases ready_pre hsh hoj hall hp with h' | h'
        · rw [getD_of_true hiun] at h'; cases h'
        · exact hji h'.symm
      have hDi : ∀ s ∈ sh, s.i = i → j ∉ s.D := fun s hs e hm => by
        obtain ⟨hne, hp⟩ := hC.1 s hs j hm
        rw [e] at hp
        rcases ready_pre hsh hoi' halli hp with h' | h'
        · rw [getD_of_true hjun] at h'; cases h'
        · exact hji h'
      have hselj := fun cs b => hsel j oj cs b hoj
      have hseli := fun cs b => hsel i oi' cs b hoi'
      -- what j yields behind i it yields ahead of it
      have back : ∀ x y, Yields P ops md sh M Z w1 oj j g a y → Yields P ops md sh M Z w1 oj j (gput g i x) (a.put oi'.dst x.v) y := fun x y hy =>
        Yields_keep S hC hDj hselj hp1 x hy
      have forth : ∀ x y, Yields P ops md sh M Z w1 oj j (gput g i x) (a.put oi'.dst x.v) y → Yields P ops md sh M Z w1 oj j g a y := fun x y hy => by
        unfold Yields at *
        split
        · rename_i s hs
          simp only [hs] at hy
          obtain ⟨hm, e⟩ := spOf_spec hs
          subst e
          exact ⟨(outS_gput S hC hm x (hDj s hm rfl)).1 ((outS_put hselj hp1).1 hy.1), hy.2.1, hy.2.2.1, (V_gput S hm x (hDj s hm rfl) y).1 hy.2.2.2⟩
        · rename_i hs
          simp only [hs] at hy
          exact ⟨(YK_put hselj hp1).1 hy.1, hy.2⟩
      refine (sOp_iff S hoj).2 ⟨?_, fun y hy => ?_⟩
      · obtain ⟨⟨y, hy⟩, _⟩ := (sOp_iff S hoj).1 (h1 x0 hx0)
        exact ⟨y, forth x0 y hy⟩
      · have hfree' : ∀ k ok, ops[k]? = some ok → k ≠ i → (listed.setIfInBounds j true).getD k true = false →
            (∀ e ∈ ok.after, Region.binds md e = true → e.on ≠ i) → oi'.apart ops ok = true := fun k ok hk hki hun hno => by
          refine hfree k ok hk hki ?_ hno
          by_cases hjk : j = k
          · subst hjk; exact hjun
          · rw [getD_set_ne true hjk] at hun; exact hun
        refine ih (listed.setIfInBounds j true) _ _ (shut_set hoj hsh hall) hfree' (ready_mono hr (Ne.symm hji)) ⟨?_, fun x hx => ?_⟩
        · exact ⟨x0, Yields_keep S hC hDi hseli hp3 y hx0⟩
        · have hx' : Yields P ops md sh M Z w1 oi' i g a x := by
            unfold Yields at *
            split
            · rename_i s hs
              simp only [hs] at hx
              obtain ⟨hm, e⟩ := spOf_spec hs
              subst e
              exact ⟨(outS_gput S hC hm y (hDi s hm rfl)).1 ((outS_put hseli hp3).1 hx.1), hx.2.1, hx.2.2.1, (V_gput S hm y (hDi s hm rfl) x).1 hx.2.2.2⟩
            · rename_i hs
              simp only [hs] at hx
              exact ⟨(YK_put hseli hp3).1 hx.1, hx.2⟩
          have := ((sOp_iff S hoj).1 (h1 x hx')).2 y (back x y hy)
          show wpAnyS P ops md sh M Z w1 Q fuel _ _ _
          rw [Array.setIfInBounds_comm _ _ hji, ← gput_comm g y x (Ne.symm hji), ← Act.put_comm a x.v y.v hp2]
          exact this

def lexFrom6 (md : Region.Mode) (ops : Array Oper) : Nat → Nat → Array Bool → Bool
  | 0, _, listed => (Region.ready md ops listed).isEmpty && (List.range ops.size).all fun j => listed.getD j true
  | fuel + 1, k, listed => (Region.ready md ops listed).contains k && Region.free md ops listed k && lexFrom6 md ops fuel (k + 1) (listed.setIfInBounds k true)
def lex6 (md : Region.Mode) (ops : Array Oper) (sh : List Sh) : Bool := Region.noSelect ops && lexFrom6 md ops ops.size 0 (Array.replicate ops.size false) && decide (Cl md ops sh)

theorem wpAnyS_lex (S : St sh M Z w1) (hC : Cl md ops sh) {Q : Ghost → Act → Prop} (hs : Region.noSelect ops = true) : ∀ (l : List Oper) (k : Nat) (listed : Array Bool) (g : Ghost) (a : Act), (∀ j, l[j]? = ops[k + j]?) →
    (∀ k, listed.getD k false = true → ∀ m, edgeB md ops k m = true → listed.getD m false = true) →
    lexFrom6 md ops l.length k listed = true → wpS P ops md sh M Z w1 Q k l g a → wpAnyS P ops md sh M Z w1 Q l.length listed g a
  | [], _, _, _, _, _, _, hB, h => by
    simp only [List.length_nil, lexFrom6, Bool.and_eq_true] at hB
    exact ⟨by simpa using hB.1, fun j hj => List.all_eq_true.1 hB.2 j (List.mem_range.2 hj), h⟩
  | o :: l, k, listed, g, a, hl, hsh, hB, h => by
    have h0 : ops[k]? = some o := by simpa using (hl 0).symm
    simp only [List.length_cons, lexFrom6, Bool.and_eq_true] at hB
    obtain ⟨⟨hr, hf⟩, hB'⟩ := hB
    have hr' : k ∈ Region.ready md ops listed := by simpa using hr
    obtain ⟨hun, o', ho', hall⟩ := mem_ready.1 hr'
    have hoo : o' = o := by rw [ho'] at h0; exact Option.some.inj h0
    subst hoo
    have hop : sOp P ops md sh M Z w1 k (fun g a => wpS P ops md sh M Z w1 Q (k + 1) l g a) g a := by
      unfold sOp
      simp only [h0]
      exact h
    obtain ⟨h1, h2⟩ := (sOp_iff S h0).1 hop
    refine wpAnyS_first S hC h0 (Region.noSelect_spec hs) l.length listed g a hsh (Region.free_spec h0 hf) hr' ⟨h1, fun x hx => ?_⟩
    exact wpAnyS_lex S hC hs l (k + 1) _ _ _ (fun j => by have := hl (j + 1); simpa [Nat.add_assoc, Nat.add_comm 1 j] using this) (shut_set h0 hsh hall) hB' (h2 x hx)

/-- what stands behind the region -/
def After (sh : List Sh) (M : Nat → Mean) (Z : Nat → Prop) (w1 : World) (n : Nat) (R : Act → World → Prop) (g : Ghost) (a : Act) : Prop :=
  ∀ w', Tr Z w1 w' → GOk sh w1 (· < n) g w'.heap.size → (∀ i s, spOf sh i = some s → s.kill = [] → i < n → (M i).F g w') → R a w'

theorem wpAny_six {Q : Exit → Act → World → Prop} {a : Act} {l : List Oper} (hB : lex6 .any l.toArray sh = true) (S : St sh M Z w1)
    (h : ∀ QQ : Ghost → Act → Prop, (∀ g a', After sh M Z w1 l.length (fun a w => Q .normal a w) g a' → QQ g a') → wpS P l.toArray .any sh M Z w1 QQ 0 l (fun _ => ⟨undef, 0, 0⟩) a) :
    wpAny P .any l.toArray Q l.toArray.size (Array.replicate l.toArray.size false) a w1 := by
  simp only [lex6, Bool.and_eq_true, decide_eq_true_eq] at hB
  have hno : ∀ k, (Array.replicate l.toArray.size false).getD k false = true → False := fun k hk => by
    rw [Array.getD_eq_getD_getElem?, Array.getElem?_replicate] at hk
    split at hk <;> cases hk
  have h1 := wpAnyS_lex (md := .any) S hB.2 hB.1.1 l 0 (Array.replicate l.toArray.size false) (fun _ => ⟨undef, 0, 0⟩) a (by simp) (fun k hk => (hno k hk).elim) (by simpa using hB.1.2) (h _ fun _ _ h => h)
  have := wpAny_of_S S hB.2 (Q' := Q) (fun g a h w listed I hall => h w (I.tr.mono fun b _ ⟨s, hs, _, hx⟩ => (S.xo s hs b hx).2.1)
    ⟨fun k hk hsk => I.ok.1 k (hall k (by simpa using hk)) hsk, fun j k hj hk hsj hsk hjk => I.ok.2 j k (hall j (by simpa using hj)) (hall k (by simpa using hk)) hsj hsk hjk⟩
    fun i s hs hk hlt => (spOf_spec hs).2 ▸ I.fact s (spOf_spec hs).1 (by rw [(spOf_spec hs).2]; exact hall _ (by simpa using hlt)) fun j hj => by rw [hk] at hj; cases hj) _ _ _ _ h1 w1
    ⟨Tr.refl _ _, fun k hk => (hno k hk).elim, ⟨fun k hk => (hno k hk).elim, fun j k hj => (hno j hj).elim⟩, fun s _ hl => (hno _ hl).elim⟩ (by simp)
  simpa using this

/-- THE LAW -/
theorem wp_region_six {id : Nat} {Q : Exit → Act → World → Prop} {a : Act} {w : World} {l : List Oper} (sh : List Sh) (M : Nat → Mean) (Z : Nat → Prop) (hm : P.follows .mixedOrders = true) (hB : lex6 .any l.toArray sh = true)
    (S : St sh M Z w.drew)
    (h : ∀ QQ : Ghost → Act → Prop, (∀ g a', After sh M Z w.drew l.length (fun a w => Q .normal a w) g a' → QQ g a') → wpS P l.toArray .any sh M Z w.drew QQ 0 l (fun _ => ⟨undef, 0, 0⟩) a) : (Code.region id l.toArray true).wp P Q a w :=
  wp_region_any hm (wpAny_six hB S h)
/-- the same for a region that draws nothing -/
theorem wp_region_six0 {id : Nat} {Q : Exit → Act → World → Prop} {a : Act} {w : World} {l : List Oper} (sh : List Sh) (M : Nat → Mean) (Z : Nat → Prop) (hm : Region.linearise .any l.toArray 0 = List.range l.toArray.size) (hB : lex6 .any l.toArray sh = true)
    (S : St sh M Z w)
    (h : ∀ QQ : Ghost → Act → Prop, (∀ g a', After sh M Z w l.length (fun a w => Q .normal a w) g a' → QQ g a') → wpS P l.toArray .any sh M Z w QQ 0 l (fun _ => ⟨undef, 0, 0⟩) a) : (Code.region id l.toArray false).wp P Q a w :=
  wp_region (hm ▸ wpAny_sound _ 0 _ _ _ (wpAny_six hB S h))
end
end Go.Proofs.Ytpdenhmkpiafiaa.K6

/-! R6: THE LAW K6 MADE READY: kinds of listed operations (a value of a set; a fact; a block made; a store), and the steps of the walk. -/
namespace Go.Proofs.Ytpdenhmkpiafiaa.K6
open Go Go.RowKit

abbrev Sp := Sh × Mean
def dflt : Mean := ⟨fun _ _ => True, fun _ _ => True, None_, None_⟩
def shs (l : List Sp) : List Sh := l.map (·.1)
def look6 (l : List Sp) (i : Nat) : Mean := match l with
  | [] => dflt
  | p :: l => if p.1.i = i then p.2 else look6 l i

structure OpOk (w1 : World) (Z : Nat → Prop) (p : Sp) : Prop where
  some_ : ∀ g, ∃ x : GV, w1.heap.size ≤ x.lo ∧ x.lo ≤ x.hi ∧ p.2.V g x
  depV : ∀ g g', (∀ x ∈ p.1.D, g' x = g x) → ∀ x, p.2.V g x → p.2.V g' x
  depF : ∀ g g', (∀ x, x = p.1.i ∨ x ∈ p.1.D → g' x = g x) → ∀ w, p.2.F g w → p.2.F g' w
  loc : ∀ g w w', p.2.F g w → Tr (fun b => ¬ (p.1.any = true ∨ p.2.Lo b ∨ ∃ k ∈ p.1.Li, (g k).lo ≤ b ∧ b < (g k).hi)) w w' → p.2.F g w'
  xo : ∀ b, p.2.Xo b → p.1.x = true ∧ Z b ∧ b < w1.heap.size
  lo : ∀ b, p.2.Lo b → p.1.l = true ∧ b < w1.heap.size
def AllOk (w1 : World) (Z : Nat → Prop) : List Sp → Prop
  | [] => True
  | p :: l => OpOk w1 Z p ∧ AllOk w1 Z l
theorem AllOk.mem {w1 : World} {Z : Nat → Prop} : ∀ {l : List Sp}, AllOk w1 Z l → ∀ p ∈ l, OpOk w1 Z p
  | _ :: _, h, p, hp => by
    rcases List.mem_cons.1 hp with rfl | hp
    · exact h.1
    · exact h.2.mem p hp

def onceB : List Sp → Bool
  | [] => true
  | p :: l => l.all (fun q => q.1.i != p.1.i) && onceB l
theorem look_mem : ∀ {l : List Sp}, onceB l = true → ∀ p ∈ l, look6 l p.1.i = p.2
  | q :: l, h, p, hp => by
    simp only [onceB, Bool.and_eq_true] at h
    rcases List.mem_cons.1 hp with rfl | hp
    · simp [look6]
    · have := List.all_eq_true.1 h.1 p hp
      have hne : q.1.i ≠ p.1.i := fun e => by simp [e] at this
      simp only [look6, if_neg hne]
      exact look_mem h.2 p hp

def isX (s : Sh) : Bool := s.x || !s.Xi.isEmpty
/-- each listed operation but those of 'fi' is undone by all that change memory; 'fi' and 'xi' are held against each other by the prover -/
def sepB (sh : List Sh) (fi xi : List Nat) : Bool := sh.all fun s => (!s.any && !s.l) || (fi.contains s.i && !s.any && sh.all fun t => !isX t || xi.contains t.i) || sh.all fun t => !isX t || t.i == s.i || s.kill.contains t.i

theorem mk_St {w1 : World} {Z : Nat → Prop} (l : List Sp) (fi xi : List Nat) (h1 : onceB l = true) (h2 : sepB (shs l) fi xi = true) (h : AllOk w1 Z l)
    (h3 : ∀ i ∈ fi, ∀ j ∈ xi, i ≠ j → ∀ b, (look6 l i).Lo b → ¬ (look6 l j).Xo b) : St (shs l) (look6 l) Z w1 := by
  have hm : ∀ s ∈ shs l, ∃ m, (s, m) ∈ l ∧ look6 l s.i = m := fun s hs => by
    obtain ⟨⟨s', m⟩, hp, rfl⟩ := List.mem_map.1 hs
    exact ⟨m, hp, look_mem h1 _ hp⟩
  have hx : ∀ s ∈ shs l, isX s = false → (∀ b, ¬ (look6 l s.i).Xo b) ∧ s.Xi = [] := fun s hs he => by
    obtain ⟨m, hp, hl⟩ := hm s hs
    simp only [isX, Bool.or_eq_false_iff, Bool.not_eq_false', List.isEmpty_iff] at he
    refine ⟨fun b hb => ?_, he.2⟩
    rw [hl] at hb
    have := ((h.mem _ hp).xo b hb).1
    simp only at this
    rw [he.1] at this
    cases this
  refine ⟨fun s hs => ?_, fun s hs => ?_, fun s hs => ?_, fun s hs => ?_, fun s hs => ?_, fun s hs => ?_, fun s hs t ht hne => ?_⟩
  · obtain ⟨m, hp, hl⟩ := hm s hs; rw [hl]; exact (h.mem _ hp).some_
  · obtain ⟨m, hp, hl⟩ := hm s hs; rw [hl]; exact (h.mem _ hp).depV
  · obtain ⟨m, hp, hl⟩ := hm s hs; rw [hl]; exact (h.mem _ hp).depF
  · obtain ⟨m, hp, hl⟩ := hm s hs
    unfold LL
    rw [hl]; exact (h.mem _ hp).loc
  · obtain ⟨m, hp, hl⟩ := hm s hs; rw [hl]; exact (h.mem _ hp).xo
  · obtain ⟨m, hp, hl⟩ := hm s hs; rw [hl]; exact fun b hb => ((h.mem _ hp).lo b hb).2
  · have hs2 := List.all_eq_true.1 h2 s hs
    cases ht' : isX t with
    | false =>
      obtain ⟨h5, h6⟩ := hx t ht ht'
      exact .inr ⟨fun b _ => h5 b, fun _ => ⟨h5, h6⟩⟩
    | true =>
      simp only [Bool.or_eq_true, Bool.and_eq_true] at hs2
      rcases hs2 with (⟨hna, hnl⟩ | ⟨⟨hf, hany⟩, hxi⟩) | hk
      · obtain ⟨m, hp, hl⟩ := hm s hs
        refine .inr ⟨fun b hb => ?_, fun ha => by rw [ha] at hna; cases hna⟩
        rw [hl] at hb
        have := ((h.mem _ hp).lo b hb).1
        simp only at this
        rw [this] at hnl
        cases hnl
      · have := List.all_eq_true.1 hxi t ht
        simp only [ht', Bool.not_true, Bool.false_or] at this
        refine .inr ⟨h3 s.i (by simpa using hf) t.i (by simpa using this) hne, fun ha => ?_⟩
        rw [ha] at hany; cases hany
      · have := List.all_eq_true.1 hk t ht
        simp only [ht', Bool.not_true, Bool.false_or, Bool.or_eq_true, beq_iff_eq] at this
        exact .inl (by simpa using this.resolve_left (Ne.symm hne))

/-! ### kinds -/
/-- it yields a value of a set -/
def sV (i : Nat) (D use : List Nat) (p : Value → Prop) : Sp := (⟨i, D, use, [], [], [], false, false, false⟩, ⟨fun _ x => p x.v, fun _ _ => True, None_, None_⟩)
theorem ok_V {w1 : World} {Z : Nat → Prop} {i : Nat} {D use : List Nat} {p : Value → Prop} (h : ∃ v, p v) : OpOk w1 Z (sV i D use p) where
  some_ := fun _ => by obtain ⟨v, hv⟩ := h; exact ⟨⟨v, w1.heap.size, w1.heap.size⟩, Nat.le_refl _, Nat.le_refl _, hv⟩
  depV := fun _ _ _ _ h => h
  depF := fun _ _ _ _ h => h
  loc := fun _ _ _ _ _ => trivial
  xo := fun _ h => h.elim
  lo := fun _ h => h.elim
/-- it leaves a fact of its value, which new memory does not undo -/
def sF (i : Nat) (D use kill : List Nat) (p : GV → Prop) (f : GV → World → Prop) : Sp := (⟨i, D, use, kill, [], [], true, false, false⟩, ⟨fun _ x => p x, fun g w => f (g i) w, None_, None_⟩)
theorem ok_F {w1 : World} {Z : Nat → Prop} {i : Nat} {D use kill : List Nat} {p : GV → Prop} {f : GV → World → Prop} (h : ∃ x : GV, w1.heap.size ≤ x.lo ∧ x.lo ≤ x.hi ∧ p x) (hl : ∀ x w w', f x w → Below w.heap.size w w' → f x w') : OpOk w1 Z (sF i D use kill p f) where
  some_ := fun _ => h
  depV := fun _ _ _ _ h => h
  depF := fun g g' hg w h => by show f (g' i) w; rw [hg i (.inl rfl)]; exact h
  loc := fun g w w' h hT => hl _ w w' h ((hT.mono fun b _ hb => hb (.inl rfl)).below)
  xo := fun _ h => h.elim
  lo := fun _ h => h.elim
/-- its fact speaks of its own blocks alone -/
def sG (i : Nat) (D use kill : List Nat) (p : GV → Prop) (f : GV → World → Prop) : Sp := (⟨i, D, use, kill, [], [i], false, false, false⟩, ⟨fun _ x => p x, fun g w => f (g i) w, None_, None_⟩)
theorem ok_G {w1 : World} {Z : Nat → Prop} {i : Nat} {D use kill : List Nat} {p : GV → Prop} {f : GV → World → Prop} (h : ∃ x : GV, w1.heap.size ≤ x.lo ∧ x.lo ≤ x.hi ∧ p x)
    (hl : ∀ (x : GV) w w', f x w → Tr (fun b => ¬ (x.lo ≤ b ∧ b < x.hi)) w w' → f x w') : OpOk w1 Z (sG i D use kill p f) where
  some_ := fun _ => h
  depV := fun _ _ _ _ h => h
  depF := fun g g' hg w h => by show f (g' i) w; rw [hg i (.inl rfl)]; exact h
  loc := fun g w w' h hT => hl _ w w' h (hT.mono fun b _ hb hx => hb (.inr (.inr ⟨i, by simp [sG], hx⟩)))
  xo := fun _ h => h.elim
  lo := fun _ h => h.elim
/-- it makes a block -/
def sA (i t : Nat) (kill : List Nat) (cs : Array Value) : Sp := (⟨i, [], [], kill, [], [i], false, false, false⟩, ⟨fun _ x => x.v = .pointer (some ⟨x.lo, 0, none⟩) ∧ x.hi = x.lo + 1, fun g w => (g i).hi = (g i).lo + 1 ∧ Row w (g i).lo t cs, None_, None_⟩)
theorem Row.tr {X : Nat → Prop} {w w' : World} {g t : Nat} {cs : Array Value} (h : Row w g t cs) (hT : Tr X w w') (hx : ¬ X g) : Row w' g t cs := (hT.block g h.lt hx).trans h
theorem ok_A {w1 : World} {Z : Nat → Prop} {i t : Nat} {kill : List Nat} {cs : Array Value} : OpOk w1 Z (sA i t kill cs) where
  some_ := fun _ => ⟨⟨.pointer (some ⟨w1.heap.size, 0, none⟩), w1.heap.size, w1.heap.size + 1⟩, Nat.le_refl _, Nat.le_succ _, rfl, rfl⟩
  depV := fun _ _ _ _ h => h
  depF := fun g g' hg w h => by show (g' i).hi = (g' i).lo + 1 ∧ Row w (g' i).lo t cs; rw [hg i (.inl rfl)]; exact h
  loc := fun g w w' h hT => ⟨h.1, Row.tr h.2 hT fun hn => hn (.inr (.inr ⟨i, by simp [sA], Nat.le_refl _, by have : (g i).hi = (g i).lo + 1 := h.1; omega⟩))⟩
  xo := fun _ h => h.elim
  lo := fun _ h => h.elim
/-- a store of a whole row into the block that operation k made -/
def sT (i k t : Nat) (D : List Nat) (cells : Ghost → Array Value) : Sp := (⟨i, k :: D, [k], [], [k], [k], false, false, false⟩, ⟨fun _ x => x.v = undef, fun g w => (g k).hi = (g k).lo + 1 ∧ Row w (g k).lo t (cells g), None_, None_⟩)
theorem ok_T {w1 : World} {Z : Nat → Prop} {i k t : Nat} {D : List Nat} {cells : Ghost → Array Value} (h : ∀ g g', (∀ x ∈ D, g' x = g x) → cells g' = cells g) : OpOk w1 Z (sT i k t D cells) where
  some_ := fun _ => ⟨⟨undef, w1.heap.size, w1.heap.size⟩, Nat.le_refl _, Nat.le_refl _, rfl⟩
  depV := fun _ _ _ _ h => h
  depF := fun g g' hg w hf => by
    show (g' k).hi = (g' k).lo + 1 ∧ Row w (g' k).lo t (cells g')
    rw [hg k (.inr (by simp [sT])), h g g' fun x hx => hg x (.inr (by simp [sT, hx]))]; exact hf
  loc := fun g w w' h hT => ⟨h.1, Row.tr h.2 hT fun hn => hn (.inr (.inr ⟨k, by simp [sT], Nat.le_refl _, by have : (g k).hi = (g k).lo + 1 := h.1; omega⟩))⟩
  xo := fun _ h => h.elim
  lo := fun _ h => h.elim
/-- a store of a whole row into an old block -/
def sO (i b t : Nat) (D : List Nat) (cells : Ghost → Array Value) : Sp := (⟨i, D, [], [], [], [], false, true, true⟩, ⟨fun _ x => x.v = undef, fun g w => Row w b t (cells g), (· = b), (· = b)⟩)
theorem ok_O {w1 : World} {Z : Nat → Prop} {i b t : Nat} {D : List Nat} {cells : Ghost → Array Value} (h : ∀ g g', (∀ x ∈ D, g' x = g x) → cells g' = cells g) (hb : b < w1.heap.size) (hz : Z b) : OpOk w1 Z (sO i b t D cells) where
  some_ := fun _ => ⟨⟨undef, w1.heap.size, w1.heap.size⟩, Nat.le_refl _, Nat.le_refl _, rfl⟩
  depV := fun _ _ _ _ h => h
  depF := fun g g' hg w hf => by
    show Row w b t (cells g')
    rw [h g g' fun x hx => hg x (.inr hx)]; exact hf
  loc := fun g w w' h hT => Row.tr h hT fun hn => hn (.inr (.inl rfl))
  xo := fun c hc => by
    have hc' : c = b := hc
    subst hc'; exact ⟨rfl, hz, hb⟩
  lo := fun c hc => by
    have hc' : c = b := hc
    subst hc'; exact ⟨rfl, hb⟩

/-! ### the world as a letter -/
def RowL : List (Nat × Nat × Array Value) → World → Prop
  | [], _ => True
  | (g, t, cs) :: L, w => Row w g t cs ∧ RowL L w
theorem RowL.keep {w w' : World} (hb : Below w.heap.size w w') : ∀ {L : List (Nat × Nat × Array Value)}, RowL L w → RowL L w'
  | [], _ => trivial
  | _ :: _, hr => ⟨hr.1.below hb hr.1.lt, hr.2.keep hb⟩
/-- what is known of a world: below it is as it was; these rows stand -/
def Mem (w : World) (L : List (Nat × Nat × Array Value)) (wc : World) : Prop := Below w.heap.size w wc ∧ RowL L wc
theorem Mem.keep {w wc w' : World} {L : List (Nat × Nat × Array Value)} (h : Mem w L wc) (hb : Below wc.heap.size wc w') : Mem w L w' := ⟨h.1.trans (hb.mono h.1.size), h.2.keep hb⟩
theorem Mem.drew {w wc : World} {L : List (Nat × Nat × Array Value)} (h : Mem w L wc) : Mem w L wc.drew := h.keep ((Below.refl _ _).drew)
theorem Mem.tr {w wc w' : World} {L : List (Nat × Nat × Array Value)} (h : Mem w L wc) (hb : Tr None_ wc w') : Mem w L w' := h.keep hb.below
theorem wp_abs {P : Program} {Q : Exit → Act → World → Prop} {a : Act} {W : World} {c : Code} (Fa : World → Prop) (h : Fa W) (k : ∀ W0, Fa W0 → c.wp P Q a W0) : c.wp P Q a W := k W h

/-- the first statement of two, walked by itself to one frame and world -/
theorem wp_seq_eq {P : Program} {Q : Exit → Act → World → Prop} {a a1 : Act} {w W1 : World} {A B : Code} (h1 : ∀ J : Act → World → Prop, J a1 W1 → A.wp P (Exit.then J Q) a w) (h2 : B.wp P Q a1 W1) : (A.seq B).wp P Q a w := wp_seq (h1 _ h2)

/-! ### the steps -/
section
variable {P : Program} {ops : Array Oper} {md : Region.Mode} {sh : List Sh} {M : Nat → Mean} {Z : Nat → Prop} {w1 : World} {Q : Ghost → Act → Prop} {k : Nat} {o : Oper} {rest : List Oper} {g : Ghost} {a : Act}

def gives (v : Value) (w : World) : Result Next → Prop
  | .ok (.value u) w' => u = v ∧ w' = w
  | _ => False
theorem gives_eq {v : Value} {w : World} {r : Result Next} (h : gives v w r) : r = .ok (.value v) w := by
  cases r with
  | ok n w' =>
    cases n <;> simp only [gives] at h
    obtain ⟨rfl, rfl⟩ := h
    rfl
  | halt x w' => simp only [gives] at h
/-- an operation that is not listed, in every world of the kind -/
def kOut (P : Program) (w1 : World) (X : Nat → Prop) (o : Oper) (a : Act) (v : Value) : Prop := ∀ w, Tr X w1 w → gives v w ((execOp a.eval o).run P w)
theorem xu_full {b : Nat} (hf : fullB md ops sh k = true) (h : XU ops md sh M k b) : False := by
  obtain ⟨s, hs, hx, hp, _⟩ := h
  have := List.all_eq_true.1 hf s hs
  rw [hx] at this
  exact hp (by simpa using this)
/-- the listed operations that may change old blocks and are not bound behind operation k -/
def xuOf (md : Region.Mode) (ops : Array Oper) (sh : List Sh) (k : Nat) : List Nat := (sh.filter fun s => s.x && !(pre md ops s.i).contains k).map (·.i)
theorem xu_list {b : Nat} {l : List Nat} (hl : xuOf md ops sh k = l) (h : XU ops md sh M k b) : ∃ i ∈ l, (M i).Xo b := by
  obtain ⟨s, hs, hx, hp, hb⟩ := h
  refine ⟨s.i, ?_, hb⟩
  subst hl
  exact List.mem_map.2 ⟨s, List.mem_filter.2 ⟨hs, by simp [hx, hp]⟩, rfl⟩
theorem stepK (h0 : spOf sh k = none) (hf : fullB md ops sh k = true)
    (h : ∀ K : Ghost → Act → Prop, (∀ g a, wpS P ops md sh M Z w1 Q (k + 1) rest g a → K g a) → if Region.wanted o (yielded ops a.tmps) then ∃ v, kOut P w1 None_ o a v ∧ K (gput g k ⟨v, 0, 0⟩) (a.put o.dst v) else K (gput g k ⟨undef, 0, 0⟩) (a.put o.dst undef)) :
    wpS P ops md sh M Z w1 Q k (o :: rest) g a := by
  have hh := h _ (fun _ _ h => h)
  unfold wpS
  simp only [h0]
  split at hh
  · rename_i hw
    obtain ⟨v, h1, h2⟩ := hh
    refine ⟨v, .inl ⟨hw, fun w hk => gives_eq (h1 w ?_)⟩, h2⟩
    exact hk.1.mono fun b _ hb => (xu_full hf hb).elim
  · rename_i hw
    exact ⟨undef, .inr ⟨by simpa using hw, rfl⟩, hh⟩
theorem stepKz (h0 : spOf sh k = none)
    (h : ∀ K : Ghost → Act → Prop, (∀ g a, wpS P ops md sh M Z w1 Q (k + 1) rest g a → K g a) → if Region.wanted o (yielded ops a.tmps) then ∃ v, kOut P w1 Z o a v ∧ K (gput g k ⟨v, 0, 0⟩) (a.put o.dst v) else K (gput g k ⟨undef, 0, 0⟩) (a.put o.dst undef)) :
    wpS P ops md sh M Z w1 Q k (o :: rest) g a := by
  have hh := h _ (fun _ _ h => h)
  unfold wpS
  simp only [h0]
  split at hh
  · rename_i hw
    obtain ⟨v, h1, h2⟩ := hh
    exact ⟨v, .inl ⟨hw, fun w hk => gives_eq (h1 w hk.2)⟩, h2⟩
  · rename_i hw
    exact ⟨undef, .inr ⟨by simpa using hw, rfl⟩, hh⟩

def sOut (P : Program) (w1 : World) (sh : List Sh) (M : Nat → Mean) (X : Nat → Prop) (o : Oper) (a : Act) (s : Sh) (g : Ghost) : Prop :=
  ∀ w, Tr X w1 w → GOk sh w1 (· ∈ s.D) g w.heap.size → (∀ k ∈ s.use, (M k).F g w) → sUpon P (Left M s g w) ((execOp a.eval o).run P w)
theorem stepS (s : Sh) (h0 : spOf sh k = some s) (hf : fullB md ops sh k = true)
    (h : ∀ K : Ghost → Act → Prop, (∀ g a, wpS P ops md sh M Z w1 Q (k + 1) rest g a → K g a) → Region.wanted o (yielded ops a.tmps) = true ∧ sOut P w1 sh M None_ o a s g ∧ ∀ x : GV, w1.heap.size ≤ x.lo → x.lo ≤ x.hi → (M k).V g x → K (gput g k x) (a.put o.dst x.v)) :
    wpS P ops md sh M Z w1 Q k (o :: rest) g a := by
  have hh := h _ (fun _ _ h => h)
  unfold wpS
  simp only [h0]
  refine ⟨⟨hh.1, fun w hk => hh.2.1 w ?_⟩, hh.2.2⟩
  rw [(spOf_spec h0).2] at hk
  exact hk.1.mono fun b _ hb => (xu_full hf hb).elim
theorem stepSz (s : Sh) (h0 : spOf sh k = some s)
    (h : ∀ K : Ghost → Act → Prop, (∀ g a, wpS P ops md sh M Z w1 Q (k + 1) rest g a → K g a) → Region.wanted o (yielded ops a.tmps) = true ∧ sOut P w1 sh M Z o a s g ∧ ∀ x : GV, w1.heap.size ≤ x.lo → x.lo ≤ x.hi → (M k).V g x → K (gput g k x) (a.put o.dst x.v)) :
    wpS P ops md sh M Z w1 Q k (o :: rest) g a := by
  have hh := h _ (fun _ _ h => h)
  unfold wpS
  simp only [h0]
  exact ⟨⟨hh.1, fun w hk => hh.2.1 w hk.2⟩, hh.2.2⟩
/-- a listed operation behind some that changed old blocks -/
theorem stepSx (s : Sh) (l : List Nat) (X : Nat → Prop) (h0 : spOf sh k = some s) (hl : xuOf md ops sh k = l) (hX : ∀ i ∈ l, ∀ b, (M i).Xo b → X b)
    (h : ∀ K : Ghost → Act → Prop, (∀ g a, wpS P ops md sh M Z w1 Q (k + 1) rest g a → K g a) → Region.wanted o (yielded ops a.tmps) = true ∧ sOut P w1 sh M X o a s g ∧ ∀ x : GV, w1.heap.size ≤ x.lo → x.lo ≤ x.hi → (M k).V g x → K (gput g k x) (a.put o.dst x.v)) :
    wpS P ops md sh M Z w1 Q k (o :: rest) g a := by
  have hh := h _ (fun _ _ h => h)
  unfold wpS
  simp only [h0]
  refine ⟨⟨hh.1, fun w hk => hh.2.1 w ?_⟩, hh.2.2⟩
  rw [(spOf_spec h0).2] at hk
  exact hk.1.mono fun b _ hb => by
    obtain ⟨i, hi, hx⟩ := xu_list hl hb
    exact hX i hi b hx
theorem stepKx (l : List Nat) (X : Nat → Prop) (h0 : spOf sh k = none) (hl : xuOf md ops sh k = l) (hX : ∀ i ∈ l, ∀ b, (M i).Xo b → X b)
    (h : ∀ K : Ghost → Act → Prop, (∀ g a, wpS P ops md sh M Z w1 Q (k + 1) rest g a → K g a) → if Region.wanted o (yielded ops a.tmps) then ∃ v, kOut P w1 X o a v ∧ K (gput g k ⟨v, 0, 0⟩) (a.put o.dst v) else K (gput g k ⟨undef, 0, 0⟩) (a.put o.dst undef)) :
    wpS P ops md sh M Z w1 Q k (o :: rest) g a := by
  have hh := h _ (fun _ _ h => h)
  unfold wpS
  simp only [h0]
  split at hh
  · rename_i hw
    obtain ⟨v, h1, h2⟩ := hh
    refine ⟨v, .inl ⟨hw, fun w hk => gives_eq (h1 w (hk.1.mono fun b _ hb => ?_))⟩, h2⟩
    obtain ⟨i, hi, hx⟩ := xu_list hl hb
    exact hX i hi b hx
  · rename_i hw
    exact ⟨undef, .inr ⟨by simpa using hw, rfl⟩, hh⟩
theorem stepN (h : Q g a) : wpS P ops md sh M Z w1 Q k [] g a := h
theorem upon_value {V : Value → World → Prop} {u : Value} {w : World} (h : V u w) : sUpon P V (.ok (.value u) w) := h
theorem upon_skip {V : Value → World → Prop} {w : World} (h : V undef w) : sUpon P V (.ok .skip w) := h
theorem upon_enter {V : Value → World → Prop} {f : FuncId} {args : Array Value} {w : World} (h : Calls P f args w (fun e w' => ∃ v, e = .returned v ∧ V v w')) : sUpon P V (.ok (.enter f args) w) := h
theorem gput_self (g : Ghost) (i : Nat) (x : GV) : gput g i x i = x := by simp [gput]

/-- what a call leaves -/
theorem left_F {l : List Sp} {i : Nat} {D use kill : List Nat} {p : GV → Prop} {f : GV → World → Prop} {s : Sh} (hl : look6 l s.i = (sF i D use kill p f).2) (hs : s = (sF i D use kill p f).1) {g : Ghost} {w w' : World} {v : Value}
    (hb : Below w.heap.size w w') (hp : p ⟨v, w.heap.size, w'.heap.size⟩) (hf : f ⟨v, w.heap.size, w'.heap.size⟩ w') : Left (look6 l) s g w v w' := by
  unfold Left
  rw [hl]
  subst hs
  exact ⟨hp, Tr.of hb, by show f (gput g i _ i) w'; rw [gput_self]; exact hf⟩
theorem left_G {l : List Sp} {i : Nat} {D use kill : List Nat} {p : GV → Prop} {f : GV → World → Prop} {s : Sh} (hl : look6 l s.i = (sG i D use kill p f).2) (hs : s = (sG i D use kill p f).1) {g : Ghost} {w w' : World} {v : Value}
    (hb : Below w.heap.size w w') (hp : p ⟨v, w.heap.size, w'.heap.size⟩) (hf : f ⟨v, w.heap.size, w'.heap.size⟩ w') : Left (look6 l) s g w v w' := by
  unfold Left
  rw [hl]
  subst hs
  exact ⟨hp, Tr.of hb, by show f (gput g i _ i) w'; rw [gput_self]; exact hf⟩
theorem left_V {l : List Sp} {i : Nat} {D use : List Nat} {p : Value → Prop} {s : Sh} (hl : look6 l s.i = (sV i D use p).2) {g : Ghost} {w w' : World} {v : Value}
    (hb : Below w.heap.size w w') (hp : p v) : Left (look6 l) s g w v w' := by
  unfold Left
  rw [hl]
  exact ⟨hp, Tr.of hb, trivial⟩
theorem left_A {l : List Sp} {i t : Nat} {kill : List Nat} {cs : Array Value} {s : Sh} (hl : look6 l s.i = (sA i t kill cs).2) (hs : s = (sA i t kill cs).1) {g : Ghost} {w : World} : Left (look6 l) s g w (.pointer (some ⟨w.heap.size, 0, none⟩)) (w.alloc (.cells cs t)) := by
  unfold Left
  rw [hl]
  subst hs
  refine ⟨⟨rfl, by simp⟩, Tr.of ((Below.refl _ _).alloc (Nat.le_refl _) _), ?_⟩
  show (gput g i _ i).hi = (gput g i _ i).lo + 1 ∧ Row _ (gput g i _ i).lo t cs
  rw [gput_self]
  exact ⟨by simp, Row.new_at rfl⟩
theorem left_T {l : List Sp} {i k t : Nat} {D : List Nat} {cells : Ghost → Array Value} {s : Sh} (hl : look6 l s.i = (sT i k t D cells).2) (hs : s = (sT i k t D cells).1) (hik : i ∉ k :: D) (hc : ∀ g g', (∀ x ∈ D, g' x = g x) → cells g' = cells g) {g : Ghost} {w w' : World}
    (hh : (g k).hi = (g k).lo + 1) (hb : ∀ b, b ≠ (g k).lo → w'.heap[b]? = w.heap[b]?) (ho : w'.os = w.os) (ht : w'.tape = w.tape) (hu : w'.output = w.output) (hz : w'.heap.size = w.heap.size) (hr : Row w' (g k).lo t (cells g)) : Left (look6 l) s g w undef w' := by
  unfold Left
  rw [hl]
  subst hs
  simp only [List.mem_cons, not_or] at hik
  refine ⟨rfl, ⟨ho, ht, hu, by omega, fun b _ hx => hb b fun e => hx (.inr ⟨k, by simp [sT], by omega, by omega⟩)⟩, ?_⟩
  show (gput g i _ k).hi = (gput g i _ k).lo + 1 ∧ Row _ (gput g i _ k).lo t (cells (gput g i _))
  rw [gput_ne (Ne.symm hik.1), hc g _ fun x hx => gput_ne (fun e : x = i => hik.2 (by rw [← e]; exact hx))]
  exact ⟨hh, hr⟩
theorem left_O {l : List Sp} {i b t : Nat} {D : List Nat} {cells : Ghost → Array Value} {s : Sh} (hl : look6 l s.i = (sO i b t D cells).2) (hs : s = (sO i b t D cells).1) (hik : i ∉ D) (hc : ∀ g g', (∀ x ∈ D, g' x = g x) → cells g' = cells g) {g : Ghost} {w w' : World}
    (hb : ∀ c, c ≠ b → w'.heap[c]? = w.heap[c]?) (ho : w'.os = w.os) (ht : w'.tape = w.tape) (hu : w'.output = w.output) (hz : w'.heap.size = w.heap.size) (hr : Row w' b t (cells g)) : Left (look6 l) s g w undef w' := by
  unfold Left
  rw [hl]
  subst hs
  refine ⟨rfl, ⟨ho, ht, hu, by omega, fun c _ hx => hb c fun e => hx (.inl (by rw [hl]; exact e))⟩, ?_⟩
  show Row _ b t (cells (gput g i _))
  rw [hc g _ fun x hx => gput_ne (fun e : x = i => hik (by rw [← e]; exact hx))]
  exact hr

/-! ### operations on whole rows -/
theorem heap_setRow_ne {w : World} {g b : Nat} {cs : Array Value} (h : b ≠ g) : (w.setRow g cs).heap[b]? = w.heap[b]? := by
  simp only [World.setRow, Array.getElem?_modify]
  rw [if_neg (fun e => h e.symm)]
theorem row_setRow {w : World} {g t : Nat} {cs old : Array Value} (h : Row w g t old) : Row (w.setRow g cs) g t cs := by
  unfold Row at h ⊢
  simp [World.setRow, Array.getElem?_modify, h]
theorem kLoad {X : Nat → Prop} {ty : TypeId} {x : Operand} {b t n : Nat} {cs : Array Value} (ho : o.op = .load ty x) (hx : a.eval x = .pointer (some ⟨b, 0, none⟩)) (T : AggT P ty n) (hr : Row w1 b t cs) (hs : cs.size = n) (hX : ¬ X b) : kOut P w1 X o a (.agg cs) := by
  intro w hw
  have h := T.load (w := w) (Row.tr hr hw hX) hs
  unfold execOp
  simp only [ho, hx, Instr.loadAt, Instr.sureAddr, Sem.run_bind, Sem.run_pure, Result.andThen_ok, h]
  exact ⟨rfl, rfl⟩
/-- a part of a row -/
theorem kLoadMid {X : Nat → Prop} {ty : TypeId} {x : Operand} {b off t n : Nat} {cs cs' : Array Value} (ho : o.op = .load ty x) (hx : a.eval x = .pointer (some ⟨b, off, none⟩)) (T : AggT P ty n) (hr : Row w1 b t cs) (hsub : ∀ j v, cs'[j]? = some v → cs[off + j]? = some v) (hs : cs'.size = n) (hX : ¬ X b) : kOut P w1 X o a (.agg cs') := by
  intro w hw
  have hr' := Row.tr hr hw hX
  obtain ⟨⟨d, hu, hd⟩, hi⟩ := T
  have hc : w.rangeAt b off cs'.toList := fun j v hv => by rw [hr'.cell]; exact hsub j v (by simpa using hv)
  have h := run_loadAt_mid (P := P) w b off ty cs'.toList d hc hu (by cases d <;> first | rfl | exact Bool.noConfusion hd) (by rw [hi, ← hs]; simp)
  unfold execOp
  simp only [ho, hx, Sem.run_bind, Sem.run_pure, Result.andThen_ok, h]
  exact ⟨by simp, rfl⟩
theorem sLoad {ty : TypeId} {x : Operand} {b t n : Nat} {cs : Array Value} {V : Value → World → Prop} {w : World} (ho : o.op = .load ty x) (hx : a.eval x = .pointer (some ⟨b, 0, none⟩)) (T : AggT P ty n) (hr : Row w b t cs) (hs : cs.size = n) (h : V (.agg cs) w) : sUpon P V ((execOp a.eval o).run P w) := by
  have h' := T.load (w := w) hr hs
  unfold execOp
  simp only [ho, hx, Instr.loadAt, Instr.sureAddr, Sem.run_bind, Sem.run_pure, Result.andThen_ok, h']
  exact h
theorem run_store_row {ty : TypeId} {x y : Operand} {b t : Nat} {old cells : Array Value} {w : World} (ho : o.op = .store ty x y) (hx : a.eval x = .pointer (some ⟨b, 0, none⟩)) (hy : a.eval y = .agg cells) (hr : Row w b t old)
    (hi : (P.info? ty).map (·.size) = some cells.size) (hold : old.size = cells.size) (h1 : cells.all (·.oneCell') = true) : (execOp a.eval o).run P w = .ok .skip (w.setRow b cells) := by
  unfold execOp
  simp only [ho, hx, hy, Instr.storeAt, Instr.sureAddr, Sem.run_bind, Sem.run_pure, Result.andThen_ok, run_storeVar_row w b t ty old cells hr hi hold h1]
/-- a store into a block that operation k made -/
theorem sStoreT {X : Nat → Prop} {l : List Sp} {i k' t : Nat} {D : List Nat} {kill : List Nat} {old : Array Value} {cells : Ghost → Array Value} {cs : Array Value} {s : Sh} (hl : look6 l s.i = (sT i k' t D cells).2) (hs : s = (sT i k' t D cells).1) (hk : look6 l k' = (sA k' t kill old).2)
    {ty : TypeId} {x y : Operand} (ho : o.op = .store ty x y) (hx : a.eval x = .pointer (some ⟨(g k').lo, 0, none⟩)) (hy : a.eval y = .agg cs) (hcs : cells g = cs)
    (hi : (P.info? ty).map (·.size) = some cs.size) (hold : old.size = cs.size) (h1 : cs.all (·.oneCell') = true) (hik : i ∉ k' :: D) (hc : ∀ g g', (∀ x ∈ D, g' x = g x) → cells g' = cells g) :
    sOut P w1 sh (look6 l) X o a s g := by
  subst hcs
  intro w hT hg hu
  have hf := hu k' (by subst hs; simp [sT])
  rw [hk] at hf
  obtain ⟨h2, h3⟩ : (g k').hi = (g k').lo + 1 ∧ Row w (g k').lo t old := hf
  rw [run_store_row ho hx hy h3 hi hold h1]
  exact left_T hl hs hik hc h2 (fun b hb => heap_setRow_ne hb) rfl rfl rfl (by simp) (row_setRow h3)
/-- a store into an old block -/
theorem sStoreO {X : Nat → Prop} {l : List Sp} {i b t : Nat} {D : List Nat} {old : Array Value} {cells : Ghost → Array Value} {cs : Array Value} {s : Sh} (hl : look6 l s.i = (sO i b t D cells).2) (hs : s = (sO i b t D cells).1)
    {ty : TypeId} {x y : Operand} (ho : o.op = .store ty x y) (hx : a.eval x = .pointer (some ⟨b, 0, none⟩)) (hy : a.eval y = .agg cs) (hcs : cells g = cs) (hr : Row w1 b t old) (hX : ¬ X b)
    (hi : (P.info? ty).map (·.size) = some cs.size) (hold : old.size = cs.size) (h1 : cs.all (·.oneCell') = true) (hik : i ∉ D) (hc : ∀ g g', (∀ x ∈ D, g' x = g x) → cells g' = cells g) :
    sOut P w1 sh (look6 l) X o a s g := by
  subst hcs
  intro w hT hg hu
  rw [run_store_row ho hx hy (Row.tr hr hT hX) hi hold h1]
  exact left_O hl hs hik hc (fun b hb => heap_setRow_ne hb) rfl rfl rfl (by simp) (row_setRow (Row.tr hr hT hX))
end
end Go.Proofs.Ytpdenhmkpiafiaa.K6
