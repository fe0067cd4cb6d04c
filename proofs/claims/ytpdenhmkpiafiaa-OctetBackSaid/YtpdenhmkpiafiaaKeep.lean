/-
  A REGION THAT DRAWS ITS ORDER AND HOLDS CALLS THAT MAKE MEMORY: if in every world of a kind ('Keep') each operation gives one value and leads to a world of that kind, the text's order serves.
-/
import Derived.Test.YtpdenhmkpiafiaaBase
import Derived.Orders
import Derived.KernelRfl
namespace Go.Proofs.Ytpdenhmkpiafiaa
open Go Go.RowKit

section
variable {P : Program} {ops : Array Oper} {md : Region.Mode} {Keep : World → Prop}

def kUpon (P : Program) (Keep : World → Prop) (v : Value) : Result Next → Prop
  | .ok (.value u) w' => u = v ∧ Keep w'
  | .ok .skip w' => v = undef ∧ Keep w'
  | .ok (.enter f args) w' => Calls P f args w' (fun e w'' => e = .returned v ∧ Keep w'')
  | _ => False
theorem kUpon_value {v u : Value} {w : World} (h : u = v) (hk : Keep w) : kUpon P Keep v (.ok (.value u) w) := ⟨h, hk⟩
theorem kUpon_enter {v : Value} {f : FuncId} {args : Array Value} {w : World} (h : Calls P f args w (fun e w'' => e = .returned v ∧ Keep w'')) : kUpon P Keep v (.ok (.enter f args) w) := h
/-- in every world of the kind the operation gives v -/
def outK (P : Program) (Keep : World → Prop) (o : Oper) (a : Act) (v : Value) : Prop := ∀ w, Keep w → kUpon P Keep v ((execOp a.eval o).run P w)

def kOp (P : Program) (Keep : World → Prop) (ops : Array Oper) (i : Nat) (K : Act → Prop) (a : Act) : Prop :=
  match ops[i]? with
  | none => K a
  | some o => if Region.wanted o (yielded ops a.tmps) then ∃ v, outK P Keep o a v ∧ K (a.put o.dst v) else K (a.put o.dst undef)
theorem kOp_mono {i : Nat} {a : Act} {K K' : Act → Prop} (h : ∀ a, K a → K' a) (hh : kOp P Keep ops i K a) : kOp P Keep ops i K' a := by
  unfold kOp at *
  split
  · exact h _ (by simpa [*] using hh)
  · rename_i o ho
    simp only [ho] at hh
    split
    · rename_i hw
      simp only [hw, if_true] at hh
      obtain ⟨v, h1, h2⟩ := hh
      exact ⟨v, h1, h _ h2⟩
    · rename_i hw
      simp only [hw] at hh
      exact h _ hh
def wpK (P : Program) (Keep : World → Prop) (ops : Array Oper) (Q : Act → Prop) : List Oper → Act → Prop
  | [], a => Q a
  | o :: rest, a => if Region.wanted o (yielded ops a.tmps) then ∃ v, outK P Keep o a v ∧ wpK P Keep ops Q rest (a.put o.dst v) else wpK P Keep ops Q rest (a.put o.dst undef)
theorem wpK_nil {Q : Act → Prop} {a : Act} (h : Q a) : wpK P Keep ops Q [] a := h
theorem wpK_step {Q : Act → Prop} {a : Act} {o : Oper} {rest : List Oper}
    (h : ∀ K : Act → Prop, (∀ a, wpK P Keep ops Q rest a → K a) → if Region.wanted o (yielded ops a.tmps) then ∃ v, outK P Keep o a v ∧ K (a.put o.dst v) else K (a.put o.dst undef)) : wpK P Keep ops Q (o :: rest) a :=
  h _ (fun _ h => h)

def wpAnyK (P : Program) (Keep : World → Prop) (md : Region.Mode) (ops : Array Oper) (Q : Act → Prop) : Nat → Array Bool → Act → Prop
  | 0, listed, a => Region.ready md ops listed = [] ∧ Q a
  | fuel + 1, listed, a =>
    (Region.ready md ops listed = [] → Q a) ∧
    ∀ i ∈ Region.ready md ops listed, kOp P Keep ops i (wpAnyK P Keep md ops Q fuel (listed.setIfInBounds i true)) a

theorem wp_of_outK {o : Oper} {a : Act} {v : Value} {K' : Act → World → Prop} {Q' : Exit → Act → World → Prop} {w : World} (hk : Keep w) (ho : outK P Keep o a v) (h : ∀ w', Keep w' → K' (a.put o.dst v) w') : o.wp P a w K' Q' := by
  have hh := ho w hk
  unfold Oper.wp
  generalize (execOp a.eval o).run P w = r at *
  cases r with
  | ok n w' =>
    cases n <;> simp only [kUpon] at hh <;> simp only [Oper.upon]
    case enter f args =>
      exact hh.mono fun e w'' ⟨he, hw⟩ => by subst he; exact h _ hw
    all_goals (obtain ⟨rfl, h2⟩ := hh; exact h _ h2)
  | halt x w' => simp only [kUpon] at hh

theorem wpOp_of_kOp {i : Nat} {a : Act} {K : Act → Prop} {K' : Act → World → Prop} {Q' : Exit → Act → World → Prop} {w : World} (hk : Keep w) (h : ∀ a, K a → ∀ w', Keep w' → K' a w') (hh : kOp P Keep ops i K a) : wpOp P ops Q' i K' a w := by
  unfold kOp at hh
  unfold wpOp
  split
  · rename_i ho; simp only [ho] at hh; exact h _ hh _ hk
  · rename_i o ho
    simp only [ho] at hh
    split
    · rename_i hw
      simp only [hw, if_true] at hh
      obtain ⟨v, h1, h2⟩ := hh
      exact .inl (wp_of_outK hk h1 fun w' hk' => h _ h2 w' hk')
    · rename_i hw; simp only [hw] at hh; exact h _ hh _ hk

theorem wpAny_of_K {Q : Act → Prop} {Q' : Exit → Act → World → Prop} (hQ : ∀ a, Q a → ∀ w, Keep w → Q' .normal a w) : ∀ (fuel : Nat) (listed : Array Bool) (a : Act),
    wpAnyK P Keep md ops Q fuel listed a → ∀ w, Keep w → wpAny P md ops Q' fuel listed a w
  | 0, _, _, h => fun w hk => ⟨h.1, hQ _ h.2 w hk⟩
  | fuel + 1, _, _, h => fun w hk => ⟨fun h0 => hQ _ (h.1 h0) w hk, fun i hi => wpOp_of_kOp hk (fun a' ha' w' hk' => wpAny_of_K hQ fuel _ a' ha' w' hk') (h.2 i hi)⟩

def YieldsK (P : Program) (Keep : World → Prop) (ops : Array Oper) (o : Oper) (v : Value) (a : Act) : Prop :=
  (Region.wanted o (yielded ops a.tmps) = true ∧ outK P Keep o a v) ∨ (Region.wanted o (yielded ops a.tmps) = false ∧ v = undef)
theorem YieldsK.kOp {i : Nat} {o : Oper} {v : Value} {a : Act} (hi : ops[i]? = some o) (hy : YieldsK P Keep ops o v a) {K : Act → Prop} (h : K (a.put o.dst v)) : kOp P Keep ops i K a := by
  unfold Ytpdenhmkpiafiaa.kOp
  simp only [hi]
  rcases hy with ⟨hw, hv⟩ | ⟨hw, rfl⟩
  · simp only [hw, if_true]; exact ⟨v, hv, h⟩
  · simp only [hw, Bool.false_eq_true, if_false]; exact h
theorem YieldsK.of_same {o : Oper} {v : Value} {a a' : Act} (hy : YieldsK P Keep ops o v a) (he : execOp a'.eval o = execOp a.eval o)
    (hw : Region.wanted o (yielded ops a'.tmps) = Region.wanted o (yielded ops a.tmps)) : YieldsK P Keep ops o v a' := by
  unfold YieldsK outK at *
  rw [he, hw]
  exact hy
theorem yieldsK_of {i : Nat} {o : Oper} {a : Act} {K : Act → Prop} (hi : ops[i]? = some o) (h : kOp P Keep ops i K a) : ∃ v, YieldsK P Keep ops o v a ∧ K (a.put o.dst v) := by
  unfold kOp at h
  simp only [hi] at h
  by_cases hw : Region.wanted o (yielded ops a.tmps) = true
  · simp only [hw, if_true] at h
    obtain ⟨v, h1, h2⟩ := h
    exact ⟨v, .inl ⟨hw, h1⟩, h2⟩
  · simp only [hw] at h
    exact ⟨undef, .inr ⟨by simpa using hw, rfl⟩, h⟩

theorem kOp_put {j : Nat} {oi oj : Oper} {v : Value} (hj : ops[j]? = some oj) (hap : oi.apart ops oj = true)
    (hsi : ∀ cs b, oi.op ≠ .select cs b) (hsj : ∀ cs b, oj.op ≠ .select cs b) {K : Act → Prop} {a : Act}
    (hy : YieldsK P Keep ops oi v a) (h : kOp P Keep ops j K (a.put oi.dst v)) :
    kOp P Keep ops j (fun a' => YieldsK P Keep ops oi v a' ∧ K (a'.put oi.dst v)) a := by
  obtain ⟨h1, h2, h3⟩ := Oper.apart_spec hap
  have keep : ∀ (a : Act), YieldsK P Keep ops oi v a → ∀ u, YieldsK P Keep ops oi v (a.put oj.dst u) := fun a hy u =>
    hy.of_same (execOp_put oi hsi a oj.dst u h3) (wanted_put oi a oj.dst u h3)
  unfold kOp at *
  simp only [hj] at *
  rw [wanted_put oj a oi.dst v h1] at h
  split
  · rename_i hw
    simp only [hw, if_true] at h
    obtain ⟨u, hu, hK⟩ := h
    unfold outK at hu
    rw [execOp_put oj hsj a oi.dst v h1] at hu
    exact ⟨u, hu, keep a hy u, by rw [← Act.put_comm a v u h2]; exact hK⟩
  · rename_i hw
    simp only [hw] at h
    exact ⟨keep a hy _, by rw [← Act.put_comm a v undef h2]; exact h⟩

theorem wpAnyK_first {Q : Act → Prop} {i : Nat} {oi : Oper} {v : Value} (hi : ops[i]? = some oi) (hsel : ∀ (j : Nat) (o : Oper) cs b, ops[j]? = some o → o.op ≠ .select cs b) :
    ∀ (fuel : Nat) (listed : Array Bool) (a : Act),
      (∀ j oj, ops[j]? = some oj → j ≠ i → listed.getD j true = false → (∀ e ∈ oj.after, Region.binds md e = true → e.on ≠ i) → oi.apart ops oj = true) →
      i ∈ Region.ready md ops listed → YieldsK P Keep ops oi v a →
      wpAnyK P Keep md ops Q fuel (listed.setIfInBounds i true) (a.put oi.dst v) → wpAnyK P Keep md ops Q (fuel + 1) listed a := by
  intro fuel
  induction fuel with
  | zero =>
    intro listed a _ hr hy H
    refine ⟨fun h => (by rw [h] at hr; cases hr), fun j hj => ?_⟩
    by_cases hji : j = i
    · subst hji; exact hy.kOp hi H
    · have := ready_mono hj hji
      rw [H.1] at this
      cases this
  | succ fuel ih =>
    intro listed a hfree hr hy H
    refine ⟨fun h => (by rw [h] at hr; cases hr), fun j hj => ?_⟩
    by_cases hji : j = i
    · subst hji; exact hy.kOp hi H
    · have h1 := H.2 j (ready_mono hj hji)
      obtain ⟨hjun, oj, hoj, hall⟩ := mem_ready.1 hj
      have hnot : ∀ e ∈ oj.after, Region.binds md e = true → e.on ≠ i := fun e he hb heq => by
        have h1 := hall e he hb
        have h0 := (mem_ready.1 hr).1
        rw [heq] at h1
        rcases Nat.lt_or_ge i listed.size with h' | h'
        · simp [h'] at h0 h1; rw [h0] at h1; cases h1
        · simp [Array.getElem?_eq_none h'] at h1
      have h2 := kOp_put hoj (hfree j oj hoj hji hjun hnot) (fun cs b => hsel i oi cs b hi) (fun cs b => hsel j oj cs b hoj) hy h1
      have hfree' : ∀ k ok, ops[k]? = some ok → k ≠ i → (listed.setIfInBounds j true).getD k true = false →
          (∀ e ∈ ok.after, Region.binds md e = true → e.on ≠ i) → oi.apart ops ok = true := fun k ok hk hki hun hno => by
        refine hfree k ok hk hki ?_ hno
        by_cases hjk : j = k
        · subst hjk; exact hjun
        · rw [getD_set_ne true hjk] at hun; exact hun
      refine kOp_mono (fun a' h3 => ih (listed.setIfInBounds j true) a' hfree' (ready_mono hr (Ne.symm hji)) h3.1 ?_) h2
      rw [Array.setIfInBounds_comm _ _ hji]
      exact h3.2

def lexFrom (md : Region.Mode) (ops : Array Oper) : Nat → Nat → Array Bool → Bool
  | 0, _, listed => (Region.ready md ops listed).isEmpty
  | fuel + 1, k, listed => (Region.ready md ops listed).contains k && Region.free md ops listed k && lexFrom md ops fuel (k + 1) (listed.setIfInBounds k true)
def lexB (md : Region.Mode) (ops : Array Oper) : Bool := Region.noSelect ops && lexFrom md ops ops.size 0 (Array.replicate ops.size false)

theorem wpAnyK_lex {Q : Act → Prop} (hs : Region.noSelect ops = true) : ∀ (l : List Oper) (k : Nat) (listed : Array Bool) (a : Act), (∀ j, l[j]? = ops[k + j]?) →
    lexFrom md ops l.length k listed = true → wpK P Keep ops Q l a → wpAnyK P Keep md ops Q l.length listed a
  | [], _, _, _, _, hB, h => ⟨by simpa [lexFrom] using hB, h⟩
  | o :: l, k, listed, a, hl, hB, h => by
    have h0 : ops[k]? = some o := by simpa using (hl 0).symm
    simp only [List.length_cons, lexFrom, Bool.and_eq_true] at hB
    obtain ⟨⟨hr, hf⟩, hB'⟩ := hB
    have hst : kOp P Keep ops k (wpK P Keep ops Q l) a := by unfold kOp; simp only [h0]; exact h
    obtain ⟨v, hy, hK⟩ := yieldsK_of h0 hst
    exact wpAnyK_first h0 (Region.noSelect_spec hs) l.length listed a (Region.free_spec h0 hf) (by simpa using hr) hy
      (wpAnyK_lex hs l (k + 1) _ _ (fun j => by have := hl (j + 1); simpa [Nat.add_assoc, Nat.add_comm 1 j] using this) hB' hK)

/-- THE LAW -/
theorem wp_region_keep {id : Nat} {Q : Exit → Act → World → Prop} {a : Act} {w : World} {l : List Oper} (Keep : World → Prop) (hm : P.follows .mixedOrders = true) (hB : lexB .any l.toArray = true) (hk : Keep { w with drawn := w.drawn + 1 })
    (h : wpK P Keep l.toArray (fun a' => ∀ w', Keep w' → Q .normal a' w') l a) : (Code.region id l.toArray true).wp P Q a w := by
  simp only [lexB, Bool.and_eq_true] at hB
  refine wp_region_any hm ?_
  have := wpAnyK_lex (md := .any) (Keep := Keep) hB.1 l 0 (Array.replicate l.toArray.size false) a (by simp) (by simpa using hB.2) h
  simpa using wpAny_of_K (fun _ h => h) _ _ _ this _ hk
end
end Go.Proofs.Ytpdenhmkpiafiaa
