/-
  What the statement rests on, part 2: GD GE FrameS FrameV EvU RefOf EvNew EvSl FrameE OctVar OctSrc OctTake OctK7 OctAmt OctCopy.
-/
import Derived.Maps.AppendAt
import Derived.Laws.BytesArg
import Derived.Deep.DeepCutAuto
import Derived.Test.YtpdenhmkpiafiaaRows
import Derived.ProofKit
import Derived.Lib.SmallJoins
import Derived.Laws.IdiomArrays
import Derived.OpenShut
import Derived.ChangeSlices
import Derived.Deep.Strs
import Derived.Deep.SlicePairs
import Derived.SizedLaws
import Derived.Laws.CopyRow
import Derived.Laws.IdiomCopy
import Derived.Laws.BitsAllLaws
import Derived.Test.YtpdenhmkpiafiaaQTF0

namespace Go.Proofs.Ytpdenhmkpiafiaa.Ref
abbrev B : Nat := 2 ^ 32
def val : List Nat → Nat
  | [] => 0
  | d :: r => d + B * val r
def Dig (xs : List Nat) : Prop := ∀ x ∈ xs, x < B
def digs (n : Nat) : List Nat :=
  if _h : n = 0 then [] else n % B :: digs (n / B)
termination_by n
decreasing_by exact Nat.div_lt_self (Nat.pos_of_ne_zero _h) (by decide)
theorem digs_zero : digs 0 = [] := by unfold digs; simp
theorem digs_pos {n : Nat} (h : n ≠ 0) : digs n = n % B :: digs (n / B) := by
  rw [digs]; simp [h]
theorem dig_digs (n : Nat) : Dig (digs n) := by
  induction n using Nat.strongRecOn with
  | _ n ih =>
    by_cases h : n = 0
    · subst h; rw [digs_zero]; intro x hx; cases hx
    · rw [digs_pos h]
      intro x hx
      cases hx with
      | head => exact Nat.mod_lt _ (by decide)
      | tail _ hx => exact ih (n / B) (Nat.div_lt_self (Nat.pos_of_ne_zero h) (by decide)) x hx
theorem val_digs (n : Nat) : val (digs n) = n := by
  induction n using Nat.strongRecOn with
  | _ n ih =>
    by_cases h : n = 0
    · subst h; rw [digs_zero]; rfl
    · rw [digs_pos h, val, ih (n / B) (Nat.div_lt_self (Nat.pos_of_ne_zero h) (by decide))]
      exact Nat.mod_add_div n B
theorem val_append (xs ys : List Nat) : val (xs ++ ys) = val xs + B ^ xs.length * val ys := by
  induction xs with
  | nil => simp [val]
  | cons d r ih =>
    rw [List.cons_append, val, val, ih, List.length_cons, Nat.pow_succ, Nat.mul_add, ← Nat.add_assoc,
      Nat.mul_comm (B ^ r.length) B, Nat.mul_assoc]
theorem val_lt {xs : List Nat} (h : Dig xs) : val xs < B ^ xs.length := by
  induction xs with
  | nil => exact Nat.one_pos
  | cons d r ih =>
    have hd : d < B := h d (List.mem_cons_self ..)
    have hr := ih (fun x hx => h x (List.mem_cons_of_mem _ hx))
    rw [val, List.length_cons, Nat.pow_succ, Nat.mul_comm (B ^ r.length) B]
    have : B * (val r + 1) ≤ B * B ^ r.length := Nat.mul_le_mul_left B hr
    rw [Nat.mul_add] at this
    omega
theorem digs_val {xs : List Nat} (h : Dig xs)
    (hl : ∀ y, xs.getLast? = some y → y ≠ 0) : xs = digs (val xs) := by
  induction xs with
  | nil => rw [val, digs_zero]
  | cons d r ih =>
    have hd : d < B := h d (List.mem_cons_self ..)
    have hr := ih (fun x hx => h x (List.mem_cons_of_mem _ hx)) (by
      intro y hy
      apply hl y
      cases r with
      | nil => simp at hy
      | cons e q => rw [List.getLast?_cons_cons]; exact hy)
    have hq : (d + B * val r) / B = val r := by
      rw [Nat.add_mul_div_left _ _ (by decide : 0 < B), Nat.div_eq_of_lt hd, Nat.zero_add]
    have hm : (d + B * val r) % B = d := by
      rw [Nat.add_mul_mod_self_left, Nat.mod_eq_of_lt hd]
    have hn : d + B * val r ≠ 0 := by
      intro h0
      have hd0 : d = 0 := by omega
      cases r with
      | nil => exact hl d (by simp) hd0
      | cons e q =>
        have hv : val (e :: q) = 0 := by
          have : B * val (e :: q) = 0 := by omega
          rcases Nat.mul_eq_zero.mp this with h1 | h1
          · exact absurd h1 (by decide)
          · exact h1
        rw [hv, digs_zero] at hr
        cases hr
    rw [val, digs_pos hn, hm, hq, ← hr]
theorem take_val {xs : List Nat} {n : Nat} (h0 : xs[n]? = some 0) :
    val (xs.take (n + 1)) = val (xs.take n) := by
  rw [List.take_add_one, h0, val_append]
  simp [val]
theorem trim_end {xs : List Nat} {n : Nat} (hD : Dig xs) (hn : n ≤ xs.length)
    (hv : val (xs.take n) = val xs) (hl : n = 0 ∨ xs[n - 1]? ≠ some 0) :
    xs.take n = digs (val xs) := by
  rw [← hv]
  apply digs_val (fun x hx => hD x (List.mem_of_mem_take hx))
  intro y hy h0
  subst h0
  rcases hl with h | h
  · subst h; simp at hy
  · apply h
    rw [List.getLast?_eq_getElem?, List.length_take, Nat.min_eq_left hn, List.getElem?_take] at hy
    split at hy
    · exact hy
    · cases hy
theorem digs_len {n k : Nat} (h : n < B ^ k) : (digs n).length ≤ k := by
  induction k generalizing n with
  | zero =>
    have : n = 0 := by rw [Nat.pow_zero] at h; omega
    subst this; rw [digs_zero]; exact Nat.le_refl 0
  | succ k ih =>
    by_cases h0 : n = 0
    · subst h0; rw [digs_zero]; exact Nat.zero_le _
    · rw [digs_pos h0, List.length_cons]
      apply Nat.succ_le_succ
      apply ih
      rw [Nat.pow_succ, Nat.mul_comm] at h
      exact Nat.div_lt_of_lt_mul h
end Go.Proofs.Ytpdenhmkpiafiaa.Ref
namespace Go.Proofs.Ytpdenhmkpiafiaa
open Go Go.RowKit Ref
def dg (xs : List Nat) (i : Nat) : Nat := xs.getD i 0
theorem dg_some {xs : List Nat} {i : Nat} (h : i < xs.length) : xs[i]? = some (dg xs i) := by
  unfold dg
  rw [List.getD_eq_getElem?_getD, List.getElem?_eq_getElem h, Option.getD_some]
theorem dg_take {xs : List Nat} {n i : Nat} (h : i < n) : dg (xs.take n) i = dg xs i := by
  unfold dg
  rw [List.getD_eq_getElem?_getD, List.getD_eq_getElem?_getD, List.getElem?_take, if_pos h]
def Sl (w : World) (v : Value) (xs : List Nat) : Prop :=
  ∃ r c, v = .slice r xs.length c ∧ xs.length ≤ c ∧ (r = none → c = 0) ∧ ∀ a, r = some a → ∃ g o, a = ⟨g, o, none⟩ ∧ g < w.heap.size ∧ ∀ i, i < xs.length → w.cell? ⟨g, o + i, none⟩ = some (.int .u32 ((dg xs i : Nat) : Int))
theorem Sl.below {w w' : World} {v : Value} {xs : List Nat} (h : Sl w v xs) (hb : Below w.heap.size w w') : Sl w' v xs := by
  obtain ⟨r, c, e, hc, h0, h1⟩ := h
  refine ⟨r, c, e, hc, h0, fun a ha => ?_⟩
  obtain ⟨g, o, e, hg, hi⟩ := h1 a ha
  exact ⟨g, o, e, Nat.lt_of_lt_of_le hg hb.size, fun i h => ((bcell hb).1 g (o + i) hg).trans (hi i h)⟩
theorem Sl.cut {w : World} {r : Option Addr} {n c k : Nat} {xs : List Nat} (h : Sl w (.slice r n c) xs) (hk : k ≤ n) : Sl w (.slice r k c) (xs.take k) := by
  obtain ⟨r', c', e, hc, h0, h1⟩ := h
  cases e
  have hl : (xs.take k).length = k := by rw [List.length_take]; omega
  refine ⟨r, c, by rw [hl], by omega, h0, fun a ha => ?_⟩
  obtain ⟨g, o, e, hg, hi⟩ := h1 a ha
  refine ⟨g, o, e, hg, fun i hi' => ?_⟩
  rw [hl] at hi'
  rw [dg_take hi']
  exact hi i (by omega)
set_option maxRecDepth 100000 in
set_option maxHeartbeats 2000000 in
theorem trim_any (v : Value) (xs : List Nat) (w : World) (hD : Dig xs) (hs : Sl w v xs) (hL : xs.length < 1099511627776) :
    Calls Try.prog 197 #[v] w fun e w' => w' = w ∧ ∃ u, e = .returned u ∧ Sl w u (digs (val xs)) := by
  have hs' := hs
  obtain ⟨r, c, rfl, hc, hr0, hr⟩ := hs'
  obtain ⟨n, hn⟩ : ∃ n, xs.length = n := ⟨_, rfl⟩
  rw [hn] at hc hr hL hs ⊢
  have HS := Lib.hid hs
  clear hs
  go_enter Try.func197, Try.ntmps197
  go_wp2_with fail
  go_loopg [3] n (fun gg s3 wr => gg ≤ n ∧ s3 = .int .i64 (gg : Int) ∧ wr = w ∧ val (xs.take gg) = val xs)
  case atStart => exact ⟨Nat.le_refl _, rfl, rfl, by rw [← hn, List.take_length]⟩
  case round =>
    obtain ⟨hk, rfl, rfl, hv⟩ := hrel
    rcases Nat.eq_zero_or_pos gk with h0 | h0
    · subst h0
      have HV := Lib.hid hv
      clear hv hr
      go_wp2_with fail
      go_ret
      refine ⟨rfl, _, rfl, ?_⟩
      rw [← trim_end hD (by omega) HV.out (Or.inl rfl)]
      exact HS.out.cut (Nat.zero_le _)
    · obtain ⟨g, o, ha, hg, hcell⟩ : ∃ g o, r = some ⟨g, o, none⟩ ∧ g < wr.heap.size ∧ ∀ i, i < n → wr.cell? ⟨g, o + i, none⟩ = some (.int .u32 ((dg xs i : Nat) : Int)) := by
        cases r with
        | none => exfalso; have := hr0 rfl; omega
        | some a => obtain ⟨g, o, e, h⟩ := hr a rfl; exact ⟨g, o, by rw [e], h⟩
      subst ha
      obtain ⟨j, rfl⟩ : ∃ j, gk = j + 1 := ⟨gk - 1, by omega⟩
      have cj := hcell j (by omega)
      have e1 : ((j : Int) + 1) - 1 = (j : Int) := by omega
      clear hr hcell hr0
      have hds := dg_some (xs := xs) (i := j) (by omega)
      obtain ⟨y, hy⟩ : ∃ y, dg xs j = y := ⟨_, rfl⟩
      rw [hy] at cj hds
      have HV := Lib.hid hv
      clear hv hy
      by_cases hz : y = 0
      · subst hz
        have HY := Lib.hid hds
        clear hds
        go_wp2_with fail
        go_roundg j
        case measure => omega
        case rel => exact ⟨by omega, rfl, rfl, by rw [← HV.out]; exact (take_val HY.out).symm⟩
      · have hz' : ((y : Int) == 0) = false := by simp; omega
        have HZ := Lib.hid hz
        have HY := Lib.hid hds
        clear hds hz
        go_wp2_with fail
        go_ret
        refine ⟨rfl, _, rfl, ?_⟩
        rw [← trim_end hD (by omega) HV.out (Or.inr (by rw [show j + 1 - 1 = j by omega, HY.out]; intro h; exact HZ.out (Option.some.inj h)))]
        exact HS.out.cut hk
end Go.Proofs.Ytpdenhmkpiafiaa
namespace Go.Proofs.Ytpdenhmkpiafiaa
open Go Go.RowKit K6
theorem any_some (w1 : World) : ∃ x : GV, w1.heap.size ≤ x.lo ∧ x.lo ≤ x.hi ∧ True := ⟨⟨undef, w1.heap.size, w1.heap.size⟩, Nat.le_refl _, Nat.le_refl _, trivial⟩
def aggOf (g : Ghost) (k : Nat) : Array Value := match (g k).v with | .agg cs => cs | _ => #[]
theorem aggOf_congr {k : Nat} (g g' : Ghost) (h : ∀ x ∈ [k], g' x = g x) : aggOf g' k = aggOf g k := by unfold aggOf; rw [h k (by simp)]
theorem Mem.of {w wc w' : World} {L : List (Nat × Nat × Array Value)} {X : Nat → Prop} (h : Mem w [] wc) (hT : Tr X wc w') (hx : ∀ c, X c → w.heap.size ≤ c) (hr : RowL L w') : Mem w L w' := ⟨h.1.trans (hT.below_of h.1.size hx), hr⟩
end Go.Proofs.Ytpdenhmkpiafiaa
namespace Go.Proofs.Ytpdenhmkpiafiaa.K6
open Go Go.RowKit
theorem own_tr {X : Nat → Prop} {w w' : World} {base e size n : Nat} {v : Value} {zs : List Value} (h : w.ownsRow base e size v n zs) (hT : Tr X w w') (hx : ∀ b, v.ownBlock = some b → ¬ X b) : w'.ownsRow base e size v n zs := by
  refine ⟨h.1, ?_⟩
  rcases h.2 with hn | ⟨g, cap, cur, rfl, hb, hgg, rest⟩
  · exact .inl hn
  · refine .inr ⟨g, cap, cur, rfl, hb, ?_, rest⟩
    rw [hT.block g (Array.getElem?_eq_some_iff.1 hgg).1 (hx g rfl)]
    exact hgg
def Grew (v : Value) (x : GV) : Prop := x.v.ownBlock = v.ownBlock ∨ (x.v.ownBlock = some x.lo ∧ x.lo < x.hi)
def sP (i : Nat) (D use : List Nat) (base e : Nat) (v : Value) (n : Nat) (zs : List Value) : Sp :=
  (⟨i, D, use, [], [], [i], false, true, true⟩, ⟨fun _ x => Grew v x, fun g w => Grew v (g i) ∧ w.ownsRow base e 1 (g i).v n zs, fun b => v.ownBlock = some b, fun b => v.ownBlock = some b⟩)
theorem ok_P {w1 : World} {Z : Nat → Prop} {i : Nat} {D use : List Nat} {base e : Nat} {v : Value} {n : Nat} {zs : List Value} (hv : ∀ b, v.ownBlock = some b → Z b ∧ b < w1.heap.size) : OpOk w1 Z (sP i D use base e v n zs) where
  some_ := fun _ => ⟨⟨v, w1.heap.size, w1.heap.size⟩, Nat.le_refl _, Nat.le_refl _, .inl rfl⟩
  depV := fun _ _ _ _ h => h
  depF := fun g g' hg w h => by
    show Grew v (g' i) ∧ w.ownsRow base e 1 (g' i).v n zs
    rw [hg i (.inl rfl)]; exact h
  loc := fun g w w' h hT => by
    refine ⟨h.1, own_tr h.2 hT fun b hb hn => hn ?_⟩
    rcases h.1 with h1 | ⟨h1, h2⟩
    · rw [h1] at hb; exact .inr (.inl hb)
    · rw [h1] at hb
      cases hb
      exact .inr (.inr ⟨i, by simp [sP], Nat.le_refl _, h2⟩)
  xo := fun b hb => ⟨rfl, hv b hb⟩
  lo := fun b hb => ⟨rfl, (hv b hb).2⟩
theorem left_P {l : List Sp} {i : Nat} {D use : List Nat} {base e : Nat} {v : Value} {n : Nat} {zs : List Value} {s : Sh} (hl : look6 l s.i = (sP i D use base e v n zs).2) (hs : s = (sP i D use base e v n zs).1) {g : Ghost} {w w' : World} {v' : Value}
    (hg : w.grownBy w' v.ownBlock) (ho : w'.ownsRow base e 1 v' n zs) (hw : v'.ownBlock = v.ownBlock ∨ v'.ownBlock = some w.heap.size) : Left (look6 l) s g w v' w' := by
  have hG : Grew v ⟨v', w.heap.size, w'.heap.size⟩ := by
    rcases hw with h | h
    · exact .inl h
    · exact .inr ⟨h, (ho.lt _ h).2⟩
  unfold Left
  rw [hl]
  subst hs
  refine ⟨hG, ⟨hg.os, hg.tape, hg.output, hg.size, fun b hb hx => hg.block b hb fun hn => hx (.inl (by rw [hl]; exact hn.symm))⟩, ?_⟩
  show Grew v (gput g i _ i) ∧ w'.ownsRow base e 1 (gput g i _ i).v n zs
  rw [gput_self]
  exact ⟨hG, ho⟩
theorem run_append_op {P : Program} {o : Oper} {a : Act} {x y : Operand} {t : TypeId} {v u v2 : Value} {w w2 : World} (ho : o.op = .call { callee := .builtin .append, args := #[x, y], argTypes := #[t, t] }) (hx : a.eval x = v) (hy : a.eval y = u)
    (hrun : (Builtin.append_ #[t, t] o.type #[v, u]).run P w = .ok v2 w2) : (execOp a.eval o).run P w = .ok (.value v2) w2 := by
  unfold execOp
  simp only [ho, resolve, invoke, builtin, Sem.run_bind, Sem.run_pure, Result.andThen_ok, List.map_toArray, List.map_cons, List.map_nil, hx, hy, hrun]
end Go.Proofs.Ytpdenhmkpiafiaa.K6
namespace Go.Proofs.Ytpdenhmkpiafiaa
open Go Go.RowKit K6
def bv (xs : List Int) : List Value := xs.map (Value.int .u8)
theorem bv_len (xs : List Int) : (bv xs).length = xs.length := List.length_map ..
theorem bv_app (xs ys : List Int) : bv (xs ++ ys) = bv xs ++ bv ys := List.map_append ..
def Ob (w : World) (base : Nat) (v : Value) (xs : List Int) : Prop := w.ownsRow base 5 1 v xs.length (bv xs)
def Bs (w : World) (u : Value) (xs : List Int) : Prop := ∃ q c, u = .slice q xs.length c ∧ (q = none → c = 0 ∧ xs = []) ∧ ∀ a, q = some a → ∀ j v, (bv xs)[j]? = some v → w.cell? (a.add j) = some v
theorem Ob.base {w : World} {b b' : Nat} {v : Value} {xs : List Int} (h : Ob w b v xs) (hb : b' ≤ b) : Ob w b' v xs := by
  refine ⟨h.1, ?_⟩
  rcases h.2 with h0 | ⟨g, cap, cur, rfl, h1, rest⟩
  · exact .inl h0
  · exact .inr ⟨g, cap, cur, rfl, Nat.le_trans hb h1, rest⟩
theorem Ob.nil (w : World) (b : Nat) : Ob w b (.slice none 0 0) [] := ⟨rfl, .inl ⟨rfl, rfl⟩⟩
theorem Bs.nil (w : World) : Bs w (.slice none 0 0) [] := ⟨none, 0, rfl, fun _ => ⟨rfl, rfl⟩, fun _ ha => (by cases ha)⟩
theorem add_at (g i : Nat) : (⟨g, 0, none⟩ : Addr).add i = ⟨g, 0 + i, none⟩ := by unfold Addr.add; split <;> simp_all
theorem add_off (g o i : Nat) : (⟨g, o, none⟩ : Addr).add i = ⟨g, o + i, none⟩ := by unfold Addr.add; split <;> simp_all
theorem Ob.bs {w : World} {b : Nat} {v : Value} {xs : List Int} (h : Ob w b v xs) : Bs w v xs := by
  rcases h.2 with ⟨rfl, h0⟩ | ⟨g, cap, cur, rfl, h1, hg, h2, h3, h4, h5⟩
  · obtain rfl : xs = [] := List.eq_nil_of_length_eq_zero h0
    exact Bs.nil w
  · refine ⟨some ⟨g, 0, none⟩, cap, rfl, (fun h => (by cases h)), fun a ha j u hj => ?_⟩
    cases ha
    exact World.ownsRow.cells h (g := g) rfl j u hj
theorem cell_lt {w : World} {a : Addr} {v : Value} (h : w.cell? a = some v) : a.block < w.heap.size := by
  unfold World.cell? at h
  split at h
  · rename_i c e f hc
    exact (Array.getElem?_eq_some_iff.1 hc).1
  · cases h
theorem add_block (a : Addr) (j : Nat) : (a.add j).block = a.block := by unfold Addr.add; split <;> rfl
theorem Bs.keep {X : Nat → Prop} {w w' : World} {u : Value} {xs : List Int} (h : Bs w u xs) (hT : Tr X w w') (hx : ∀ b, u.ownBlock = some b → ¬ X b) : Bs w' u xs := by
  obtain ⟨q, c, rfl, h0, h1⟩ := h
  refine ⟨q, c, rfl, h0, fun a ha j v hj => ?_⟩
  subst ha
  have h2 := h1 a rfl j v hj
  rw [← h2]
  refine World.cell?_of_block ?_
  rw [add_block]
  have h3 := cell_lt h2
  rw [add_block] at h3
  exact hT.block _ h3 (hx _ rfl)
theorem Bs.below {w w' : World} {u : Value} {xs : List Int} (h : Bs w u xs) (hb : Below w.heap.size w w') : Bs w' u xs := h.keep (X := None_) (Tr.of hb) (fun _ _ => id)
theorem Ob.keep {X : Nat → Prop} {w w' : World} {b : Nat} {v : Value} {xs : List Int} (h : Ob w b v xs) (hT : Tr X w w') (hx : ∀ b, v.ownBlock = some b → ¬ X b) : Ob w' b v xs := own_tr h hT hx
theorem Ob.below {w w' : World} {b : Nat} {v : Value} {xs : List Int} (h : Ob w b v xs) (hb : Below w.heap.size w w') : Ob w' b v xs := own_tr h (X := None_) (Tr.of hb) (fun _ _ => id)
theorem Bs.conv {w : World} {u : Value} {xs : List Int} (h : Bs w u xs) (h0 : xs ≠ []) : (convert 33 9 u).run Try.prog w = .ok (.string (strOfNums xs)) w := by
  obtain ⟨q, c, rfl, hn, h1⟩ := h
  cases q with
  | none => exact absurd (hn rfl).2 h0
  | some a =>
    have hl : 0 < xs.length := List.length_pos_iff.2 h0
    have hc : ∀ i, i < xs.length → w.cell? (a.add i) = some (.int .u8 (xs.getD i 0)) := fun i hi => h1 a rfl i _ (by unfold bv; rw [List.getElem?_map, List.getElem?_eq_getElem hi]; simp [List.getD_eq_getElem?_getD, hi])
    have hs : a.spot = none := by
      have h2 := hc 0 hl
      rw [show a.add 0 = a from by unfold Addr.add; rfl] at h2
      unfold World.cell? at h2
      split at h2
      · cases hs : a.spot with
        | none => rfl
        | some k => rw [hs] at h2; simp at h2
      · cases h2
    obtain ⟨g, o, s⟩ := a
    simp only at hs
    subst hs
    exact run_convert_bytes_arg (P := Try.prog) w 33 5 Try.underlying33 Try.underlying5 g o xs.length c xs rfl (fun i hi => by rw [← add_off]; exact hc i hi) 9 Try.underlying9
set_option maxRecDepth 100000 in
theorem append_nil {w : World} {base : Nat} {v : Value} {xs : List Int} (h : Ob w base v xs) : (Builtin.append_ #[33, 33] 33 #[v, .slice none 0 0]).run Try.prog w = .ok v w := by
  obtain ⟨i, hi⟩ : ∃ i, Try.prog.info? 5 = some i := ⟨_, rfl⟩
  rcases h.2 with ⟨rfl, h0⟩ | ⟨g, cap, cur, rfl, hb, hg, h2, h3, h4, h5⟩
  · simp [Builtin.append_, run_underlying Try.underlying33, sizeOf, typeInfo, hi, Builtin.lenOf, Builtin.firstCells]
  · simp [Builtin.append_, run_underlying Try.underlying33, sizeOf, typeInfo, hi, Builtin.lenOf, Builtin.firstCells, h2, storeCells]
set_option maxRecDepth 100000 in
set_option maxHeartbeats 4000000 in
theorem append_run {w : World} {base : Nat} {v u : Value} {xs ys : List Int} (h : Ob w base v xs) (hu : Bs w u ys) (hL : xs.length + ys.length ≤ 1000000000) (hb : base ≤ w.heap.size) :
    ∃ v' w', (Builtin.append_ #[33, 33] 33 #[v, u]).run Try.prog w = .ok v' w' ∧ Ob w' base v' (xs ++ ys) ∧ w.grownBy w' v.ownBlock ∧ (v'.ownBlock = v.ownBlock ∨ v'.ownBlock = some w.heap.size) := by
  obtain ⟨q, c, rfl, hn, h1⟩ := hu
  cases q with
  | none =>
    obtain ⟨rfl, rfl⟩ := hn rfl
    refine ⟨v, w, append_nil h, by rw [List.append_nil]; exact h, ⟨rfl, rfl, rfl, Nat.le_refl _, fun _ _ _ => rfl⟩, .inl rfl⟩
  | some a =>
    obtain ⟨v', w', hrun, ho, hg, -, hw⟩ := run_append_own_at (P := Try.prog) w base 33 33 5 _ _ 1 1 rfl rfl rfl rfl rfl rfl (by decide) v xs.length (bv xs) h a ys.length c (bv ys) (by rw [bv_len, Nat.mul_one]) (h1 a rfl) (fun u hu => by obtain ⟨x, _, rfl⟩ := List.mem_map.1 hu; rfl) (by simp only [maxLen]; omega) (by omega) hb
    refine ⟨v', w', hrun, ?_, hg, hw⟩
    unfold Ob
    rw [List.length_append, bv_app]
    exact ho
namespace K6
def InB (ks : List Nat) (g : Ghost) (b : Nat) : Prop := ∃ k ∈ ks, (g k).lo ≤ b ∧ b < (g k).hi
def OwnF (i : Nat) (ks : List Nat) (base : Nat) (zs : List Int) (g : Ghost) (w : World) : Prop := Ob w base (g i).v zs ∧ ∀ b, (g i).v.ownBlock = some b → InB (i :: ks) g b
def sQ (i : Nat) (ks D use kill : List Nat) (base : Nat) (zs : List Int) (p : Value → Prop) : Sp := (⟨i, D, use, kill, ks, i :: ks, false, false, false⟩, ⟨fun _ x => p x.v, OwnF i ks base zs, None_, None_⟩)
theorem ok_Q {w1 : World} {Z : Nat → Prop} {i : Nat} {ks D use kill : List Nat} {base : Nat} {zs : List Int} {p : Value → Prop} (hp : ∃ v, p v) (hks : ∀ k ∈ ks, k ∈ D) : OpOk w1 Z (sQ i ks D use kill base zs p) where
  some_ := fun _ => by obtain ⟨v, hv⟩ := hp; exact ⟨⟨v, w1.heap.size, w1.heap.size⟩, Nat.le_refl _, Nat.le_refl _, hv⟩
  depV := fun _ _ _ _ h => h
  depF := fun g g' hg w h => by
    have e : g' i = g i := hg i (.inl rfl)
    refine ⟨by rw [e]; exact h.1, fun b hb => ?_⟩
    rw [e] at hb
    obtain ⟨k, hk, h1⟩ := h.2 b hb
    refine ⟨k, hk, ?_⟩
    rcases List.mem_cons.1 hk with rfl | hk'
    · rw [e]; exact h1
    · rw [hg k (.inr (hks k hk'))]; exact h1
  loc := fun g w w' h hT => ⟨h.1.keep hT fun b hb hn => hn (.inr (.inr (h.2 b hb))), h.2⟩
  xo := fun _ h => h.elim
  lo := fun _ h => h.elim
theorem left_Qc {l : List Sp} {i : Nat} {D use kill : List Nat} {base : Nat} {zs : List Int} {p : Value → Prop} {s : Sh} (hl : look6 l s.i = (sQ i [] D use kill base zs p).2) (hs : s = (sQ i [] D use kill base zs p).1) {g : Ghost} {w w' : World} {v : Value}
    (ho : Ob w' w.heap.size v zs) (hb : Below w.heap.size w w') (hbase : base ≤ w.heap.size) (hp : p v) : Left (look6 l) s g w v w' := by
  unfold Left
  rw [hl]
  subst hs
  refine ⟨hp, Tr.of hb, ?_⟩
  show Ob w' base (gput g i _ i).v zs ∧ ∀ b, (gput g i _ i).v.ownBlock = some b → InB [i] (gput g i _) b
  rw [gput_self]
  refine ⟨ho.base hbase, fun b h => ⟨i, by simp, ?_⟩⟩
  rw [gput_self]
  exact ho.lt b h
theorem left_Qa {l : List Sp} {i : Nat} {ks D use kill : List Nat} {base : Nat} {zs : List Int} {p : Value → Prop} {s : Sh} (hl : look6 l s.i = (sQ i ks D use kill base zs p).2) (hs : s = (sQ i ks D use kill base zs p).1) (hik : i ∉ ks) {g : Ghost} {w w' : World} {v v' : Value}
    (hv : ∀ b, v.ownBlock = some b → InB ks g b) (hg : w.grownBy w' v.ownBlock) (ho : Ob w' base v' zs) (hw : v'.ownBlock = v.ownBlock ∨ v'.ownBlock = some w.heap.size) (hp : p v') : Left (look6 l) s g w v' w' := by
  unfold Left
  rw [hl]
  subst hs
  refine ⟨hp, ⟨hg.os, hg.tape, hg.output, hg.size, fun b hb hx => hg.block b hb fun hn => hx ?_⟩, ?_⟩
  · obtain ⟨k, hk, h1⟩ := hv b hn.symm
    exact .inr ⟨k, hk, h1⟩
  · show Ob w' base (gput g i _ i).v zs ∧ ∀ b, (gput g i _ i).v.ownBlock = some b → InB (i :: ks) (gput g i _) b
    rw [gput_self]
    refine ⟨ho, fun b h => ?_⟩
    rcases hw with h1 | h1
    · obtain ⟨k, hk, h2⟩ := hv b (h1 ▸ h)
      refine ⟨k, List.mem_cons_of_mem _ hk, ?_⟩
      rw [gput_ne (fun e : k = i => hik (e ▸ hk))]
      exact h2
    · have e : w.heap.size = b := Option.some.inj (h1.symm.trans h)
      refine ⟨i, List.mem_cons_self .., ?_⟩
      rw [gput_self]
      exact ⟨Nat.le_of_eq e, by subst e; exact (ho.lt _ h).2⟩
end K6
end Go.Proofs.Ytpdenhmkpiafiaa

namespace Go.Proofs.Ytpdenhmkpiafiaa
open Go Go.RowKit
end Go.Proofs.Ytpdenhmkpiafiaa
namespace Go.Proofs.Ytpdenhmkpiafiaa
open Go Go.RowKit K6
end Go.Proofs.Ytpdenhmkpiafiaa
namespace Go.Proofs.Ytpdenhmkpiafiaa
open Go Go.RowKit
end Go.Proofs.Ytpdenhmkpiafiaa
namespace Go.Proofs.Ytpdenhmkpiafiaa
open Go.ChangeShapes Go.WideShapes Go.ChangeAt Go.RowKit
theorem own : ownKnob Try.prog.godebug = none := by kernel_rfl
theorem laidOut : laidOutB Try.prog = true := by kernel_rfl
section
variable {H : Type} {enc : TypeId × Value → H} {P : Program}
theorem args_stay (hl : laidOutB P = true) {W W' : World} (hb : Below W.heap.size W W') : ∀ {ts : List TypeId} {vs : List Value} {ds : List (DataW H)} {ps : List MemPlace},
    (∀ t ∈ ts, P.readableRec t = true ∧ t < P.types.size) → DataW.TrodAll enc P W 0 (fun _ => true) true ts vs ds ps → (∀ p ∈ ps, p.block < W.heap.size) →
    DataW.TrodAll enc P W' 0 (fun b => decide (b < W.heap.size)) true ts vs ds ps
  | [], vs, ds, ps, _, h, _ => by
    obtain ⟨rfl, rfl, rfl⟩ := trodAll_nil h
    exact trodAll_mk0
  | t :: ts, vs, ds, ps, hr, h, hlt => by
    obtain ⟨v, vs', d, ds', p, q, rfl, rfl, rfl, h0, h1⟩ := trodAll_cons h
    have ht := hr t (List.mem_cons_self ..)
    exact trodAll_cons_mk (Below.trod hl ht.1 ht.2 h0 hb fun x hx => hlt x (List.mem_append_left _ hx))
      (args_stay hl hb (fun t ht => hr t (List.mem_cons_of_mem _ ht)) h1 fun x hx => hlt x (List.mem_append_right _ hx))
theorem law_post (hl : laidOutB P = true) (h4 : P.underlying 4 = some .bool) {f : Func} {s : ChangeSpec} {W W' : World} {args : Array Value} {ds gs : List (DataW H)} {before : List MemPlace}
    (hW : DataW.Whole enc P f.params.toList s.vars false W args.toList ds gs before) (hv : s.vars = []) (hfn : s.fn H (ds ++ gs) = { results := [.lit (.bool true)], args := ds }) (hres : f.resultTypes = #[4])
    (hr : ∀ t ∈ f.params.toList, P.readableRec t = true ∧ t < P.types.size) (hb : Below W.heap.size W W') : s.post enc P f false true false false W args (.bool true) W' := by
  have hlt := hW.lt
  have hW' := hW
  obtain ⟨p, q, hA, hV, rfl, _, _⟩ := hW
  rw [hv] at hV
  obtain ⟨rfl, rfl⟩ := trodVars_none hV
  simp only [List.append_nil] at hfn hlt
  refine ⟨ds, [], p ++ [], [], p, [], hW', ?_, ?_, ?_, hb.frame _, fun h => by cases h⟩
  · simp only [List.append_nil]
    rw [hfn, hres]
    exact trodAll_cons_mk (p := []) (shut_bool h4 true) trodAll_mk0
  · simp only [List.append_nil]
    rw [hfn]
    exact args_stay hl hb hr hA hlt
  · simp only [List.append_nil]
    rw [hfn, hv]
    rfl
end
theorem bounds64 {x : Int} (h : (Lit.int .u64 x).wf = true) : 0 ≤ x ∧ x < 18446744073709551616 := by
  have h1 : IntKind.u64.min = 0 := by decide
  have h2 : IntKind.u64.max = 18446744073709551615 := by decide
  simp [Lit.wf, h1, h2] at h
  omega
end Go.Proofs.Ytpdenhmkpiafiaa
namespace Go.Proofs.Ytpdenhmkpiafiaa
open Go Go.RowKit K6
def W4 (n : Nat) : Array Value := #[.int .u64 (wordsOf n 0), .int .u64 (wordsOf n 1), .int .u64 (wordsOf n 2), .int .u64 (wordsOf n 3)]
theorem W4_size (n : Nat) : (W4 n).size = 4 := rfl
theorem W4_eq {x0 x1 x2 x3 : Int} {n : Nat} (h : IsW x0 x1 x2 x3 n) : #[Value.int .u64 x0, .int .u64 x1, .int .u64 x2, .int .u64 x3] = W4 n := by
  obtain ⟨rfl, rfl, rfl, rfl⟩ := h.uniq (wordsOf_isW n h.ltM)
  rfl
theorem W4_inj {a b : Nat} (ha : a < M) (hb : b < M) (h : W4 a = W4 b) : a = b := by
  unfold W4 at h
  have h0 : wordsOf a 0 = wordsOf b 0 ∧ wordsOf a 1 = wordsOf b 1 ∧ wordsOf a 2 = wordsOf b 2 ∧ wordsOf a 3 = wordsOf b 3 := by simpa using h
  have h1 := (wordsOf_isW a ha).lin
  have h2 := (wordsOf_isW b hb).lin
  obtain ⟨e0, e1, e2, e3⟩ := h0
  rw [e0, e1, e2, e3] at h1
  have := h1.1.trans h2.1.symm
  omega
theorem eqU {a b : Nat} (ha : a < M) (hb : b < M) (w : World) : (Op.equalIn 10000 31 (.agg (W4 a)) (.agg (W4 b))).run Try.prog w = .ok (decide (a = b)) w := by
  unfold W4
  rw [eq31]
  congr 1
  rw [Bool.eq_iff_iff]
  simp only [Bool.and_eq_true, beq_iff_eq, decide_eq_true_eq]
  constructor
  · rintro ⟨h0, h1, h2, h3⟩
    exact W4_inj ha hb (by unfold W4; rw [h0, h1, h2, h3])
  · rintro rfl; exact ⟨rfl, rfl, rfl, rfl⟩
def Ret (w : World) (v : Value) (e : Ending) (w' : World) : Prop := e = .returned v ∧ Below w.heap.size w w'
theorem bitsU {a : Nat} (ha : a < M) (w : World) : Calls Try.prog 49 #[.agg (W4 a)] w (Ret w (.int .i64 (blen a))) :=
  bits_any _ _ _ _ a (wordsOf_isW a ha) w
theorem bytesU {a : Nat} (ha : a < M) (w : World) : Calls Try.prog 82 #[.agg (W4 a)] w (Bytes32 w a) := bytes_any _ _ _ _ a (wordsOf_isW a ha) w
end Go.Proofs.Ytpdenhmkpiafiaa
namespace Go.Proofs.Ytpdenhmkpiafiaa
open Go.ChangeShapes Go.WideShapes Go.ChangeAt Go.RowKit
theorem int_hi {m : Int} (h : (Lit.int .i64 m).wf = true) : m < 9223372036854775808 := by
  have h1 : IntKind.i64.min = -9223372036854775808 := by decide
  have h2 : IntKind.i64.max = 9223372036854775807 := by decide
  simp [Lit.wf, h1, h2] at h
  omega
theorem int_lo {m : Int} (h : (Lit.int .i64 m).wf = true) : -9223372036854775808 ≤ m := by
  have h1 : IntKind.i64.min = -9223372036854775808 := by decide
  have h2 : IntKind.i64.max = 9223372036854775807 := by decide
  simp [Lit.wf, h1, h2] at h
  omega
theorem cells5' : Try.prog.cellsOf 5 = 1 := by kernel_rfl
theorem bounds8' {x : Int} (h : (Lit.int .u8 x).wf = true) : 0 ≤ x ∧ x < 256 := by
  have h1 : IntKind.u8.min = 0 := by decide
  have h2 : IntKind.u8.max = 255 := by decide
  simp [Lit.wf, h1, h2] at h
  omega
end Go.Proofs.Ytpdenhmkpiafiaa
namespace Go.Proofs.Ytpdenhmkpiafiaa
open Go.ChangeShapes Go.WideShapes Go.ChangeAt Go.RowKit K6
theorem spot_noneV {w : World} {a : Addr} {v : Value} (h : w.cell? a = some v) : a.spot = none ∧ a.block < w.heap.size := by
  unfold World.cell? at h
  split at h
  · rename_i c e f hc
    refine ⟨?_, (Array.getElem?_eq_some_iff.1 hc).1⟩
    cases hs : a.spot with
    | none => rfl
    | some k => rw [hs] at h; simp at h
  · cases h
theorem add_plainV {a : Addr} (h : a.spot = none) (i : Nat) : a.add i = ⟨a.block, a.off + i, none⟩ := by
  obtain ⟨b, o, s⟩ := a
  simp only at h
  subst h
  unfold Addr.add
  split <;> simp_all
theorem spot_of_addV {a : Addr} (h : (a.add 0).spot = none) : a.spot = none := by
  unfold Addr.add at h
  simpa using h
structure Vl where
  k : Int
  n : Int
  a : Nat
  v : Value
  b : List Int
instance : Inhabited Vl := ⟨⟨0, 0, 0, .slice none 0 0, []⟩⟩
theorem trod_struct4 {H : Type} {enc : TypeId × Value → H} {P : Program} {w : World} {base : Nat} {spare : Nat → Bool} {held : Bool} {t : TypeId} {f0 f1 f2 f3 : Field} {fuel : Nat} {cs : List Value} {x : DataW H × List MemPlace} (ht : P.underlying t = some (.struct #[f0, f1, f2, f3])) (h : DataW.trod enc P w base spare held fuel t cs = some x) :
    ∃ y0 y1 y2 y3 n, DataW.trod enc P w base spare held n f0.type ((cs.drop f0.offset).take (P.cellsOf f0.type)) = some y0 ∧ DataW.trod enc P w base spare held n f1.type ((cs.drop f1.offset).take (P.cellsOf f1.type)) = some y1 ∧
      DataW.trod enc P w base spare held n f2.type ((cs.drop f2.offset).take (P.cellsOf f2.type)) = some y2 ∧ DataW.trod enc P w base spare held n f3.type ((cs.drop f3.offset).take (P.cellsOf f3.type)) = some y3 := by
  obtain ⟨xs, n, _, rfl, hl, hlen, hf⟩ := DataW.trod_struct ht h
  match xs, hlen with
  | [y0, y1, y2, y3], _ => exact ⟨y0, y1, y2, y3, n, by simpa using hf 0 f0 rfl, by simpa using hf 1 f1 rfl, by simpa using hf 2 f2 rfl, by simpa using hf 3 f3 rfl⟩
theorem cells3V : Try.prog.cellsOf 3 = 1 := by kernel_rfl
theorem cells31V : Try.prog.cellsOf 31 = 4 := by kernel_rfl
set_option maxRecDepth 100000 in
theorem words_V {H : Type} {enc : TypeId × Value → H} {w : World} {base : Nat} {spare : Nat → Bool} {held : Bool} {n : Nat} {cs : List Value} {y : DataW H × List MemPlace} (hl : cs.length = 4)
    (h : DataW.trod enc Try.prog w base spare held n 31 cs = some y) : ∃ a, cs = (W4 a).toList ∧ a < M := by
  match cs, hl with
  | [c0, c1, c2, c3], _ =>
    obtain ⟨y0, y1, y2, y3, m, _, h0, h1, h2, h3⟩ := trod_array4 Try.underlying31 cells29 h
    obtain ⟨x0, e0, _, w0⟩ := DataW.trod_int Try.underlying29 h0
    obtain ⟨x1, e1, _, w1⟩ := DataW.trod_int Try.underlying29 h1
    obtain ⟨x2, e2, _, w2⟩ := DataW.trod_int Try.underlying29 h2
    obtain ⟨x3, e3, _, w3⟩ := DataW.trod_int Try.underlying29 h3
    simp only [List.cons.injEq, and_true] at e0 e1 e2 e3
    subst e0 e1 e2 e3
    have b0 := bounds64 w0
    have b1 := bounds64 w1
    have b2 := bounds64 w2
    have b3 := bounds64 w3
    obtain ⟨k, hk⟩ : ∃ k, IsW x0 x1 x2 x3 k := ⟨_, IsW.mk' (Int.toNat_of_nonneg (by omega)) b0 b1 b2 b3⟩
    exact ⟨k, by rw [← W4_eq hk], hk.ltM⟩
end Go.Proofs.Ytpdenhmkpiafiaa
namespace Go.Proofs.Ytpdenhmkpiafiaa
open Go Go.RowKit K6
def uw (l : List Nat) : List Value := l.flatMap fun a => (W4 a).toList
theorem uw_len (l : List Nat) : (uw l).length = l.length * 4 := by
  unfold uw
  induction l with
  | nil => rfl
  | cons a l ih => rw [List.flatMap_cons, List.length_append, ih, List.length_cons, show (W4 a).toList.length = 4 from rfl]; omega
theorem uw_get (l : List Nat) (i j : Nat) (hi : i < l.length) (hj : j < 4) : (uw l)[i * 4 + j]? = (W4 (l[i]))[j]? := by
  induction l generalizing i with
  | nil => exact absurd hi (Nat.not_lt_zero _)
  | cons a l ih =>
    have hl4 : (W4 a).toList.length = 4 := rfl
    show ((W4 a).toList ++ uw l)[i * 4 + j]? = _
    match i, hi with
    | 0, _ =>
      rw [List.getElem?_append_left (by rw [hl4]; omega), Nat.zero_mul, Nat.zero_add]
      simp
    | i + 1, hi =>
      rw [List.getElem?_append_right (by rw [hl4]; omega), hl4, show (i + 1) * 4 + j - 4 = i * 4 + j by omega, ih i (by simpa using hi)]
      rfl
def Oe (w : World) (base : Nat) (v : Value) (l : List Nat) : Prop := w.ownsRow base 31 4 v l.length (uw l)
def Us (w : World) (u : Value) (l : List Nat) : Prop := ∃ q c, u = .slice q l.length c ∧ (q = none → c = 0 ∧ l = []) ∧ ∀ a, q = some a → ∀ j v, (uw l)[j]? = some v → w.cell? (a.add j) = some v
theorem Oe.base {w : World} {b b' : Nat} {v : Value} {l : List Nat} (h : Oe w b v l) (hb : b' ≤ b) : Oe w b' v l := by
  refine ⟨h.1, ?_⟩
  rcases h.2 with h0 | ⟨g, cap, cur, rfl, h1, rest⟩
  · exact .inl h0
  · exact .inr ⟨g, cap, cur, rfl, Nat.le_trans hb h1, rest⟩
theorem Oe.nil (w : World) (b : Nat) : Oe w b (.slice none 0 0) [] := ⟨rfl, .inl ⟨rfl, rfl⟩⟩
theorem Us.nil (w : World) : Us w (.slice none 0 0) [] := ⟨none, 0, rfl, fun _ => ⟨rfl, rfl⟩, fun _ ha => (by cases ha)⟩
theorem Oe.us {w : World} {b : Nat} {v : Value} {l : List Nat} (h : Oe w b v l) : Us w v l := by
  rcases h.2 with ⟨rfl, h0⟩ | ⟨g, cap, cur, rfl, h1, hg, h2, h3, h4, h5⟩
  · obtain rfl : l = [] := List.eq_nil_of_length_eq_zero h0
    exact Us.nil w
  · refine ⟨some ⟨g, 0, none⟩, cap, rfl, (fun h => (by cases h)), fun a ha j u hj => ?_⟩
    cases ha
    exact World.ownsRow.cells h (g := g) rfl j u hj
theorem Us.keep {X : Nat → Prop} {w w' : World} {u : Value} {l : List Nat} (h : Us w u l) (hT : Tr X w w') (hx : ∀ b, u.ownBlock = some b → ¬ X b) : Us w' u l := by
  obtain ⟨q, c, rfl, h0, h1⟩ := h
  refine ⟨q, c, rfl, h0, fun a ha j v hj => ?_⟩
  subst ha
  have h2 := h1 a rfl j v hj
  rw [← h2]
  refine World.cell?_of_block ?_
  rw [add_block]
  have h3 := cell_lt h2
  rw [add_block] at h3
  exact hT.block _ h3 (hx _ rfl)
theorem Us.below {w w' : World} {u : Value} {l : List Nat} (h : Us w u l) (hb : Below w.heap.size w w') : Us w' u l := h.keep (X := None_) (Tr.of hb) (fun _ _ => id)
theorem Oe.keep {X : Nat → Prop} {w w' : World} {b : Nat} {v : Value} {l : List Nat} (h : Oe w b v l) (hT : Tr X w w') (hx : ∀ b, v.ownBlock = some b → ¬ X b) : Oe w' b v l := own_tr h hT hx
theorem Oe.below {w w' : World} {b : Nat} {v : Value} {l : List Nat} (h : Oe w b v l) (hb : Below w.heap.size w w') : Oe w' b v l := own_tr h (X := None_) (Tr.of hb) (fun _ _ => id)
theorem Us.at_ {w : World} {u : Value} {l : List Nat} (h : Us w u l) {i : Nat} (hi : i < l.length) : ∃ g o c, u = .slice (some ⟨g, o, none⟩) l.length c ∧ g < w.heap.size ∧ ∀ i (hi : i < l.length) j v, (W4 (l[i])).toList[j]? = some v → w.cell? ⟨g, o + i * 4 + j, none⟩ = some v := by
  obtain ⟨q, c, rfl, h0, h1⟩ := h
  cases q with
  | none => rw [(h0 rfl).2] at hi; exact absurd hi (Nat.not_lt_zero _)
  | some a =>
    have hc : ∀ i (hi : i < l.length) j v, (W4 (l[i])).toList[j]? = some v → w.cell? (a.add (i * 4 + j)) = some v := fun i hi j v hj => by
      have hj4 : j < 4 := (List.getElem?_eq_some_iff.1 hj).1
      refine h1 a rfl _ _ ?_
      rw [uw_get l i j hi hj4, ← hj]
      simp
    have h2 := hc 0 (by omega) 0 _ rfl
    rw [show a.add (0 * 4 + 0) = a from by unfold Addr.add; rfl] at h2
    have h3 := cell_lt h2
    have hs : a.spot = none := by
      unfold World.cell? at h2
      split at h2
      · cases hs : a.spot with
        | none => rfl
        | some k => rw [hs] at h2; simp at h2
      · cases h2
    obtain ⟨g, o, s⟩ := a
    simp only at hs
    subst hs
    refine ⟨g, o, c, rfl, h3, fun i hi j v hj => ?_⟩
    rw [Nat.add_assoc, ← add_off]
    exact hc i hi j v hj
namespace K6
end K6
theorem Oe.lt {w : World} {base : Nat} {v : Value} {l : List Nat} (h : Oe w base v l) (b : Nat) (hb : v.ownBlock = some b) : base ≤ b ∧ b < w.heap.size := by
  rcases h.2 with ⟨rfl, -⟩ | ⟨g, cap, cur, rfl, h1, hg, -⟩
  · cases hb
  · have h2 : some g = some b := hb
    injection h2 with h2
    subst h2
    exact ⟨h1, (Array.getElem?_eq_some_iff.1 hg).1⟩
end Go.Proofs.Ytpdenhmkpiafiaa
namespace Go.Proofs.Ytpdenhmkpiafiaa
open Go Go.RowKit K6 Ref
namespace K6
def sL (i t : Nat) (kill : List Nat) (n : Nat) (cs : Array Value) : Sp := (⟨i, [], [], kill, [], [i], false, false, false⟩, ⟨fun _ x => x.v = .slice (some ⟨x.lo, 0, none⟩) n n ∧ x.hi = x.lo + 1, fun g w => (g i).hi = (g i).lo + 1 ∧ Row w (g i).lo t cs, None_, None_⟩)
theorem ok_L {w1 : World} {Z : Nat → Prop} {i t n : Nat} {kill : List Nat} {cs : Array Value} : OpOk w1 Z (sL i t kill n cs) where
  some_ := fun _ => ⟨⟨.slice (some ⟨w1.heap.size, 0, none⟩) n n, w1.heap.size, w1.heap.size + 1⟩, Nat.le_refl _, Nat.le_succ _, rfl, rfl⟩
  depV := fun _ _ _ _ h => h
  depF := fun g g' hg w h => by show (g' i).hi = (g' i).lo + 1 ∧ Row w (g' i).lo t cs; rw [hg i (.inl rfl)]; exact h
  loc := fun g w w' h hT => ⟨h.1, Row.tr h.2 hT fun hn => hn (.inr (.inr ⟨i, by simp [sL], Nat.le_refl _, by have : (g i).hi = (g i).lo + 1 := h.1; omega⟩))⟩
  xo := fun _ h => h.elim
  lo := fun _ h => h.elim
theorem left_L {l : List Sp} {i t n : Nat} {kill : List Nat} {cs : Array Value} {s : Sh} (hl : look6 l s.i = (sL i t kill n cs).2) (hs : s = (sL i t kill n cs).1) {g : Ghost} {w : World} : Left (look6 l) s g w (.slice (some ⟨w.heap.size, 0, none⟩) n n) (w.alloc (.cells cs t)) := by
  unfold Left
  rw [hl]
  subst hs
  refine ⟨⟨rfl, by simp⟩, Tr.of ((Below.refl _ _).alloc (Nat.le_refl _) _), ?_⟩
  show (gput g i _ i).hi = (gput g i _ i).lo + 1 ∧ Row _ (gput g i _ i).lo t cs
  rw [gput_self]
  exact ⟨by simp, Row.new_at rfl⟩
end K6
def d32 (a j : Nat) : Nat := a / 2 ^ (32 * j) % 2 ^ 32
def ofV (a i : Nat) : List Value := (List.range (2 * i)).map fun j => .int .u32 ((d32 a j : Nat) : Int)
theorem Sl_own {w : World} {base n : Nat} {v : Value} {xs : List Nat} (h : w.ownsRow base 181 1 v n (xs.map fun x => .int .u32 ((x : Nat) : Int))) (hn : n = xs.length) : Sl w v xs := by
  subst hn
  rcases h.2 with ⟨rfl, h0⟩ | ⟨g, cap, cur, rfl, hb, hg, h1, h2, h3, h4⟩
  · exact ⟨none, 0, by rw [h0], by omega, (fun _ => rfl), fun a ha => (by cases ha)⟩
  · refine ⟨_, _, rfl, h1, (fun h => (by cases h)), fun a ha => ?_⟩
    cases ha
    refine ⟨g, 0, rfl, (Array.getElem?_eq_some_iff.1 hg).1, fun i hi => ?_⟩
    have h5 := h.cells (g := g) rfl i (.int .u32 ((dg xs i : Nat) : Int)) (by rw [List.getElem?_map, dg_some hi]; rfl)
    have hadd : (⟨g, 0, none⟩ : Addr).add i = ⟨g, 0 + i, none⟩ := by unfold Addr.add; split <;> simp_all
    rw [hadd] at h5
    exact h5
theorem val_d32 (a k : Nat) : val ((List.range k).map (d32 a)) = a % 2 ^ (32 * k) := by
  induction k with
  | zero => simp [val, Nat.mod_one]
  | succ k ih =>
    rw [List.range_succ, List.map_append, val_append, ih, List.length_map, List.length_range, show 32 * (k + 1) = 32 * k + 32 by omega, Nat.pow_add, Nat.mod_mul, show B ^ k = 2 ^ (32 * k) by rw [Nat.pow_mul]]
    simp [val, d32]
theorem dig_d32 (a k : Nat) : Dig ((List.range k).map (d32 a)) := by
  intro x hx
  obtain ⟨j, _, rfl⟩ := List.mem_map.1 hx
  exact Nat.mod_lt _ (by decide)
theorem ofV_map (a i : Nat) : ofV a i = ((List.range (2 * i)).map (d32 a)).map fun x => .int .u32 ((x : Nat) : Int) := by
  unfold ofV
  rw [List.map_map]
  rfl
theorem ofV_succ (a i : Nat) : ofV a (i + 1) = ofV a i ++ [.int .u32 ((d32 a (2 * i) : Nat) : Int), .int .u32 ((d32 a (2 * i + 1) : Nat) : Int)] := by
  unfold ofV
  rw [show 2 * (i + 1) = 2 * i + 1 + 1 by omega, List.range_succ, List.range_succ]
  simp
theorem lo32 (a i : Nat) : IntKind.u32.wrap (wordsOf a i) = ((d32 a (2 * i) : Nat) : Int) := by
  unfold wordsOf d32
  rw [show 32 * (2 * i) = 64 * i by omega, IntKind.wrap_u32]
  have : a / 2 ^ (64 * i) % 2 ^ 64 % 2 ^ 32 = a / 2 ^ (64 * i) % 2 ^ 32 := Nat.mod_mod_of_dvd _ (by decide)
  rw [← this]
  omega
theorem hi32 (a i : Nat) : IntKind.u32.wrap (wordsOf a i / 4294967296) = ((d32 a (2 * i + 1) : Nat) : Int) := by
  unfold wordsOf d32
  rw [show 32 * (2 * i + 1) = 64 * i + 32 by omega, Nat.pow_add, ← Nat.div_div_eq_div_mul, IntKind.wrap_u32]
  generalize a / 2 ^ (64 * i) = x
  omega
set_option maxRecDepth 100000 in
set_option maxHeartbeats 4000000 in
theorem of164 (a : Nat) (ha : a < M) (w : World) :
    Calls Try.prog 164 #[.agg (W4 a)] w fun e w' => ∃ v, e = .returned v ∧ Sl w' v (digs a) ∧ Below w.heap.size w w' := by
  go_enter Try.func164, Try.ntmps164
  go_wp2_with fail
  go_loopg [3, 4] 4 (fun gg s3 s4 wr => ∃ i, i + gg = 4 ∧ s4 = .int .i64 ((i : Nat) : Int) ∧ Below w.heap.size w wr ∧ Row wr w.heap.size 31 (W4 a) ∧ wr.ownsRow (w.heap.size + 1) 181 1 s3 (2 * i) (ofV a i))
  case atStart => exact ⟨0, rfl, rfl, by go_grown, Row.new_at rfl, by simp [ofV, World.ownsRow]⟩
  case round =>
    obtain ⟨i, hi, rfl, hl, r0, ho⟩ := hrel
    by_cases hlt : i < 4
    · have H := Lib.hid (show _ ∧ _ ∧ _ from ⟨hl, r0, ho⟩)
      clear hl r0 ho
      have hd : decide ((i : Int) < 4) = true := by simp; omega
      go_upto_region 5 with (fail)
      obtain ⟨hl, r0, ho⟩ := H.out
      refine wp_abs (fun w5 => Below w.heap.size w w5 ∧ Row w5 w.heap.size 31 (W4 a) ∧ w5.ownsRow (w.heap.size + 1) 181 1 u3 (2 * i) (ofV a i)) ⟨hl, r0, ho⟩ ?_
      clear hl r0 ho H
      rintro w5 ⟨hl, r0, ho⟩
      obtain ⟨x0, hx0⟩ : ∃ x, IntKind.u32.wrap (wordsOf a i) = x := ⟨_, rfl⟩
      obtain ⟨x1, hx1⟩ : ∃ x, IntKind.u32.wrap (wordsOf a i / 4294967296) = x := ⟨_, rfl⟩
      have hI : (i : Int) < 4 := by omega
      have hown : ∀ b, u3.ownBlock = some b → u3.ownBlock = some b ∧ b < w5.heap.size := fun b hb => ⟨hb, (ho.lt b hb).2⟩
      let L : List Sp := [sL 10 181 [] 2 #[.int .u32 (x0), .int .u32 (x1)], sP 11 [10] [10] (w.heap.size + 1) 181 u3 (2 * i + 2) (ofV a (i + 1))]
      refine wp_region_six (shs L) (look6 L) (fun b => u3.ownBlock = some b) (by kernel_rfl) (by kernel_rfl) (mk_St L [11] [11] (by kernel_rfl) (by kernel_rfl) ⟨ok_L, ok_P hown, trivial⟩ (by simp)) ?_
      intro QQ hQ
      refine stepK rfl (by kernel_rfl) (fun K hK => ?_); go_simp
      apply Exists.intro; apply And.intro; (focus (intro wk hk; go_simp; exact ⟨rfl, rfl⟩)); refine hK _ _ ?_; clear hK K
      refine stepK rfl (by kernel_rfl) (fun K hK => ?_); go_simp
      apply Exists.intro; apply And.intro; (focus (intro wk hk; go_simp; exact ⟨rfl, rfl⟩)); refine hK _ _ ?_; clear hK K
      refine stepK rfl (by kernel_rfl) (fun K hK => ?_); go_simp
      apply Exists.intro; apply And.intro; (focus (intro wk hk; go_simp; exact ⟨rfl, rfl⟩)); refine hK _ _ ?_; clear hK K
      refine stepK rfl (by kernel_rfl) (fun K hK => ?_); go_simp
      apply Exists.intro; apply And.intro; (focus (intro wk hk; have cc := (K6.Row.tr r0 hk.undrew id).at_ i (by omega); go_simp; exact ⟨rfl, rfl⟩)); refine hK _ _ ?_; clear hK K
      refine stepK rfl (by kernel_rfl) (fun K hK => ?_); go_simp
      apply Exists.intro; apply And.intro; (focus (intro wk hk; go_simp; exact ⟨rfl, rfl⟩)); refine hK _ _ ?_; clear hK K
      refine stepK rfl (by kernel_rfl) (fun K hK => ?_); go_simp
      apply Exists.intro; apply And.intro; (focus (intro wk hk; go_simp; exact ⟨rfl, rfl⟩)); refine hK _ _ ?_; clear hK K
      refine stepK rfl (by kernel_rfl) (fun K hK => ?_); go_simp
      apply Exists.intro; apply And.intro; (focus (intro wk hk; go_simp; exact ⟨rfl, rfl⟩)); refine hK _ _ ?_; clear hK K
      refine stepK rfl (by kernel_rfl) (fun K hK => ?_); go_simp
      apply Exists.intro; apply And.intro; (focus (intro wk hk; have cc := (K6.Row.tr r0 hk.undrew id).at_ i (by omega); go_simp; exact ⟨rfl, rfl⟩)); refine hK _ _ ?_; clear hK K
      refine stepK rfl (by kernel_rfl) (fun K hK => ?_); go_simp
      apply Exists.intro; apply And.intro; (focus (intro wk hk; go_simp; exact ⟨rfl, rfl⟩)); refine hK _ _ ?_; clear hK K
      refine stepK rfl (by kernel_rfl) (fun K hK => ?_); go_simp
      apply Exists.intro; apply And.intro; (focus (intro wk hk; go_simp; exact ⟨rfl, rfl⟩)); refine hK _ _ ?_; clear hK K
      refine stepS _ rfl (by kernel_rfl) (fun K hK => ?_); go_simp
      refine ⟨?_, ?_⟩
      · intro wk hk hg hu; go_simp; exact left_L rfl rfl
      rintro ⟨v10, lo10, hi10⟩ hlo10 hhi10 ⟨e10, f10⟩
      replace e10 : v10 = .slice (some ⟨lo10, 0, none⟩) 2 2 := e10; replace f10 : hi10 = lo10 + 1 := f10; replace hlo10 : _ ≤ lo10 := hlo10; subst e10; subst f10
      refine hK _ _ ?_; clear hK K
      refine stepS _ rfl (by kernel_rfl) (fun K hK => ?_); go_simp
      refine ⟨?_, ?_⟩
      · intro wk hk hg hu; have u10 := hu 10 (show 10 ∈ [10] by decide); have r10 : Row wk lo10 181 #[.int .u32 x0, .int .u32 x1] := u10.2; have how := own_tr ho hk.undrew (fun _ _ => id); obtain ⟨v2, w2, hrun, ho2, hgb, -, hw2⟩ := run_append_own_at (P := Try.prog) wk (w.heap.size + 1) 153 153 181 _ _ 1 4 rfl rfl rfl rfl rfl rfl (by decide) u3 (2 * i) (ofV a i) how ⟨lo10, 0, none⟩ 2 2 [.int .u32 x0, .int .u32 x1] rfl (by intro j u hj; match j, hj with | 0, hj => (cases hj; exact r10.cell 0) | 1, hj => (cases hj; exact r10.cell 1)) (by simp [Value.oneCell']) (by simp only [maxLen]; omega) (by omega) (by have h1 := r0.lt; have h2 := hk.undrew.size; omega); rw [run_append_op rfl rfl rfl hrun]; exact left_P rfl rfl hgb (by rw [ofV_succ, ← lo32, ← hi32, hx0, hx1]; exact ho2) hw2
      rintro ⟨v11, lo11, hi11⟩ - - hG11
      refine hK _ _ ?_; clear hK K
      refine stepKz rfl (fun K hK => ?_); go_simp
      apply Exists.intro; apply And.intro; (focus (intro wk hk; go_simp; exact ⟨rfl, rfl⟩)); refine hK _ _ ?_; clear hK K
      refine stepN ?_
      refine hQ _ _ ?_
      intro w6 hT hG hF
      have hO : w6.ownsRow (w.heap.size + 1) 181 1 v11 (2 * i + 2) (ofV a (i + 1)) := (hF 11 _ rfl rfl (by decide)).2
      have hT2 := hT.undrew
      have hl6 : Below w.heap.size w w6 := hl.trans (hT2.below_of hl.size (by intro c hc; have := (ho.lt c hc).1; omega))
      have r6 : Row w6 w.heap.size 31 (W4 a) := K6.Row.tr r0 hT2 (fun hc => by have := (ho.lt _ hc).1; omega)
      have H := Lib.hid (show _ ∧ _ ∧ _ from ⟨hl6, r6, hO⟩)
      clear hT hT2 hG hF hQ QQ L hO hl6 r6 hl r0 ho hown hG11
      go_wp2_with fail
      go_roundg (gk - 1)
      case measure => omega
      case rel => exact ⟨i + 1, by omega, by go_num, H.out.1, H.out.2.1, H.out.2.2⟩
    · obtain rfl : i = 4 := by omega
      have hS : Sl wr u3 ((List.range 8).map (d32 a)) := Sl_own (base := w.heap.size + 1) (n := 2 * 4) (by rw [← ofV_map a 4]; exact ho) (by simp)
      have hT := trim_any u3 _ wr (dig_d32 a 8) hS (by simp)
      rw [val_d32, Nat.mod_eq_of_lt (show a < 2 ^ (32 * 8) from ha)] at hT
      have HT := Lib.hid hT
      clear hS hT r0 ho
      go_wp2_with fail
      refine HT.out.mono ?_
      rintro e w' ⟨rfl, u, rfl, hu⟩
      go_wp2_with fail
      go_ret
      exact ⟨_, rfl, hu, hl⟩
end Go.Proofs.Ytpdenhmkpiafiaa
namespace Go.Proofs.Ytpdenhmkpiafiaa
open Go Go.RowKit K6
def Ns (w : World) (u : Value) (l : List Int) : Prop := ∃ q c, u = .slice q l.length c ∧ (0 < l.length → ∃ g o, q = some ⟨g, o, none⟩ ∧ g < w.heap.size ∧ ∀ i (hi : i < l.length), w.cell? ⟨g, o + i, none⟩ = some (.int .i64 l[i]))
theorem Ns.below {w w' : World} {u : Value} {l : List Int} (h : Ns w u l) (hb : Below w.heap.size w w') : Ns w' u l := by
  obtain ⟨q, c, rfl, h⟩ := h
  refine ⟨q, c, rfl, fun h0 => ?_⟩
  obtain ⟨g, o, rfl, hg, hc⟩ := h h0
  exact ⟨g, o, rfl, Nat.lt_of_lt_of_le hg hb.size, fun i hi => (World.cell?_of_block (hb.block g hg)).trans (hc i hi)⟩
theorem kLoadE {P : Program} {w1 : World} {o : Oper} {a : Act} {X : Nat → Prop} {ty : TypeId} {x : Operand} {b off n : Nat} {cs : List Value} (ho : o.op = .load ty x) (hx : a.eval x = .pointer (some ⟨b, off, none⟩)) (T : AggT P ty n) (hr : ∀ j v, cs[j]? = some v → w1.cell? ⟨b, off + j, none⟩ = some v) (hs : cs.length = n) (hb : b < w1.heap.size) (hX : ¬ X b) : kOut P w1 X o a (.agg cs.toArray) := by
  intro w hw
  obtain ⟨⟨d, hu, hd⟩, hi⟩ := T
  have hc : w.rangeAt b off cs := fun j v hv => (World.cell?_of_block (hw.block b hb hX)).trans (hr j v hv)
  have h := run_loadAt_mid (P := P) w b off ty cs d hc hu (by cases d <;> first | rfl | exact Bool.noConfusion hd) (by rw [hi, ← hs])
  unfold execOp
  simp only [ho, hx, Sem.run_bind, Sem.run_pure, Result.andThen_ok, h]
  exact ⟨by simp, rfl⟩
theorem kLoadA {P : Program} {w1 : World} {o : Oper} {a : Act} {X : Nat → Prop} {ty : TypeId} {x : Operand} {b off n : Nat} {cs : Array Value} (ho : o.op = .load ty x) (hx : a.eval x = .pointer (some ⟨b, off, none⟩)) (T : AggT P ty n) (hr : ∀ j v, cs.toList[j]? = some v → w1.cell? ⟨b, off + j, none⟩ = some v) (hs : cs.size = n) (hb : b < w1.heap.size) (hX : ¬ X b) : kOut P w1 X o a (.agg cs) :=
  kLoadE (cs := cs.toList) ho hx T hr (by rw [Array.length_toList]; exact hs) hb hX
theorem Us.elem {w : World} {u : Value} {l : List Nat} {i x : Nat} (h : Us w u l) (hx : l[i]? = some x) : ∃ g o c, u = .slice (some ⟨g, o, none⟩) l.length c ∧ g < w.heap.size ∧ ∀ j v, (W4 x).toList[j]? = some v → w.cell? ⟨g, o + i * 4 + j, none⟩ = some v := by
  obtain ⟨hi, rfl⟩ := List.getElem?_eq_some_iff.1 hx
  obtain ⟨g, o, c, hu, hg, hc⟩ := h.at_ hi
  exact ⟨g, o, c, hu, hg, fun j v hj => hc i hi j v hj⟩
theorem Oe.one {w : World} {b : Nat} {v : Value} {l : List Nat} (h : Oe w b v l) : v.oneCell' = true := by
  rcases h.2 with ⟨rfl, -⟩ | ⟨g, cap, cur, rfl, -⟩
  · rfl
  · rfl
end Go.Proofs.Ytpdenhmkpiafiaa
namespace Go.Proofs.Ytpdenhmkpiafiaa
open Go Go.RowKit K6
structure Ev where
  k : Int
  q : Option Addr
  c : Nat
  l : List Nat
instance : Inhabited Ev := ⟨⟨0, none, 0, []⟩⟩
def Ev.v (e : Ev) : Value := .slice e.q e.l.length e.c
structure EvOk (w : World) (e : Ev) : Prop where
  us : Us w e.v e.l
  lt : ∀ a ∈ e.l, a < M
  lo : -9223372036854775808 ≤ e.k
  hi : e.k < 9223372036854775808
theorem EvOk.below {w w' : World} {e : Ev} (h : EvOk w e) (hb : Below w.heap.size w w') : EvOk w' e := ⟨h.us.below hb, h.lt, h.lo, h.hi⟩
def Es (w : World) (u : Value) (E : List Ev) : Prop := ∃ q c, u = .slice q E.length c ∧ (0 < E.length → ∃ g o, q = some ⟨g, o, none⟩ ∧ g < w.heap.size ∧ ∀ i e, E[i]? = some e → w.cell? ⟨g, o + i * 2, none⟩ = some (.int .i64 e.k) ∧ w.cell? ⟨g, o + i * 2 + 1, none⟩ = some e.v) ∧ ∀ e ∈ E, EvOk w e
theorem Es.below {w w' : World} {u : Value} {E : List Ev} (h : Es w u E) (hb : Below w.heap.size w w') : Es w' u E := by
  obtain ⟨q, c, rfl, h, hk⟩ := h
  refine ⟨q, c, rfl, fun h0 => ?_, fun e he => (hk e he).below hb⟩
  obtain ⟨g, o, rfl, hg, hc⟩ := h h0
  exact ⟨g, o, rfl, Nat.lt_of_lt_of_le hg hb.size, fun i e he => ⟨(World.cell?_of_block (hb.block g hg)).trans (hc i e he).1, (World.cell?_of_block (hb.block g hg)).trans (hc i e he).2⟩⟩
theorem Es.get {w wr : World} {u : Value} {E : List Ev} (h : Es w u E) (hb : Below w.heap.size w wr) {i : Nat} {e : Ev} (he : E[i]? = some e) :
    ∃ g o c, u = .slice (some ⟨g, o, none⟩) E.length c ∧ g < wr.heap.size ∧ EvOk wr e ∧ ∀ j v, [Value.int .i64 e.k, e.v][j]? = some v → wr.cell? ⟨g, o + i * 2 + j, none⟩ = some v := by
  obtain ⟨q, c, rfl, h, hk⟩ := h.below hb
  obtain ⟨g, o, rfl, hg, hc⟩ := h (by have := (List.getElem?_eq_some_iff.1 he).1; omega)
  refine ⟨g, o, c, rfl, hg, hk e (List.mem_of_getElem? he), fun j v hj => ?_⟩
  obtain ⟨h0, h1⟩ := hc i e he
  match j, hj with
  | 0, hj =>
    have hj' : some (Value.int .i64 e.k) = some v := hj
    rw [← hj']
    exact h0
  | 1, hj =>
    have hj' : some e.v = some v := hj
    rw [← hj']
    exact h1
def IdxP (b : Bool) (w : World) (r : Ending) (w' : World) : Prop := ∃ n : Int, r = .returned (.int .i64 n) ∧ (b = true → n = -1) ∧ (b = false → 0 ≤ n) ∧ Below w.heap.size w w'
end Go.Proofs.Ytpdenhmkpiafiaa
namespace Go.Proofs.Ytpdenhmkpiafiaa
open Go.ChangeShapes Go.WideShapes Go.ChangeAt Go.RowKit K6
theorem bytes31V : Try.prog.bytesOf 31 = 32 := by kernel_rfl
theorem weights_head {H : Type} {P : Program} {t e : TypeId} {es sp : List (DataW H)} (h : P.underlying t = some (.slice e)) : (es.length + sp.length) * P.bytesOf e ∈ (DataW.slice es sp).weights P t := by
  simp [DataW.weights, h]
set_option maxRecDepth 100000 in
theorem cell_U {H : Type} {enc : TypeId × Value → H} {W : World} {base : Nat} {spare : Nat → Bool} {held : Bool} {fuel : Nat} {cs : List Value} {y : DataW H × List MemPlace}
    (hf : DataW.trod enc Try.prog W base spare held fuel 23 cs = some y) :
    ∃ (q : Option Addr) (c : Nat) (l : List Nat), cs = [.slice q l.length c] ∧ Us W (.slice q l.length c) l ∧ (∀ a ∈ l, a < M) ∧ (l = [] ∨ ∃ x ∈ y.1.weights Try.prog 23, l.length * 32 ≤ x) := by
  rcases Go.Deep.open_slice Try.underlying23 hf with ⟨hc, hx⟩ | ⟨a, n, c, m, k, D, Pl, hc, _, hle, hmax, hm, hy, hcell⟩
  · exact ⟨none, 0, [], hc, Us.nil W, (fun _ h => (by cases h)), .inl rfl⟩
  · have hnm : n ≤ m := by rw [hm]; split <;> omega
    rw [cells31V] at hcell
    obtain ⟨F, hF⟩ := Go.Deep.choose_lt (α := Nat) (n := m) (p := fun i x => x < M ∧ W.cells? base (a.add (i * 4)) 4 = some (W4 x).toList) (fun i hi => by
      obtain ⟨cs, h1, h2⟩ := hcell i hi
      obtain ⟨_, hlen, _⟩ := World.cells?_some h1
      obtain ⟨x, e, hx⟩ := words_V hlen h2
      exact ⟨x, hx, by rw [h1, e]⟩)
    have e : ((List.range n).map F).length = n := by simp
    refine ⟨some a, c, (List.range n).map F, by rw [e]; exact hc, ⟨some a, c, rfl, (fun h => (by cases h)), fun p hp j v hj => ?_⟩, fun x hx => ?_, .inr ?_⟩
    · cases hp
      have hj4 : j < n * 4 := by have h9 := (List.getElem?_eq_some_iff.1 hj).1; rw [uw_len, e] at h9; exact h9
      have hi : j / 4 < n := by omega
      obtain ⟨-, h1⟩ := hF (j / 4) (by omega)
      obtain ⟨_, hl1, h1c⟩ := World.cells?_some h1
      obtain ⟨-, h10⟩ := hF 0 (by omega)
      obtain ⟨_, hl0, h0c⟩ := World.cells?_some h10
      have h2 := h0c 0 (by decide)
      have h3 : W.cell? ((a.add (0 * 4)).add 0) = some (.int .u64 (wordsOf (F 0) 0)) := by first | exact h2 | (rw [h2]; rfl)
      have h4 := spot_noneV h3
      have hs : a.spot = none := spot_of_addV (show (a.add 0).spot = none from spot_of_addV h4.1)
      have h6 := h1c (j % 4) (by omega)
      rw [add_plainV hs, add_plainV (a := ⟨a.block, a.off + j / 4 * 4, none⟩) rfl] at h6
      rw [add_plainV hs, ← hj]
      have hu := uw_get ((List.range n).map F) (j / 4) (j % 4) (by rw [e]; exact hi) (by omega)
      rw [show j / 4 * 4 + j % 4 = j by omega] at hu
      rw [hu]
      rw [show a.off + j / 4 * 4 + j % 4 = a.off + j by omega] at h6
      rw [h6]
      simp
    · obtain ⟨i, hi, rfl⟩ := List.mem_map.1 hx
      exact (hF i (by have := List.mem_range.1 hi; omega)).1
    · rw [hy]
      refine ⟨_, weights_head Try.underlying23, ?_⟩
      rw [e, bytes31V]
      simp only [List.length_map, List.length_range]
      omega
end Go.Proofs.Ytpdenhmkpiafiaa
namespace Go.Proofs.Ytpdenhmkpiafiaa
open Go Go.RowKit K6
theorem fresh_append {u : Value} {xs : List Int} {w : World} (h : Bs w u xs) (hL : xs.length ≤ 100000000) : ∃ v2 w2, (Builtin.append_ #[33, 33] 33 #[.slice (some ⟨w.heap.size, 0, none⟩) 0 0, u]).run Try.prog (w.alloc (.cells #[] 5)) = .ok v2 w2 ∧ Ob w2 w.heap.size v2 xs ∧ Below w.heap.size w w2 := by
  have ha : Below w.heap.size w (w.alloc (.cells #[] 5)) := (Below.refl _ _).alloc (Nat.le_refl _) _
  have ho : Ob (w.alloc (.cells #[] 5)) w.heap.size (.slice (some ⟨w.heap.size, 0, none⟩) 0 0) [] := ⟨rfl, .inr ⟨w.heap.size, 0, #[], rfl, Nat.le_refl _, Row.new_at (t := 5) (cs := #[]) rfl, Nat.le_refl _, Nat.zero_le _, rfl, rfl⟩⟩
  obtain ⟨v2, w2, hrun, ho2, hg, hw⟩ := append_run ho (h.below ha) (by simp; omega) (by simp)
  refine ⟨v2, w2, hrun, ho2, hg.os, hg.tape, hg.output, Nat.le_trans ha.size hg.size, fun k hk => ?_⟩
  rw [hg.block k (Nat.lt_of_lt_of_le hk ha.size) (fun e => by have : k = w.heap.size := Option.some.inj e; omega)]
  exact ha.block k hk
theorem wpList_app {ops : Array Oper} {rest : List Oper} {o : Oper} {a : Act} {Q : Exit → Act → World → Prop} {w w' : World} {x y : Operand} {t1 t2 : TypeId} {v u v' : Value} (hgd : o.guard = none)
    (ho : o.op = .call { callee := .builtin .append, args := #[x, y], argTypes := #[t1, t2] }) (hx : a.eval x = v) (hy : a.eval y = u)
    (hrun : (Builtin.append_ #[t1, t2] o.type #[v, u]).run Try.prog w = .ok v' w') (h : wpList Try.prog ops Q rest (a.put o.dst v') w') : wpList Try.prog ops Q (o :: rest) a w := by
  refine wpList_plain hgd fun K hK => ?_
  unfold Oper.wp execOp
  simp only [ho, resolve, invoke, builtin, Sem.run_bind, Sem.run_pure, Result.andThen_ok, List.map_toArray, List.map_cons, List.map_nil, hx, hy, hrun]
  exact hK _ _ h
theorem slice_nil (w : World) : (binOp .eql 33 (.slice none 0 0) (.slice none 0 0)).run Try.prog w = .ok (.bool true) w := by kernel_rfl
theorem slice_not (a : Addr) (n c : Nat) (w : World) : (binOp .eql 33 (.slice (some a) n c) (.slice none 0 0)).run Try.prog w = .ok (.bool false) w := by kernel_rfl
set_option maxRecDepth 100000 in
set_option maxHeartbeats 4000000 in
theorem clone_any (u : Value) (xs : List Int) (w : World) (h : Bs w u xs) (hL : xs.length ≤ 100000000) : Calls Try.prog 157 #[u] w fun e w' => ∃ v, e = .returned v ∧ Ob w' w.heap.size v xs ∧ Below w.heap.size w w' := by
  have hb := h
  obtain ⟨q, c, rfl, hn, h1⟩ := h
  cases q with
  | none =>
    obtain ⟨rfl, rfl⟩ := hn rfl
    clear hb hn h1 hL
    have hq := slice_nil
    go_enter Try.func157, Try.ntmps157
    go_wp2_with fail
    go_ret
    exact ⟨_, rfl, Ob.nil _ _, Below.refl _ _⟩
  | some a =>
    obtain ⟨n, hn'⟩ : ∃ n, xs.length = n := ⟨_, rfl⟩
    obtain ⟨v2, w2, hrun, ho2, hl⟩ := fresh_append hb hL
    rw [hn'] at hrun ⊢
    have H := Lib.hid (show _ ∧ _ from ⟨ho2, hl⟩)
    clear hb hn h1 hL ho2 hl hn'
    have hq := fun w => slice_not a n c w
    go_enter Try.func157, Try.ntmps157
    go_wp2_with (at_builtin; refine wpList_app rfl rfl rfl rfl hrun ?_)
    go_ret
    exact ⟨_, rfl, H.out.1, H.out.2⟩
def enc (m : Nat) : List Int := if h : m < 128 then [(m : Int)] else ((m % 128 + 128 : Nat) : Int) :: enc (m / 128)
termination_by m
decreasing_by omega
theorem enc_low {m : Nat} (h : m < 128) : enc m = [(m : Int)] := by unfold enc; rw [dif_pos h]
theorem enc_high {m : Nat} (h : ¬ m < 128) : enc m = ((m % 128 + 128 : Nat) : Int) :: enc (m / 128) := by rw [enc, dif_neg h]
set_option maxRecDepth 100000 in
theorem or128_key : ∀ x : Fin 256, bits .or .u8 ((x.val : Nat) : Int) 128 = ((x.val % 128 + 128 : Nat) : Int) := by decide
theorem enc_len : ∀ (k m : Nat), m < 128 ^ (k + 1) → (enc m).length ≤ k + 1
  | 0, m, h => by rw [enc_low (by simpa using h)]; simp
  | k + 1, m, h => by
    by_cases h1 : m < 128
    · rw [enc_low h1]; simp
    · rw [enc_high h1, List.length_cons]
      have := enc_len k (m / 128) (by rw [Nat.div_lt_iff_lt_mul (by decide)]; rw [Nat.pow_succ] at h; exact h)
      omega
theorem or128 (m : Nat) : bits .or .u8 ((m : Int) % 256) 128 = ((m % 128 + 128 : Nat) : Int) := by
  have h : (m : Int) % 256 = ((m % 256 : Nat) : Int) := by omega
  rw [h]
  have := or128_key ⟨m % 256, Nat.mod_lt _ (by decide)⟩
  simp only at this
  rw [this, Nat.mod_mod_of_dvd _ (by decide)]
theorem shr7 (m : Nat) (w : World) : (binOp .shr 3 (.int .i64 (m : Int)) (.int .u64 7)).run Try.prog w = .ok (.int .i64 ((m / 128 : Nat) : Int)) w := by
  have e : (m : Int).fdiv (2 ^ 7) = ((m / 128 : Nat) : Int) := by
    rw [Int.fdiv_eq_ediv_of_nonneg _ (by decide)]; omega
  show (Op.shift .shr .i64 (m : Int) .u64 7).run Try.prog w = _
  unfold Op.shift
  rw [if_neg (by decide)]
  show Result.ok (Value.int .i64 ((m : Int).fdiv (2 ^ 7))) w = _
  rw [e]
theorem Bs_new {w : World} (x : Int) : Bs (w.alloc (.cells #[.int .u8 x] 5)) (.slice (some ⟨w.heap.size, 0, none⟩) 1 1) [x] := by
  refine ⟨_, _, rfl, (fun h => (by cases h)), fun a ha j u hj => ?_⟩
  cases ha
  match j, hj with
  | 0, hj =>
    cases hj
    rw [add_at]
    exact (Row.new_at (w := w) (cs := #[.int .u8 x]) (t := 5) rfl).cell 0
theorem grew_below {w w2 : World} {B : Nat} {x : Obj} {v : Value} (hB : B ≤ w.heap.size) (ho : ∀ b, v.ownBlock = some b → B ≤ b) (hg : (w.alloc x).grownBy w2 v.ownBlock) : Below B w w2 := by
  have ha : Below w.heap.size w (w.alloc x) := (Below.refl _ _).alloc (Nat.le_refl _) _
  refine ⟨hg.os, hg.tape, hg.output, Nat.le_trans ha.size hg.size, fun k hk => ?_⟩
  rw [hg.block k (Nat.lt_of_lt_of_le (Nat.lt_of_lt_of_le hk hB) ha.size) (fun e => by have := ho k e.symm; omega)]
  exact ha.block k (Nat.lt_of_lt_of_le hk hB)
set_option maxRecDepth 100000 in
set_option maxHeartbeats 8000000 in
theorem var_any (u : Value) (xs : List Int) (n0 : Int) (w : World) (h : Bs w u xs) (hL : xs.length ≤ 10000000) (hn0 : n0 < 9223372036854775808) :
    Calls Try.prog 38 #[u, .int .i64 n0] w fun e w' => ∃ v, e = .returned v ∧ Ob w' w.heap.size v (xs ++ enc n0.toNat) ∧ Below w.heap.size w w' := by
  obtain ⟨n, hnn⟩ : ∃ n, n0.toNat = n := ⟨_, rfl⟩
  have hn : n < 9223372036854775808 := by omega
  have hneg : n0 < 0 ∧ (0 : Int) = (n : Int) ∨ 0 ≤ n0 ∧ n0 = (n : Int) := by omega
  rw [hnn]
  have hcl := Lib.hid (clone_any u xs w h (by omega))
  have hlen : (xs ++ enc n).length ≤ 10000010 := by rw [List.length_append]; have := enc_len 8 n (by omega); omega
  obtain ⟨N, hN⟩ : ∃ N, w.heap.size = N := ⟨_, rfl⟩
  obtain ⟨all, hall⟩ : ∃ all, xs ++ enc n = all := ⟨_, rfl⟩
  rw [hall] at hlen ⊢
  clear h hL hn0 hnn
  rcases hneg with ⟨h1, h2⟩ | ⟨h1, h2⟩
  · obtain rfl : n = 0 := by omega
    clear h2
    go_enter Try.func38, Try.ntmps38
    go_wp2_with fail
    refine hcl.out.mono ?_
    rintro e w1 ⟨v1, rfl, ho1, hl1⟩
    clear hcl
    have H0 := Lib.hid (show _ ∧ _ ∧ _ ∧ _ ∧ _ from ⟨ho1, hl1, hall, hlen, hn⟩)
    clear ho1 hl1 hall hlen hn
    go_wp2_with fail
    go_loopg [1, 5] 0 (fun gg s1 s5 wr => ∃ zs, s1 = .int .i64 ((gg : Nat) : Int) ∧ gg < 9223372036854775808 ∧ Ob wr w.heap.size s5 zs ∧ zs ++ enc gg = all ∧ Below w.heap.size w wr)
    case atStart => exact ⟨xs, rfl, H0.out.2.2.2.2, H0.out.1, H0.out.2.2.1, H0.out.2.1⟩
    case round =>
      obtain ⟨zs, rfl, hm, ho, hz, hl⟩ := hrel
      obtain ⟨m, rfl⟩ : ∃ m : Nat, m = gk := ⟨_, rfl⟩
      obtain ⟨wo, rfl⟩ : ∃ wo : World, wo = wr := ⟨_, rfl⟩
      have hzl : zs.length ≤ 10000010 := by
        have h1 := H0.out.2.2.2.1
        rw [← hz, List.length_append] at h1
        omega
      by_cases hlt : m < 128
      · have hd : (m : Int) < 128 := by omega
        have wm : IntKind.u8.wrap (m : Int) = (m : Int) := by rw [IntKind.wrap_u8]; omega
        have hob := hl.size
        have ha : Below wo.heap.size wo (wo.alloc (.cells #[.int .u8 (m : Int)] 5)) := (Below.refl _ _).alloc (Nat.le_refl _) _
        obtain ⟨v2, w2, hrun, ho2, hg, hw⟩ := append_run (ho.below ha) (Bs_new (w := wo) (m : Int)) (by simp; omega) (Nat.le_trans hl.size ha.size)
        have hl2 := hl.trans (grew_below hl.size (fun b hb => (ho.lt b hb).1) hg)
        rw [enc_low hlt] at hz
        rw [hz] at ho2
        have H := Lib.hid (show _ ∧ _ from ⟨ho2, hl2⟩)
        clear ha ho2 hg hw hl2 hz ho hl hlt hzl hob
        go_wp2_with (at_builtin; refine wpList_app rfl rfl rfl rfl hrun ?_)
        go_ret
        exact ⟨_, rfl, H.out.1, H.out.2⟩
      · have hd : (128 : Int) ≤ (m : Int) := by omega
        have ho128 := or128 m
        have hshr := shr7 m
        obtain ⟨y, hy⟩ : ∃ y, ((m % 128 + 128 : Nat) : Int) = y := ⟨_, rfl⟩
        rw [hy] at ho128
        have ha : Below wo.heap.size wo (wo.alloc (.cells #[.int .u8 y] 5)) := (Below.refl _ _).alloc (Nat.le_refl _) _
        obtain ⟨v2, w2, hrun, ho2, hg, hw⟩ := append_run (ho.below ha) (Bs_new (w := wo) y) (by simp; omega) (Nat.le_trans hl.size ha.size)
        have hl2 := hl.trans (grew_below hl.size (fun b hb => (ho.lt b hb).1) hg)
        have hz2 : (zs ++ [y]) ++ enc (m / 128) = all := by rw [List.append_assoc, ← hz, enc_high hlt, hy]; rfl
        have H := Lib.hid (show _ ∧ _ ∧ _ from ⟨ho2, hl2, hz2⟩)
        clear ha ho2 hg hw hl2 hz2 hz ho hl hzl hy
        go_wp2_with (at_builtin; refine wpList_app rfl rfl rfl rfl hrun ?_)
        go_roundg (m / 128)
        case measure => omega
        case rel => exact ⟨zs ++ [y], by go_num, by omega, H.out.1, H.out.2.2, H.out.2.1⟩
  · subst h2
    have h3 : ¬ (n : Int) < 0 := by omega
    clear h1
    go_enter Try.func38, Try.ntmps38
    go_wp2_with fail
    refine hcl.out.mono ?_
    rintro e w1 ⟨v1, rfl, ho1, hl1⟩
    clear hcl
    have H0 := Lib.hid (show _ ∧ _ ∧ _ ∧ _ ∧ _ from ⟨ho1, hl1, hall, hlen, hn⟩)
    clear ho1 hl1 hall hlen hn
    go_wp2_with fail
    go_loopg [1, 5] n (fun gg s1 s5 wr => ∃ zs, s1 = .int .i64 ((gg : Nat) : Int) ∧ gg < 9223372036854775808 ∧ Ob wr w.heap.size s5 zs ∧ zs ++ enc gg = all ∧ Below w.heap.size w wr)
    case atStart => exact ⟨xs, rfl, H0.out.2.2.2.2, H0.out.1, H0.out.2.2.1, H0.out.2.1⟩
    case round =>
      obtain ⟨zs, rfl, hm, ho, hz, hl⟩ := hrel
      obtain ⟨m, rfl⟩ : ∃ m : Nat, m = gk := ⟨_, rfl⟩
      obtain ⟨wo, rfl⟩ : ∃ wo : World, wo = wr := ⟨_, rfl⟩
      have hzl : zs.length ≤ 10000010 := by
        have h1 := H0.out.2.2.2.1
        rw [← hz, List.length_append] at h1
        omega
      by_cases hlt : m < 128
      · have hd : (m : Int) < 128 := by omega
        have wm : IntKind.u8.wrap (m : Int) = (m : Int) := by rw [IntKind.wrap_u8]; omega
        have hob := hl.size
        have ha : Below wo.heap.size wo (wo.alloc (.cells #[.int .u8 (m : Int)] 5)) := (Below.refl _ _).alloc (Nat.le_refl _) _
        obtain ⟨v2, w2, hrun, ho2, hg, hw⟩ := append_run (ho.below ha) (Bs_new (w := wo) (m : Int)) (by simp; omega) (Nat.le_trans hl.size ha.size)
        have hl2 := hl.trans (grew_below hl.size (fun b hb => (ho.lt b hb).1) hg)
        rw [enc_low hlt] at hz
        rw [hz] at ho2
        have H := Lib.hid (show _ ∧ _ from ⟨ho2, hl2⟩)
        clear ha ho2 hg hw hl2 hz ho hl hlt hzl hob
        go_wp2_with (at_builtin; refine wpList_app rfl rfl rfl rfl hrun ?_)
        go_ret
        exact ⟨_, rfl, H.out.1, H.out.2⟩
      · have hd : (128 : Int) ≤ (m : Int) := by omega
        have ho128 := or128 m
        have hshr := shr7 m
        obtain ⟨y, hy⟩ : ∃ y, ((m % 128 + 128 : Nat) : Int) = y := ⟨_, rfl⟩
        rw [hy] at ho128
        have ha : Below wo.heap.size wo (wo.alloc (.cells #[.int .u8 y] 5)) := (Below.refl _ _).alloc (Nat.le_refl _) _
        obtain ⟨v2, w2, hrun, ho2, hg, hw⟩ := append_run (ho.below ha) (Bs_new (w := wo) y) (by simp; omega) (Nat.le_trans hl.size ha.size)
        have hl2 := hl.trans (grew_below hl.size (fun b hb => (ho.lt b hb).1) hg)
        have hz2 : (zs ++ [y]) ++ enc (m / 128) = all := by rw [List.append_assoc, ← hz, enc_high hlt, hy]; rfl
        have H := Lib.hid (show _ ∧ _ ∧ _ from ⟨ho2, hl2, hz2⟩)
        clear ha ho2 hg hw hl2 hz2 hz ho hl hzl hy
        go_wp2_with (at_builtin; refine wpList_app rfl rfl rfl rfl hrun ?_)
        go_roundg (m / 128)
        case measure => omega
        case rel => exact ⟨zs ++ [y], by go_num, by omega, H.out.1, H.out.2.2, H.out.2.1⟩
set_option maxRecDepth 100000 in
set_option maxHeartbeats 8000000 in
theorem refvar_any (u : Value) (xs : List Int) (n0 : Int) (w : World) (h : Bs w u xs) (hL : xs.length ≤ 10000000) (hn0 : n0 < 9223372036854775808) :
    Calls Try.prog 39 #[u, .int .i64 n0] w fun e w' => ∃ v, e = .returned v ∧ Ob w' w.heap.size v (xs ++ enc n0.toNat) ∧ Below w.heap.size w w' := by
  obtain ⟨n, hnn⟩ : ∃ n, n0.toNat = n := ⟨_, rfl⟩
  have hn : n < 9223372036854775808 := by omega
  rw [hnn]
  have hlen : (xs ++ enc n).length ≤ 10000010 := by rw [List.length_append]; have := enc_len 8 n (by omega); omega
  obtain ⟨v1, w1, hrun1, ho1, hl1⟩ := fresh_append h (by omega)
  obtain ⟨all, hall⟩ : ∃ all, xs ++ enc n = all := ⟨_, rfl⟩
  rw [hall] at hlen ⊢
  have H0 := Lib.hid (show _ ∧ _ ∧ _ ∧ _ ∧ _ from ⟨ho1, hl1, hall, hlen, hn⟩)
  have hneg : n0 < 0 ∧ (0 : Int) = (n : Int) ∨ 0 ≤ n0 ∧ n0 = (n : Int) := by omega
  clear ho1 hl1 hall hlen hn h hL hn0 hnn
  rcases hneg with ⟨h1, h2⟩ | ⟨h1, h2⟩
  · obtain rfl : n = 0 := by omega
    clear h2
    go_enter Try.func39, Try.ntmps39
    go_wp2_with (at_builtin; refine wpList_app rfl rfl rfl rfl hrun1 ?_)
    go_loopg [1, 5] 0 (fun gg s1 s5 wr => ∃ zs, s1 = .int .i64 ((gg : Nat) : Int) ∧ gg < 9223372036854775808 ∧ Ob wr w.heap.size s5 zs ∧ zs ++ enc gg = all ∧ Below w.heap.size w wr)
    case atStart => exact ⟨xs, rfl, H0.out.2.2.2.2, H0.out.1, H0.out.2.2.1, H0.out.2.1⟩
    case round =>
      obtain ⟨zs, rfl, hm, ho, hz, hl⟩ := hrel
      obtain ⟨m, rfl⟩ : ∃ m : Nat, m = gk := ⟨_, rfl⟩
      obtain ⟨wo, rfl⟩ : ∃ wo : World, wo = wr := ⟨_, rfl⟩
      have hzl : zs.length ≤ 10000010 := by
        have h1 := H0.out.2.2.2.1
        rw [← hz, List.length_append] at h1
        omega
      by_cases hlt : m < 128
      · have hd : (m : Int) ≤ 127 := by omega
        have wm : IntKind.u8.wrap (m : Int) = (m : Int) := by rw [IntKind.wrap_u8]; omega
        have ha : Below wo.heap.size wo (wo.alloc (.cells #[.int .u8 (m : Int)] 5)) := (Below.refl _ _).alloc (Nat.le_refl _) _
        obtain ⟨v2, w2, hrun, ho2, hg, hw⟩ := append_run (ho.below ha) (Bs_new (w := wo) (m : Int)) (by simp; omega) (Nat.le_trans hl.size ha.size)
        have hl2 := hl.trans (grew_below hl.size (fun b hb => (ho.lt b hb).1) hg)
        rw [enc_low hlt] at hz
        rw [hz] at ho2
        have H := Lib.hid (show _ ∧ _ from ⟨ho2, hl2⟩)
        clear ha ho2 hg hw hl2 hz ho hl hlt hzl
        go_wp2_with (at_builtin; refine wpList_app rfl rfl rfl rfl hrun ?_)
        go_ret
        exact ⟨_, rfl, H.out.1, H.out.2⟩
      · have hd : (127 : Int) < (m : Int) := by omega
        have tm : ((m : Int)).tmod 128 = ((m % 128 : Nat) : Int) := by rw [Int.tmod_eq_emod_of_nonneg (by omega)]; omega
        have td : ((m : Int)).tdiv 128 = ((m / 128 : Nat) : Int) := by rw [Int.tdiv_eq_ediv_of_nonneg (by omega)]; omega
        obtain ⟨r, hr⟩ : ∃ r, m % 128 = r := ⟨_, rfl⟩
        have hr128 : r < 128 := hr ▸ Nat.mod_lt _ (by decide)
        rw [hr] at tm
        have w1 : IntKind.u8.wrap (r : Int) = (r : Int) := by rw [IntKind.wrap_u8]; omega
        have w2' : IntKind.u8.wrap ((r : Int) + 128) = (r : Int) + 128 := by rw [IntKind.wrap_u8]; omega
        have ha : Below wo.heap.size wo (wo.alloc (.cells #[.int .u8 ((r : Int) + 128)] 5)) := (Below.refl _ _).alloc (Nat.le_refl _) _
        obtain ⟨v2, w2, hrun, ho2, hg, hw⟩ := append_run (ho.below ha) (Bs_new (w := wo) ((r : Int) + 128)) (by simp; omega) (Nat.le_trans hl.size ha.size)
        have hl2 := hl.trans (grew_below hl.size (fun b hb => (ho.lt b hb).1) hg)
        have hz2 : (zs ++ [(r : Int) + 128]) ++ enc (m / 128) = all := by rw [List.append_assoc, ← hz, enc_high hlt, hr]; rfl
        have H := Lib.hid (show _ ∧ _ ∧ _ from ⟨ho2, hl2, hz2⟩)
        clear ha ho2 hg hw hl2 hz2 hz ho hl hzl hr
        go_wp2_with (at_builtin; refine wpList_app rfl rfl rfl rfl hrun ?_)
        go_roundg (m / 128)
        case measure => omega
        case rel => exact ⟨zs ++ [(r : Int) + 128], by go_num, by omega, H.out.1, H.out.2.2, H.out.2.1⟩
  · subst h2
    clear h1
    go_enter Try.func39, Try.ntmps39
    go_wp2_with (at_builtin; refine wpList_app rfl rfl rfl rfl hrun1 ?_)
    go_loopg [1, 5] n (fun gg s1 s5 wr => ∃ zs, s1 = .int .i64 ((gg : Nat) : Int) ∧ gg < 9223372036854775808 ∧ Ob wr w.heap.size s5 zs ∧ zs ++ enc gg = all ∧ Below w.heap.size w wr)
    case atStart => exact ⟨xs, rfl, H0.out.2.2.2.2, H0.out.1, H0.out.2.2.1, H0.out.2.1⟩
    case round =>
      obtain ⟨zs, rfl, hm, ho, hz, hl⟩ := hrel
      obtain ⟨m, rfl⟩ : ∃ m : Nat, m = gk := ⟨_, rfl⟩
      obtain ⟨wo, rfl⟩ : ∃ wo : World, wo = wr := ⟨_, rfl⟩
      have hzl : zs.length ≤ 10000010 := by
        have h1 := H0.out.2.2.2.1
        rw [← hz, List.length_append] at h1
        omega
      by_cases hlt : m < 128
      · have hd : (m : Int) ≤ 127 := by omega
        have wm : IntKind.u8.wrap (m : Int) = (m : Int) := by rw [IntKind.wrap_u8]; omega
        have ha : Below wo.heap.size wo (wo.alloc (.cells #[.int .u8 (m : Int)] 5)) := (Below.refl _ _).alloc (Nat.le_refl _) _
        obtain ⟨v2, w2, hrun, ho2, hg, hw⟩ := append_run (ho.below ha) (Bs_new (w := wo) (m : Int)) (by simp; omega) (Nat.le_trans hl.size ha.size)
        have hl2 := hl.trans (grew_below hl.size (fun b hb => (ho.lt b hb).1) hg)
        rw [enc_low hlt] at hz
        rw [hz] at ho2
        have H := Lib.hid (show _ ∧ _ from ⟨ho2, hl2⟩)
        clear ha ho2 hg hw hl2 hz ho hl hlt hzl
        go_wp2_with (at_builtin; refine wpList_app rfl rfl rfl rfl hrun ?_)
        go_ret
        exact ⟨_, rfl, H.out.1, H.out.2⟩
      · have hd : (127 : Int) < (m : Int) := by omega
        have tm : ((m : Int)).tmod 128 = ((m % 128 : Nat) : Int) := by rw [Int.tmod_eq_emod_of_nonneg (by omega)]; omega
        have td : ((m : Int)).tdiv 128 = ((m / 128 : Nat) : Int) := by rw [Int.tdiv_eq_ediv_of_nonneg (by omega)]; omega
        obtain ⟨r, hr⟩ : ∃ r, m % 128 = r := ⟨_, rfl⟩
        have hr128 : r < 128 := hr ▸ Nat.mod_lt _ (by decide)
        rw [hr] at tm
        have w1 : IntKind.u8.wrap (r : Int) = (r : Int) := by rw [IntKind.wrap_u8]; omega
        have w2' : IntKind.u8.wrap ((r : Int) + 128) = (r : Int) + 128 := by rw [IntKind.wrap_u8]; omega
        have ha : Below wo.heap.size wo (wo.alloc (.cells #[.int .u8 ((r : Int) + 128)] 5)) := (Below.refl _ _).alloc (Nat.le_refl _) _
        obtain ⟨v2, w2, hrun, ho2, hg, hw⟩ := append_run (ho.below ha) (Bs_new (w := wo) ((r : Int) + 128)) (by simp; omega) (Nat.le_trans hl.size ha.size)
        have hl2 := hl.trans (grew_below hl.size (fun b hb => (ho.lt b hb).1) hg)
        have hz2 : (zs ++ [(r : Int) + 128]) ++ enc (m / 128) = all := by rw [List.append_assoc, ← hz, enc_high hlt, hr]; rfl
        have H := Lib.hid (show _ ∧ _ ∧ _ from ⟨ho2, hl2, hz2⟩)
        clear ha ho2 hg hw hl2 hz2 hz ho hl hzl hr
        go_wp2_with (at_builtin; refine wpList_app rfl rfl rfl rfl hrun ?_)
        go_roundg (m / 128)
        case measure => omega
        case rel => exact ⟨zs ++ [(r : Int) + 128], by go_num, by omega, H.out.1, H.out.2.2, H.out.2.1⟩
end Go.Proofs.Ytpdenhmkpiafiaa
namespace Go.Proofs.Ytpdenhmkpiafiaa
open Go Go.RowKit K6
def Src (w : World) (g : Nat) (v : Value) (e : Int) (m : Bool) : Prop := Row w g 72 #[v, .int .i64 e, .bool m]
def NewSrc (w : World) (xs : List Int) (e : Ending) (w' : World) : Prop := ∃ g v, e = .returned (.pointer (some ⟨g, 0, none⟩)) ∧ w.heap.size ≤ g ∧ Src w' g v 0 true ∧ Ob w' w.heap.size v xs ∧ (∀ b, v.ownBlock = some b → b ≠ g) ∧ Below w.heap.size w w'
def Bad (w : World) (p : Value) : Prop := p = .pointer none ∨ ∃ g, p = .pointer (some ⟨g, 0, none⟩) ∧ Src w g (.slice none 0 0) 0 false
theorem Bad.below {w w' : World} {p : Value} (h : Bad w p) (hb : Below w.heap.size w w') : Bad w' p := by
  rcases h with h | ⟨g, h, hs⟩
  · exact .inl h
  · exact .inr ⟨g, h, Row.below hs hb (Row.lt hs)⟩
end Go.Proofs.Ytpdenhmkpiafiaa
namespace Go.Proofs.Ytpdenhmkpiafiaa
open Go Go.RowKit K6
def SA (w : World) (lo hi g : Nat) (e : Int) (xs : List Int) : Prop :=
  lo ≤ g ∧ g < hi ∧ (e ≠ 0 → xs = []) ∧ (∀ x ∈ xs, 0 ≤ x ∧ x < 256) ∧ xs.length ≤ 100000000 ∧
  ∃ v, Src w g v e true ∧ ((v = .slice none 0 0 ∧ xs = []) ∨ ∃ b o c, lo ≤ b ∧ b < hi ∧ b ≠ g ∧ v = .slice (some ⟨b, o, none⟩) xs.length c ∧ xs.length ≤ c ∧ ∀ j x, xs[j]? = some x → w.cell? ⟨b, o + j, none⟩ = some (.int .u8 x))
theorem SA.lt {w : World} {lo hi g : Nat} {e : Int} {xs : List Int} (h : SA w lo hi g e xs) : g < w.heap.size := by
  obtain ⟨-, -, -, -, -, v, hs, -⟩ := h
  exact Row.lt hs
theorem SA.keep {X : Nat → Prop} {w w' : World} {lo hi g : Nat} {e : Int} {xs : List Int} (h : SA w lo hi g e xs) (hT : Tr X w w') (hX : ∀ b, lo ≤ b → b < hi → ¬ X b) : SA w' lo hi g e xs := by
  obtain ⟨h1, hh, h2, h3, h4, v, hs, hv⟩ := h
  refine ⟨h1, hh, h2, h3, h4, v, Row.tr hs hT (hX g h1 hh), ?_⟩
  rcases hv with hv | ⟨b, o, c, hb, hbh, hbg, rfl, hc, hcell⟩
  · exact .inl hv
  · refine .inr ⟨b, o, c, hb, hbh, hbg, rfl, hc, fun j x hj => ?_⟩
    have h5 := hcell j x hj
    rw [← h5]
    exact World.cell?_of_block (hT.block b (cell_lt h5) (hX b hb hbh))
theorem SA.below {w w' : World} {lo hi g : Nat} {e : Int} {xs : List Int} (h : SA w lo hi g e xs) (hb : Below w.heap.size w w') : SA w' lo hi g e xs := h.keep (X := None_) (Tr.of hb) fun _ _ _ => id
theorem NewSrc.sa {w w' : World} {xs : List Int} {r : Ending} (h : NewSrc w xs r w') (hx : ∀ x ∈ xs, 0 ≤ x ∧ x < 256) (hL : xs.length ≤ 100000000) : ∃ g, r = .returned (.pointer (some ⟨g, 0, none⟩)) ∧ SA w' w.heap.size w'.heap.size g 0 xs ∧ Below w.heap.size w w' := by
  obtain ⟨g, v, rfl, hg, hs, ho, hne, hb⟩ := h
  refine ⟨g, rfl, ⟨hg, Row.lt hs, (fun h => absurd rfl h), hx, hL, v, hs, ?_⟩, hb⟩
  rcases id ho.2 with ⟨rfl, h0⟩ | ⟨b, cap, cur, rfl, h1, h2, h3, -⟩
  · exact .inl ⟨rfl, List.eq_nil_of_length_eq_zero h0⟩
  · refine .inr ⟨b, 0, cap, h1, (ho.lt b rfl).2, hne b rfl, rfl, h3, fun j x hj => ?_⟩
    rw [← add_at]
    exact World.ownsRow.cells ho (g := b) rfl j _ (by unfold bv; rw [List.getElem?_map, hj]; rfl)
theorem SA.len {w : World} {lo hi g : Nat} {e : Int} {xs : List Int} (h : SA w lo hi g e xs) : ∃ q c, w.cell? ⟨g, 0, none⟩ = some (.slice q xs.length c) ∨ e ≠ 0 := by
  obtain ⟨-, -, h2, -, -, v, hs, hv⟩ := h
  rcases hv with ⟨rfl, rfl⟩ | ⟨b, o, c, -, -, -, rfl, -⟩
  · exact ⟨none, 0, .inl (hs.cell 0)⟩
  · exact ⟨_, _, .inl (hs.cell 0)⟩
end Go.Proofs.Ytpdenhmkpiafiaa
namespace Go.Proofs.Ytpdenhmkpiafiaa.K6
open Go Go.RowKit
def C7 (sh : List Sh) : Prop := ∀ s ∈ sh, ∀ t ∈ sh, s.i ≠ t.i → t.i ∈ s.kill ∨ t.i ∈ s.D ∨ ∀ k ∈ s.Li, k ∉ t.Xi
instance (sh : List Sh) : Decidable (C7 sh) := by unfold C7; infer_instance
def Cl7 (md : Region.Mode) (ops : Array Oper) (sh : List Sh) : Prop := C1 md ops sh ∧ C2 sh ∧ C3 md ops sh ∧ C4 sh ∧ C5 sh ∧ C7 sh
instance (md : Region.Mode) (ops : Array Oper) (sh : List Sh) : Decidable (Cl7 md ops sh) := by unfold Cl7; infer_instance
section
variable {P : Program} {ops : Array Oper} {md : Region.Mode} {sh : List Sh} {M : Nat → Mean} {Z : Nat → Prop} {w1 : World}
theorem Inv.quiet7 {listed : Array Bool} {g : Ghost} {w : World} (S : St sh M Z w1) (hC : Cl7 md ops sh) (I : Inv ops md sh M w1 listed g w) {i : Nat} {o : Oper} (ho : ops[i]? = some o) (hun : listed.getD i false = false)
    (hall : ∀ e ∈ o.after, Region.binds md e = true → listed.getD e.on false = true) (hi : spOf sh i = none) (x : GV) : Inv ops md sh M w1 (listed.setIfInBounds i true) (gput g i x) w := by
  have hne : ∀ k, (spOf sh k).isSome = true → k ≠ i := fun k hk e => by subst e; rw [hi] at hk; cases hk
  have hsi : ∀ s ∈ sh, s.i ≠ i := fun s hs e => by
    have : spOf sh i ≠ none := by
      unfold spOf
      intro h
      have := List.find?_eq_none.1 h s hs
      simp [e] at this
    exact this hi
  refine ⟨I.tr.mono fun b _ ⟨s, hs, hl, hx⟩ => ⟨s, hs, getD_set_true hl, hx⟩, shut_set ho I.shut hall, ⟨fun k hk hs => ?_, fun j k hj hk hsj hsk hjk => ?_⟩, fun s hs hl hk => ?_⟩
  · rw [gput_ne (hne k hs)]
    exact I.ok.1 k ((getD_set_other (hne k hs)).symm.trans hk) hs
  · rw [gput_ne (hne k hsk), gput_ne (hne j hsj)]
    exact I.ok.2 j k ((getD_set_other (hne j hsj)).symm.trans hj) ((getD_set_other (hne k hsk)).symm.trans hk) hsj hsk hjk
  · rw [getD_set_other (hsi s hs)] at hl
    refine S.depF s hs g _ (fun x hx => gput_ne ?_) w (I.fact s hs hl fun j hj => ?_)
    · rcases hx with rfl | hx
      · exact hsi s hs
      · rintro rfl
        have := listed_pre I.shut hl (hC.1 s hs x hx).2
        rw [hun] at this
        cases this
    · have := hk j hj
      by_cases hji : j = i
      · subst hji; exact hun
      · rwa [getD_set_other hji] at this
theorem Inv.step7 {listed : Array Bool} {g : Ghost} {w w' : World} (S : St sh M Z w1) (hC : Cl7 md ops sh) (I : Inv ops md sh M w1 listed g w) {o : Oper} {s : Sh} {i : Nat} (hs : spOf sh i = some s) (ho : ops[i]? = some o) (hun : listed.getD i true = false)
    (hall : ∀ e ∈ o.after, Region.binds md e = true → listed.getD e.on false = true) (v : Value) (hL : Left M s g w v w') : Inv ops md sh M w1 (listed.setIfInBounds i true) (gput g i ⟨v, w.heap.size, w'.heap.size⟩) w' := by
  obtain ⟨hmem, rfl⟩ := spOf_spec hs
  obtain ⟨hV, hT, hF⟩ := hL
  have hun' := getD_of_true hun
  have hlt := size_of_getD hun
  have hB : w1.heap.size ≤ w.heap.size := I.tr.size
  have hXi : ∀ k ∈ s.Xi, listed.getD k false = true ∧ (spOf sh k).isSome = true := fun k hk => by
    obtain ⟨hd, hso⟩ := hC.2.2.2.1 s hmem k hk
    obtain ⟨hne, hp⟩ := hC.1 s hmem k hd
    exact ⟨(ready_pre I.shut ho hall hp).resolve_right hne, hso⟩
  refine ⟨⟨hT.os.trans I.tr.os, hT.tape.trans I.tr.tape, hT.output.trans I.tr.output, Nat.le_trans hB hT.size, fun b hb hx => ?_⟩, shut_set ho I.shut hall, ⟨fun k hk hsk => ?_, fun j k hj hk hsj hsk hjk => ?_⟩, fun t ht hl hk => ?_⟩
  · rw [hT.block b (Nat.lt_of_lt_of_le hb hB) ?_, I.tr.block b hb fun ⟨t, ht, hl, hxt⟩ => hx ⟨t, ht, getD_set_true hl, hxt⟩]
    rintro (hx' | ⟨k, hk, h1, h2⟩)
    · exact hx ⟨s, hmem, getD_set_self hlt, hx'⟩
    · have := (I.ok.1 k (hXi k hk).1 (hXi k hk).2).1
      omega
  · by_cases hki : k = s.i
    · subst hki; simp only [gput, if_true]; exact ⟨hB, hT.size, Nat.le_refl _⟩
    · rw [gput_ne hki]
      have := I.ok.1 k ((getD_set_other hki).symm.trans hk) hsk
      exact ⟨this.1, this.2.1, Nat.le_trans this.2.2 hT.size⟩
  · by_cases hji : j = s.i
    · by_cases hki : k = s.i
      · exact absurd (hji.trans hki.symm) hjk
      · rw [gput_ne hki, hji]
        have := I.ok.1 k ((getD_set_other hki).symm.trans hk) hsk
        simp only [gput, if_true]
        omega
    · rw [gput_ne hji]
      have hj := (getD_set_other hji).symm.trans hj
      by_cases hki : k = s.i
      · rw [hki]
        have := I.ok.1 j hj hsj
        simp only [gput, if_true]
        omega
      · rw [gput_ne hki]
        exact I.ok.2 j k hj ((getD_set_other hki).symm.trans hk) hsj hsk hjk
  · by_cases hti : t.i = s.i
    · rw [hti]; exact hF
    · rw [getD_set_other hti] at hl
      have hkill : s.i ∉ t.kill := fun hm => by
        have := hk _ hm
        rw [getD_set_self hlt] at this
        cases this
      have hD : ∀ x, x = t.i ∨ x ∈ t.D → x ≠ s.i := fun x hx => by
        rcases hx with rfl | hx
        · exact hti
        · rintro rfl
          have := listed_pre I.shut hl (hC.1 t ht _ hx).2
          rw [hun'] at this
          cases this
      have hF0 := I.fact t ht hl fun j hj => by
        have := hk j hj
        by_cases hji : j = s.i
        · subst hji; exact hun'
        · rwa [getD_set_other hji] at this
      refine S.depF t ht g _ (fun x hx => gput_ne (hD x hx)) w' (S.loc t ht g w w' hF0 (hT.mono fun b hb hX hLb => ?_))
      have hsep := (S.sep t ht s hmem hti).resolve_left hkill
      rcases hX with hx | ⟨k, hkx, h1, h2⟩
      · rcases hLb with hany | hLo | ⟨k, hk, h1, h2⟩
        · exact (hsep.2 hany).1 b hx
        · exact hsep.1 b hLo hx
        · have hlt := (S.xo s hmem b hx).2.2
          obtain ⟨hkD, hks⟩ := hC.2.2.2.2.1 t ht k hk
          have hkl : listed.getD k false = true := by
            rcases hkD with rfl | hkD
            · exact hl
            · exact listed_pre I.shut hl (hC.1 t ht _ hkD).2
          have := (I.ok.1 k hkl hks).1
          omega
      · obtain ⟨hxl, hxs⟩ := hXi k hkx
        rcases hLb with hany | hLo | ⟨m, hm, h3, h4⟩
        · rw [(hsep.2 hany).2] at hkx; cases hkx
        · have hlt := S.lo t ht b hLo
          have := (I.ok.1 k hxl hxs).1
          omega
        · obtain ⟨hmD, hms⟩ := hC.2.2.2.2.1 t ht m hm
          have hml : listed.getD m false = true := by
            rcases hmD with rfl | hmD
            · exact hl
            · exact listed_pre I.shut hl (hC.1 t ht _ hmD).2
          have hne : m ≠ k := fun e => by
            subst e
            rcases hC.2.2.2.2.2 t ht s hmem hti with h9 | h9 | h9
            · exact hkill h9
            · exact hD _ (.inr h9) rfl
            · exact h9 m hm hkx
          have := I.ok.2 m k hml hxl hms hxs hne
          omega
theorem wp_of_outS7 (S : St sh M Z w1) (hC : Cl7 md ops sh) {listed : Array Bool} {g : Ghost} {w : World} (I : Inv ops md sh M w1 listed g w) {o : Oper} {s : Sh} {i : Nat} (hs : spOf sh i = some s) (ho : ops[i]? = some o) (hun : listed.getD i true = false)
    (hall : ∀ e ∈ o.after, Region.binds md e = true → listed.getD e.on false = true) {a : Act} {K' : Act → World → Prop} {Q' : Exit → Act → World → Prop} (hout : outS P ops md sh M Z w1 o s g a)
    (h : ∀ v w', Left M s g w v w' → K' (a.put o.dst v) w') : o.wp P a w K' Q' := by
  obtain ⟨hmem, rfl⟩ := spOf_spec hs
  have hun' := getD_of_true hun
  have hDl : ∀ k ∈ s.D, listed.getD k false = true := fun k hk => by
    obtain ⟨hne, hp⟩ := hC.1 s hmem k hk
    exact (ready_pre I.shut ho hall hp).resolve_right hne
  have hh := hout.2 w (I.kn S hun') ⟨fun k hk hsk => I.ok.1 k (hDl k hk) hsk, fun j k hj hk hsj hsk hjk => I.ok.2 j k (hDl j hj) (hDl k hk) hsj hsk hjk⟩ fun k hk => by
    obtain ⟨hkD, hks, hku⟩ := hC.2.2.1 s hmem k hk
    obtain ⟨t, ht⟩ := Option.isSome_iff_exists.1 hks
    obtain ⟨htm, rfl⟩ := spOf_spec ht
    refine I.fact t htm (hDl _ hkD) fun j hj => ?_
    rcases hku t htm rfl j hj with rfl | hp
    · exact hun'
    · by_cases hjl : listed.getD j false = true
      · have := listed_pre I.shut hjl hp
        rw [hun'] at this
        cases this
      · simpa using hjl
  unfold Oper.wp
  generalize (execOp a.eval o).run P w = r at *
  cases r with
  | ok n w' =>
    cases n <;> simp only [sUpon] at hh <;> simp only [Oper.upon]
    case enter f args =>
      refine hh.mono fun e w'' hx => ?_
      obtain ⟨v, rfl, hv⟩ := hx
      exact h v w'' hv
    all_goals exact h _ _ hh
  | halt x w' => simp only [sUpon] at hh
theorem wpAny_of_S7 (S : St sh M Z w1) (hC : Cl7 md ops sh) {Q : Ghost → Act → Prop} {Q' : Exit → Act → World → Prop}
    (hQ : ∀ g a, Q g a → ∀ w listed, Inv ops md sh M w1 listed g w → (∀ j, j < ops.size → listed.getD j false = true) → Q' .normal a w) : ∀ (fuel : Nat) (listed : Array Bool) (g : Ghost) (a : Act),
    wpAnyS P ops md sh M Z w1 Q fuel listed g a → ∀ w, Inv ops md sh M w1 listed g w → listed.size = ops.size → wpAny P md ops Q' fuel listed a w
  | 0, listed, g, a, h => fun w hI hz => ⟨h.1, hQ _ _ h.2.2 w listed hI fun j hj => (by have := h.2.1 j hj; simpa [hz, hj] using this)⟩
  | fuel + 1, listed, g, a, h => fun w hI hz => by
    refine ⟨fun h0 => absurd h0 h.1, fun i hi => ?_⟩
    have hs := h.2 i hi
    obtain ⟨hun, o', ho', hall⟩ := mem_ready.1 hi
    unfold sOp at hs
    unfold wpOp
    split
    · rename_i ho; simp only [ho] at hs
    · rename_i o ho
      simp only [ho] at hs
      have hoo : o' = o := by rw [ho'] at ho; exact Option.some.inj ho
      subst hoo
      cases hsp : spOf sh i with
      | some s =>
        simp only [hsp] at hs
        rw [if_pos hs.1.1]
        refine .inl (wp_of_outS7 S hC hI hsp ho' hun hall hs.1 fun v w' hL => ?_)
        have hst := hI.step7 S hC hsp ho' hun hall v hL
        have hi' := (spOf_spec hsp).2
        exact wpAny_of_S7 S hC hQ fuel _ _ _ (hs.2 ⟨v, w.heap.size, w'.heap.size⟩ hI.tr.size hL.2.1.size (by rw [← hi']; exact hL.1)) w' hst (by simpa using hz)
      | none =>
        simp only [hsp] at hs
        obtain ⟨v, hy, hK⟩ := hs
        have hq := hI.quiet7 S hC ho' (getD_of_true hun) hall hsp ⟨v, 0, 0⟩
        rcases hy with ⟨hw, hr⟩ | ⟨hw, rfl⟩
        · rw [if_pos hw]
          refine .inl ?_
          unfold Oper.wp
          rw [hr w (hI.kn S (getD_of_true hun))]
          exact wpAny_of_S7 S hC hQ fuel _ _ _ hK w hq (by simpa using hz)
        · rw [if_neg (by simp [hw])]
          exact wpAny_of_S7 S hC hQ fuel _ _ _ hK w hq (by simpa using hz)
theorem outS_gput7 (S : St sh M Z w1) (hC : Cl7 md ops sh) {s : Sh} (hs : s ∈ sh) {o : Oper} {a : Act} {g : Ghost} {i : Nat} (x : GV) (h : i ∉ s.D) :
    outS P ops md sh M Z w1 o s (gput g i x) a ↔ outS P ops md sh M Z w1 o s g a := by
  have hn : ∀ k ∈ s.D, gput g i x k = g k := fun k hk => gput_ne (fun e : k = i => h (by rw [← e]; exact hk))
  have hX : XX M s (gput g i x) = XX M s g := XX_congr fun k hk => hn k (hC.2.2.2.1 s hs k hk).1
  have hF : ∀ y w, (M s.i).F (gput (gput g i x) s.i y) w ↔ (M s.i).F (gput g s.i y) w := fun y w => by
    have hx : ∀ k, k = s.i ∨ k ∈ s.D → gput (gput g i x) s.i y k = gput g s.i y k := fun k hk => by
      by_cases hks : k = s.i
      · subst hks; simp [gput]
      · rw [gput_ne hks, gput_ne hks]
        exact hn k (hk.resolve_left hks)
    exact ⟨S.depF s hs _ _ (fun k hk => (hx k hk).symm) w, S.depF s hs _ _ hx w⟩
  have hL : ∀ w, Left M s (gput g i x) w = Left M s g w := fun w => by
    funext v w'
    unfold Left
    rw [hX]
    apply propext
    exact and_congr (V_gput S hs x h _) (and_congr Iff.rfl (hF _ _))
  have hU : ∀ k ∈ s.use, ∀ w, (M k).F (gput g i x) w ↔ (M k).F g w := fun k hk w => by
    obtain ⟨hkD, hks, _⟩ := hC.2.2.1 s hs k hk
    obtain ⟨t, ht⟩ := Option.isSome_iff_exists.1 hks
    obtain ⟨htm, rfl⟩ := spOf_spec ht
    have hx : ∀ m, m = t.i ∨ m ∈ t.D → gput g i x m = g m := fun m hm => by
      rcases hm with rfl | hm
      · exact hn _ hkD
      · exact hn _ (hC.2.1 s hs t htm hkD m hm)
    exact ⟨S.depF t htm _ _ (fun m hm => (hx m hm).symm) w, S.depF t htm _ _ hx w⟩
  unfold outS
  refine and_congr Iff.rfl (forall_congr' fun w => forall_congr' fun _ => ?_)
  rw [hL w]
  constructor
  · intro hh hg hf
    exact hh (GOk.congr (fun k hk => hn k hk) hg) fun k hk => (hU k hk w).2 (hf k hk)
  · intro hh hg hf
    exact hh (GOk.congr (fun k hk => (hn k hk).symm) hg) fun k hk => (hU k hk w).1 (hf k hk)
theorem Yields_keep7 (S : St sh M Z w1) (hC : Cl7 md ops sh) {i j : Nat} {oi oj : Oper} (hDi : ∀ s ∈ sh, s.i = i → j ∉ s.D) (hsi : ∀ cs b, oi.op ≠ .select cs b) (h3 : ∀ d, oj.dst = some d → d ∉ oi.looksAt ops)
    {g : Ghost} {a : Act} {x : GV} (y : GV) (hy : Yields P ops md sh M Z w1 oi i g a x) : Yields P ops md sh M Z w1 oi i (gput g j y) (a.put oj.dst y.v) x := by
  unfold Yields at *
  split
  · rename_i s hs
    simp only [hs] at hy
    obtain ⟨hm, rfl⟩ := spOf_spec hs
    exact ⟨(outS_put hsi h3).2 ((outS_gput7 S hC hm y (hDi s hm rfl)).2 hy.1), hy.2.1, hy.2.2.1, (V_gput S hm y (hDi s hm rfl) x).2 hy.2.2.2⟩
  · rename_i hs
    simp only [hs] at hy
    exact ⟨(YK_put hsi h3).2 hy.1, hy.2⟩
theorem wpAnyS_first7 (S : St sh M Z w1) (hC : Cl7 md ops sh) {Q : Ghost → Act → Prop} {i : Nat} {oi : Oper} (hi : ops[i]? = some oi) (hsel : ∀ (j : Nat) (o : Oper) cs b, ops[j]? = some o → o.op ≠ .select cs b) :
    ∀ (fuel : Nat) (listed : Array Bool) (g : Ghost) (a : Act), (∀ k, listed.getD k false = true → ∀ m, edgeB md ops k m = true → listed.getD m false = true) →
      (∀ j oj, ops[j]? = some oj → j ≠ i → listed.getD j true = false → (∀ e ∈ oj.after, Region.binds md e = true → e.on ≠ i) → oi.apart ops oj = true) →
      i ∈ Region.ready md ops listed → AllY P ops md sh M Z w1 oi i g a (fun x => wpAnyS P ops md sh M Z w1 Q fuel (listed.setIfInBounds i true) (gput g i x) (a.put oi.dst x.v)) → wpAnyS P ops md sh M Z w1 Q (fuel + 1) listed g a := by
  have hnotOf : ∀ (listed : Array Bool) (i j : Nat) (oj : Oper), listed.getD i true = false → (∀ e ∈ oj.after, Region.binds md e = true → listed.getD e.on false = true) → ∀ e ∈ oj.after, Region.binds md e = true → e.on ≠ i := by
    intro listed i j oj h0 hall e he hb heq
    have h1 := hall e he hb
    rw [heq] at h1
    rcases Nat.lt_or_ge i listed.size with h' | h'
    · simp [h'] at h0 h1; rw [h0] at h1; cases h1
    · simp [Array.getElem?_eq_none h'] at h1
  intro fuel
  induction fuel with
  | zero =>
    intro listed g a hsh _ hr H
    refine ⟨fun h => (by rw [h] at hr; cases hr), fun j hj => ?_⟩
    by_cases hji : j = i
    · subst hji
      exact (sOp_iff S hi).2 H
    · exfalso
      obtain ⟨x0, hx0⟩ := H.1
      have := ready_mono hj hji
      rw [(H.2 x0 hx0).1] at this
      cases this
  | succ fuel ih =>
    intro listed g a hsh hfree hr H
    refine ⟨fun h => (by rw [h] at hr; cases hr), fun j hj => ?_⟩
    by_cases hji : j = i
    · subst hji
      exact (sOp_iff S hi).2 H
    · obtain ⟨x0, hx0⟩ := H.1
      have h1 := fun x hx => (H.2 x hx).2 j (ready_mono hj hji)
      obtain ⟨hjun, oj, hoj, hall⟩ := mem_ready.1 hj
      obtain ⟨hiun, oi', hoi', halli⟩ := mem_ready.1 hr
      have hoo : oi' = oi := by rw [hoi'] at hi; exact Option.some.inj hi
      subst hoo
      have hnot := hnotOf listed i j oj hiun hall
      have hnot' := hnotOf listed j i oi' hjun halli
      have hap := hfree j oj hoj hji hjun hnot
      obtain ⟨hp1, hp2, hp3⟩ := Oper.apart_spec hap
      have hDj : ∀ s ∈ sh, s.i = j → i ∉ s.D := fun s hs e hm => by
        obtain ⟨hne, hp⟩ := hC.1 s hs i hm
        rw [e] at hp
        rcases ready_pre hsh hoj hall hp with h' | h'
        · rw [getD_of_true hiun] at h'; cases h'
        · exact hji h'.symm
      have hDi : ∀ s ∈ sh, s.i = i → j ∉ s.D := fun s hs e hm => by
        obtain ⟨hne, hp⟩ := hC.1 s hs j hm
        rw [e] at hp
        rcases ready_pre hsh hoi' halli hp with h' | h'
        · rw [getD_of_true hjun] at h'; cases h'
        · exact hji h'
      have hselj := fun cs b => hsel j oj cs b hoj
      have hseli := fun cs b => hsel i oi' cs b hoi'
      have back : ∀ x y, Yields P ops md sh M Z w1 oj j g a y → Yields P ops md sh M Z w1 oj j (gput g i x) (a.put oi'.dst x.v) y := fun x y hy =>
        Yields_keep7 S hC hDj hselj hp1 x hy
      have forth : ∀ x y, Yields P ops md sh M Z w1 oj j (gput g i x) (a.put oi'.dst x.v) y → Yields P ops md sh M Z w1 oj j g a y := fun x y hy => by
        unfold Yields at *
        split
        · rename_i s hs
          simp only [hs] at hy
          obtain ⟨hm, e⟩ := spOf_spec hs
          subst e
          exact ⟨(outS_gput7 S hC hm x (hDj s hm rfl)).1 ((outS_put hselj hp1).1 hy.1), hy.2.1, hy.2.2.1, (V_gput S hm x (hDj s hm rfl) y).1 hy.2.2.2⟩
        · rename_i hs
          simp only [hs] at hy
          exact ⟨(YK_put hselj hp1).1 hy.1, hy.2⟩
      refine (sOp_iff S hoj).2 ⟨?_, fun y hy => ?_⟩
      · obtain ⟨⟨y, hy⟩, _⟩ := (sOp_iff S hoj).1 (h1 x0 hx0)
        exact ⟨y, forth x0 y hy⟩
      · have hfree' : ∀ k ok, ops[k]? = some ok → k ≠ i → (listed.setIfInBounds j true).getD k true = false →
            (∀ e ∈ ok.after, Region.binds md e = true → e.on ≠ i) → oi'.apart ops ok = true := fun k ok hk hki hun hno => by
          refine hfree k ok hk hki ?_ hno
          by_cases hjk : j = k
          · subst hjk; exact hjun
          · rw [getD_set_ne true hjk] at hun; exact hun
        refine ih (listed.setIfInBounds j true) _ _ (shut_set hoj hsh hall) hfree' (ready_mono hr (Ne.symm hji)) ⟨?_, fun x hx => ?_⟩
        · exact ⟨x0, Yields_keep7 S hC hDi hseli hp3 y hx0⟩
        · have hx' : Yields P ops md sh M Z w1 oi' i g a x := by
            unfold Yields at *
            split
            · rename_i s hs
              simp only [hs] at hx
              obtain ⟨hm, e⟩ := spOf_spec hs
              subst e
              exact ⟨(outS_gput7 S hC hm y (hDi s hm rfl)).1 ((outS_put hseli hp3).1 hx.1), hx.2.1, hx.2.2.1, (V_gput S hm y (hDi s hm rfl) x).1 hx.2.2.2⟩
            · rename_i hs
              simp only [hs] at hx
              exact ⟨(YK_put hseli hp3).1 hx.1, hx.2⟩
          have := ((sOp_iff S hoj).1 (h1 x hx')).2 y (back x y hy)
          show wpAnyS P ops md sh M Z w1 Q fuel _ _ _
          rw [Array.setIfInBounds_comm _ _ hji, ← gput_comm g y x (Ne.symm hji), ← Act.put_comm a x.v y.v hp2]
          exact this
def lex67 (md : Region.Mode) (ops : Array Oper) (sh : List Sh) : Bool := Region.noSelect ops && lexFrom6 md ops ops.size 0 (Array.replicate ops.size false) && decide (Cl7 md ops sh)
theorem wpAnyS_lex7 (S : St sh M Z w1) (hC : Cl7 md ops sh) {Q : Ghost → Act → Prop} (hs : Region.noSelect ops = true) : ∀ (l : List Oper) (k : Nat) (listed : Array Bool) (g : Ghost) (a : Act), (∀ j, l[j]? = ops[k + j]?) →
    (∀ k, listed.getD k false = true → ∀ m, edgeB md ops k m = true → listed.getD m false = true) →
    lexFrom6 md ops l.length k listed = true → wpS P ops md sh M Z w1 Q k l g a → wpAnyS P ops md sh M Z w1 Q l.length listed g a
  | [], _, _, _, _, _, _, hB, h => by
    simp only [List.length_nil, lexFrom6, Bool.and_eq_true] at hB
    exact ⟨by simpa using hB.1, fun j hj => List.all_eq_true.1 hB.2 j (List.mem_range.2 hj), h⟩
  | o :: l, k, listed, g, a, hl, hsh, hB, h => by
    have h0 : ops[k]? = some o := by simpa using (hl 0).symm
    simp only [List.length_cons, lexFrom6, Bool.and_eq_true] at hB
    obtain ⟨⟨hr, hf⟩, hB'⟩ := hB
    have hr' : k ∈ Region.ready md ops listed := by simpa using hr
    obtain ⟨hun, o', ho', hall⟩ := mem_ready.1 hr'
    have hoo : o' = o := by rw [ho'] at h0; exact Option.some.inj h0
    subst hoo
    have hop : sOp P ops md sh M Z w1 k (fun g a => wpS P ops md sh M Z w1 Q (k + 1) l g a) g a := by
      unfold sOp
      simp only [h0]
      exact h
    obtain ⟨h1, h2⟩ := (sOp_iff S h0).1 hop
    refine wpAnyS_first7 S hC h0 (Region.noSelect_spec hs) l.length listed g a hsh (Region.free_spec h0 hf) hr' ⟨h1, fun x hx => ?_⟩
    exact wpAnyS_lex7 S hC hs l (k + 1) _ _ _ (fun j => by have := hl (j + 1); simpa [Nat.add_assoc, Nat.add_comm 1 j] using this) (shut_set h0 hsh hall) hB' (h2 x hx)
theorem wpAny_six7 {Q : Exit → Act → World → Prop} {a : Act} {l : List Oper} (hB : lex67 .any l.toArray sh = true) (S : St sh M Z w1)
    (h : ∀ QQ : Ghost → Act → Prop, (∀ g a', After sh M Z w1 l.length (fun a w => Q .normal a w) g a' → QQ g a') → wpS P l.toArray .any sh M Z w1 QQ 0 l (fun _ => ⟨undef, 0, 0⟩) a) :
    wpAny P .any l.toArray Q l.toArray.size (Array.replicate l.toArray.size false) a w1 := by
  simp only [lex67, Bool.and_eq_true, decide_eq_true_eq] at hB
  have hno : ∀ k, (Array.replicate l.toArray.size false).getD k false = true → False := fun k hk => by
    rw [Array.getD_eq_getD_getElem?, Array.getElem?_replicate] at hk
    split at hk <;> cases hk
  have h1 := wpAnyS_lex7 (md := .any) S hB.2 hB.1.1 l 0 (Array.replicate l.toArray.size false) (fun _ => ⟨undef, 0, 0⟩) a (by simp) (fun k hk => (hno k hk).elim) (by simpa using hB.1.2) (h _ fun _ _ h => h)
  have := wpAny_of_S7 S hB.2 (Q' := Q) (fun g a h w listed I hall => h w (I.tr.mono fun b _ ⟨s, hs, _, hx⟩ => (S.xo s hs b hx).2.1)
    ⟨fun k hk hsk => I.ok.1 k (hall k (by simpa using hk)) hsk, fun j k hj hk hsj hsk hjk => I.ok.2 j k (hall j (by simpa using hj)) (hall k (by simpa using hk)) hsj hsk hjk⟩
    fun i s hs hk hlt => (spOf_spec hs).2 ▸ I.fact s (spOf_spec hs).1 (by rw [(spOf_spec hs).2]; exact hall _ (by simpa using hlt)) fun j hj => by rw [hk] at hj; cases hj) _ _ _ _ h1 w1
    ⟨Tr.refl _ _, fun k hk => (hno k hk).elim, ⟨fun k hk => (hno k hk).elim, fun j k hj => (hno j hj).elim⟩, fun s _ hl => (hno _ hl).elim⟩ (by simp)
  simpa using this
theorem wp_region_six7 {id : Nat} {Q : Exit → Act → World → Prop} {a : Act} {w : World} {l : List Oper} (sh : List Sh) (M : Nat → Mean) (Z : Nat → Prop) (hm : P.follows .mixedOrders = true) (hB : lex67 .any l.toArray sh = true)
    (S : St sh M Z w.drew)
    (h : ∀ QQ : Ghost → Act → Prop, (∀ g a', After sh M Z w.drew l.length (fun a w => Q .normal a w) g a' → QQ g a') → wpS P l.toArray .any sh M Z w.drew QQ 0 l (fun _ => ⟨undef, 0, 0⟩) a) : (Code.region id l.toArray true).wp P Q a w :=
  wp_region_any hm (wpAny_six7 hB S h)
end
end Go.Proofs.Ytpdenhmkpiafiaa.K6
namespace Go.Proofs.Ytpdenhmkpiafiaa
open Go Go.RowKit K6
def BL32 (a : Nat) : List Int := (List.range 32).map fun j => ((byN a (31 - j) : Nat) : Int)
theorem BL32_len (a : Nat) : (BL32 a).length = 32 := by unfold BL32; rw [List.length_map, List.length_range]
def nby (a : Nat) : Nat := (blen a + 7) / 8
theorem nby_le {a : Nat} (ha : a < M) : nby a ≤ 32 := by
  have h : blen a ≤ 256 := blen_le ha
  unfold nby
  omega
def amtL (a : Nat) : List Int := ((nby a : Nat) : Int) :: (BL32 a).drop (32 - nby a)
def S32 (x : GV) : Prop := ∃ g, x.v = .slice (some ⟨g, 0, none⟩) 32 32
theorem s32_some {w : World} : ∃ x : GV, w.heap.size ≤ x.lo ∧ x.lo ≤ x.hi ∧ S32 x := ⟨⟨.slice (some ⟨0, 0, none⟩) 32 32, w.heap.size, w.heap.size⟩, Nat.le_refl _, Nat.le_refl _, 0, rfl⟩
theorem bs82 {a : Nat} (ha : a < M) (w : World) : Calls Try.prog 82 #[.agg (W4 a)] w fun e w' => ∃ g, e = .returned (.slice (some ⟨g, 0, none⟩) 32 32) ∧ Bs w' (.slice (some ⟨g, 0, none⟩) 32 32) (BL32 a) ∧ Below w.heap.size w w' := by
  refine (bytesU ha w).mono ?_
  rintro e w' ⟨g, rfl, hg, hr, hb⟩
  refine ⟨g, rfl, ⟨some ⟨g, 0, none⟩, 32, by rw [BL32_len], (fun h => (by cases h)), fun p hp j u hj => ?_⟩, hb⟩
  cases hp
  rw [add_at]
  unfold bv BL32 at hj
  rw [List.map_map, List.getElem?_map] at hj
  rcases Nat.lt_or_ge j 32 with h | h
  · rw [List.getElem?_range h] at hj
    cases hj
    rw [Nat.zero_add, hr.at_ j h]
    unfold bytesTo
    rw [if_pos h]
    rfl
  · rw [List.getElem?_eq_none (by rw [List.length_range]; exact h)] at hj
    cases hj
theorem Bs_drop {w : World} {g j : Nat} {ys : List Int} (h : Bs w (.slice (some ⟨g, 0, none⟩) 32 32) ys) (_hj : j < 32) : Bs w (.slice (some ⟨g, j, none⟩) (32 - j) (32 - j)) (ys.drop j) := by
  obtain ⟨q, c, e, h0, h1⟩ := h
  obtain ⟨e1, e2⟩ : q = some ⟨g, 0, none⟩ ∧ ys.length = 32 := by injection e with e1 e2 e3; exact ⟨e1.symm, e2.symm⟩
  refine ⟨some ⟨g, j, none⟩, 32 - j, by rw [List.length_drop, e2], (fun h => (by cases h)), fun p hp i u hi => ?_⟩
  cases hp
  rw [add_off, ← Nat.zero_add (j + i), ← add_off]
  refine h1 _ e1 (j + i) u ?_
  rw [← hi]
  unfold bv
  rw [List.getElem?_map, List.getElem?_map, List.getElem?_drop]
theorem Bs_row1 {w : World} {b : Nat} {x : Int} (h : Row w b 5 #[.int .u8 x]) : Bs w (.slice (some ⟨b, 0, none⟩) 1 1) [x] := by
  refine ⟨_, _, rfl, (fun h => (by cases h)), fun a ha j u hj => ?_⟩
  cases ha
  match j, hj with
  | 0, hj =>
    cases hj
    rw [add_at]
    exact h.cell 0
set_option maxRecDepth 100000 in
set_option maxHeartbeats 8000000 in
theorem amt_any (u : Value) (xs : List Int) (a : Nat) (w : World) (h : Bs w u xs) (hL0 : xs.length ≤ 10000000) (ha : a < M) :
    Calls Try.prog 40 #[u, .agg (W4 a)] w fun e w' => ∃ v, e = .returned v ∧ Ob w' w.heap.size v (xs ++ amtL a) ∧ Below w.heap.size w w' := by
  have hL := Lib.hid (show xs.length ≤ 100000000 by omega)
  have hk32 := nby_le ha
  have hl256 : blen a ≤ 256 := blen_le ha
  have hYl := BL32_len a
  have hkd : nby a = (blen a + 7) / 8 := rfl
  have hfin0 : ∀ tl : List Int, tl = (BL32 a).drop (32 - nby a) → (xs ++ [((nby a : Nat) : Int)]) ++ tl = xs ++ amtL a := fun tl e => by
    subst e
    unfold amtL
    rw [List.append_assoc]; rfl
  have kb := fun wx => bitsU ha wx
  have k82 := Lib.hid fun wx => bs82 ha wx
  obtain ⟨k, hk⟩ : ∃ k, nby a = k := ⟨_, rfl⟩
  rw [hk] at hk32 hkd hfin0
  obtain ⟨l, hl0⟩ : ∃ l, blen a = l := ⟨_, rfl⟩
  rw [hl0] at kb hl256 hkd
  replace kb := Lib.hid kb
  have hfin1 := Lib.hid hfin0
  clear hfin0 hk hl0
  have w7 : IntKind.i64.wrap ((l : Int) + 7) = (l : Int) + 7 := by rw [IntKind.wrap_i64]; omega
  have t7 : ((l : Int) + 7).tdiv 8 = ((l : Int) + 7) / 8 := Int.tdiv_eq_ediv_of_nonneg (by omega)
  have t8 : IntKind.i64.wrap (((l : Int) + 7) / 8) = (k : Int) := by rw [IntKind.wrap_i64]; omega
  clear hkd
  have hb0 := h
  clear h hL0 ha
  go_enter Try.func40, Try.ntmps40
  apply wp_seq_eq
  focus
    intro J hJ
    go_wp2_with fail
    exact hJ
  refine wp_abs (Mem w [(w.heap.size, 31, W4 a)]) ⟨by go_grown, ?_, trivial⟩ ?_
  · repeat (first | (refine Row.new_at ?_; simp; done) | refine Row.alloc ?_ _)
  intro w0 hM
  obtain ⟨hl, ra, -⟩ := hM
  go_upto_region 1 with (fail)
  have hb := hb0.below hl
  clear hb0
  let L : List Sp := [sV 1 [] [] (fun u => u = .int .i64 (l : Int))]
  refine wp_region_six0 (shs L) (look6 L) (None_) (by kernel_rfl) (by kernel_rfl) (mk_St L [] [] (by kernel_rfl) (by kernel_rfl) ⟨ok_V ⟨_, rfl⟩, trivial⟩ (by simp)) ?_
  intro QQ hQ
  refine stepK rfl (by kernel_rfl) (fun K hK => ?_); go_simp
  apply Exists.intro; apply And.intro; (focus exact kLoad rfl rfl aggT31 ra rfl id); refine hK _ _ ?_; clear hK K
  refine stepS _ rfl (by kernel_rfl) (fun K hK => ?_); go_simp
  refine ⟨?_, ?_⟩
  · intro wk hk hg hu; go_simp; refine upon_enter ((kb.out _).mono ?_); rintro e w' ⟨rfl, hb⟩; exact ⟨_, rfl, left_V (p := fun u => u = .int .i64 (l : Int)) rfl (hb) rfl⟩
  rintro ⟨v1, lo1, hi1⟩ - - (rfl : v1 = _)
  refine hK _ _ ?_; clear hK K
  refine stepK rfl (by kernel_rfl) (fun K hK => ?_); go_simp
  apply Exists.intro; apply And.intro; (focus (intro wk hk; go_simp; exact ⟨rfl, rfl⟩)); refine hK _ _ ?_; clear hK K
  refine stepK rfl (by kernel_rfl) (fun K hK => ?_); go_simp
  apply Exists.intro; apply And.intro; (focus (intro wk hk; go_simp; exact ⟨rfl, rfl⟩)); refine hK _ _ ?_; clear hK K
  refine stepK rfl (by kernel_rfl) (fun K hK => ?_); go_simp
  apply Exists.intro; apply And.intro; (focus (intro wk hk; go_simp; exact ⟨rfl, rfl⟩)); refine hK _ _ ?_; clear hK K
  refine stepN ?_
  refine hQ _ _ ?_
  intro w1 hT hG hF
  have hbw1 := hT.below
  replace ra := ra.below hbw1 ra.lt
  replace hl := hl.trans (hbw1.mono hl.size)
  replace hb := hb.below hbw1
  clear hT hG hF hbw1 hQ QQ L kb
  go_upto_region 2 with (fail)
  let L : List Sp := [sF 1 [] [] [] (fun x => S32 x) (fun x w => Bs w x.v (BL32 a))]
  refine wp_region_six0 (shs L) (look6 L) (None_) (by kernel_rfl) (by kernel_rfl) (mk_St L [] [] (by kernel_rfl) (by kernel_rfl) ⟨ok_F s32_some (fun _ _ _ h hb => Bs.below h hb), trivial⟩ (by simp)) ?_
  intro QQ hQ
  refine stepK rfl (by kernel_rfl) (fun K hK => ?_); go_simp
  apply Exists.intro; apply And.intro; (focus exact kLoad rfl rfl aggT31 ra rfl id); refine hK _ _ ?_; clear hK K
  refine stepS _ rfl (by kernel_rfl) (fun K hK => ?_); go_simp
  refine ⟨?_, ?_⟩
  · intro wk hk hg hu; go_simp; refine upon_enter ((k82.out _).mono ?_); rintro e w' ⟨g, rfl, hv, hb9⟩; exact ⟨_, rfl, left_F rfl rfl hb9 ⟨_, rfl⟩ hv⟩
  rintro ⟨v1, lo1, hi1⟩ - - ⟨g1, (rfl : v1 = _)⟩
  refine hK _ _ ?_; clear hK K
  refine stepK rfl (by kernel_rfl) (fun K hK => ?_); go_simp
  apply Exists.intro; apply And.intro; (focus (intro wk hk; go_simp; exact ⟨rfl, rfl⟩)); refine hK _ _ ?_; clear hK K
  refine stepN ?_
  refine hQ _ _ ?_
  intro w2 hT hG hF
  have hb2 := hT.below
  have hY0 : Bs w2 (.slice (some ⟨g1, 0, none⟩) 32 32) (BL32 a) := hF 1 _ rfl rfl (by decide)
  replace hb := hb.below hb2
  replace hl := hl.trans (hb2.mono hl.size)
  clear hT hG hF hb2 hQ QQ L ra k82 w7 t7 t8
  obtain ⟨j, hj⟩ : ∃ j, 32 - k = j := ⟨_, rfl⟩
  have ej : (32 : Int) - (k : Int) = (j : Int) := by omega
  have wk8 : IntKind.u8.wrap (k : Int) = (k : Int) := by rw [IntKind.wrap_u8]; omega
  by_cases hj32 : j = 32
  · have hfin2 := Lib.hid (hfin1.out [] (by rw [hj, hj32, List.drop_eq_nil_of_le (by omega)]))
    have hY := Lib.hid (show ([] : List Int).length ≤ 32 by decide)
    obtain rfl : k = 0 := by omega
    obtain ⟨z5, hz5e⟩ : ∃ z, xs ++ [((0 : Nat) : Int)] = z := ⟨_, rfl⟩
    have hz5l := Lib.hid (show z5.length ≤ 100000001 by rw [← hz5e]; have := hL.out; simp; omega)
    have hz5 := Lib.hid hz5e
    obtain ⟨z12, hz12e⟩ : ∃ z, z5 ++ ([] : List Int) = z := ⟨_, rfl⟩
    have hfin := Lib.hid (show z12 = xs ++ amtL a by rw [← hz12e, ← hz5e]; exact hfin2.out)
    have hz12 := Lib.hid hz12e
    clear hz5e hz12e hfin2
    subst hj32
    clear hj hYl hfin1
    go_upto_region 3 with (fail)
    let L : List Sp := [sQ 1 [] [] [] [5, 12] w2.heap.size xs (fun _ => True), sL 4 5 [] 1 #[.int .u8 ((0 : Nat) : Int)], sQ 5 [1] [1, 4] [1, 4] [12] w2.heap.size z5 (fun _ => True), sQ 12 [5, 1] [5, 1, 4] [5] [] w2.heap.size z12 (fun _ => True)]
    refine wp_region_six7 (shs L) (look6 L) (None_) (by kernel_rfl) (by kernel_rfl) (mk_St L [] [] (by kernel_rfl) (by kernel_rfl) ⟨ok_Q ⟨undef, trivial⟩ (by simp), ok_L, ok_Q ⟨undef, trivial⟩ (by simp), ok_Q ⟨undef, trivial⟩ (by simp), trivial⟩ (by simp)) ?_
    intro QQ hQ
    refine stepK rfl (by kernel_rfl) (fun K hK => ?_); go_simp
    apply Exists.intro; apply And.intro; (focus (intro wk hk; go_simp; exact ⟨rfl, rfl⟩)); refine hK _ _ ?_; clear hK K
    refine stepS _ rfl (by kernel_rfl) (fun K hK => ?_); go_simp
    refine ⟨?_, ?_⟩
    · intro wk hk hg hu; have hb9 := hb.below hk.undrew.below; go_simp; refine upon_enter ((clone_any u xs wk hb9 hL.out).mono ?_); rintro e w' ⟨v, rfl, ho, hbb⟩; exact ⟨_, rfl, left_Qc rfl rfl ho hbb hk.undrew.size trivial⟩
    rintro ⟨v1, lo1, hi1⟩ - - -
    refine hK _ _ ?_; clear hK K
    refine stepK rfl (by kernel_rfl) (fun K hK => ?_); go_simp
    apply Exists.intro; apply And.intro; (focus (intro wk hk; go_simp; exact ⟨rfl, rfl⟩)); refine hK _ _ ?_; clear hK K
    refine stepK rfl (by kernel_rfl) (fun K hK => ?_); go_simp
    apply Exists.intro; apply And.intro; (focus (intro wk hk; go_simp; exact ⟨rfl, rfl⟩)); refine hK _ _ ?_; clear hK K
    refine stepS _ rfl (by kernel_rfl) (fun K hK => ?_); go_simp
    refine ⟨?_, ?_⟩
    · intro wk hk hg hu; go_simp; exact left_L rfl rfl
    rintro ⟨v4, lo4, hi4⟩ hlo4 hhi4 ⟨e4, f4⟩
    replace e4 : v4 = .slice (some ⟨lo4, 0, none⟩) 1 1 := e4; replace f4 : hi4 = lo4 + 1 := f4; replace hlo4 : _ ≤ lo4 := hlo4; subst e4; subst f4
    refine hK _ _ ?_; clear hK K
    refine stepS _ rfl (by kernel_rfl) (fun K hK => ?_); go_simp
    refine ⟨?_, ?_⟩
    · intro wk hk hg hu; have u1 : OwnF 1 [] w2.heap.size xs _ wk := hu 1 (show 1 ∈ [1, 4] by decide); have u4 := hu 4 (show 4 ∈ [1, 4] by decide); have r4 : Row wk lo4 5 #[.int .u8 ((0 : Nat) : Int)] := And.right (a := lo4 + 1 = lo4 + 1) u4; have o1 : Ob wk w2.heap.size v1 xs := u1.1; obtain ⟨v', w', hrun, ho2, hgb, hw⟩ := append_run o1 (Bs_row1 r4) (by have := hL.out; simp; omega) hk.undrew.size; rw [run_append_op rfl rfl rfl hrun]; exact left_Qa rfl rfl (by decide) u1.2 hgb (by rw [← hz5.out]; exact ho2) hw trivial
    rintro ⟨v5, lo5, hi5⟩ - - -
    refine hK _ _ ?_; clear hK K
    refine stepK rfl (by kernel_rfl) (fun K hK => ?_); go_simp
    apply Exists.intro; apply And.intro; (focus (intro wk hk; go_simp; exact ⟨rfl, rfl⟩)); refine hK _ _ ?_; clear hK K
    refine stepK rfl (by kernel_rfl) (fun K hK => ?_); go_simp
    apply Exists.intro; apply And.intro; (focus (intro wk hk; go_simp; exact ⟨rfl, rfl⟩)); refine hK _ _ ?_; clear hK K
    refine stepK rfl (by kernel_rfl) (fun K hK => ?_); go_simp
    apply Exists.intro; apply And.intro; (focus (intro wk hk; go_simp; exact ⟨rfl, rfl⟩)); refine hK _ _ ?_; clear hK K
    refine stepK rfl (by kernel_rfl) (fun K hK => ?_); go_simp
    apply Exists.intro; apply And.intro; (focus (intro wk hk; go_simp; exact ⟨rfl, rfl⟩)); refine hK _ _ ?_; clear hK K
    refine stepK rfl (by kernel_rfl) (fun K hK => ?_); go_simp
    apply Exists.intro; apply And.intro; (focus (intro wk hk; go_simp; exact ⟨rfl, rfl⟩)); refine hK _ _ ?_; clear hK K
    refine stepK rfl (by kernel_rfl) (fun K hK => ?_); go_simp
    apply Exists.intro; apply And.intro; (focus (intro wk hk; go_simp; exact ⟨rfl, rfl⟩)); refine hK _ _ ?_; clear hK K
    refine stepS _ rfl (by kernel_rfl) (fun K hK => ?_); go_simp
    refine ⟨?_, ?_⟩
    · intro wk hk hg hu; have u5 : OwnF 5 [1] w2.heap.size z5 _ wk := hu 5 (show 5 ∈ [5] by decide); have o5 : Ob wk w2.heap.size v5 z5 := u5.1; have s9 : Bs wk (.slice (some ⟨g1, 0, none⟩) 0 0) (([] : List Int)) := ⟨_, _, rfl, (fun h => (by cases h)), fun p hp i u hi => by simp [bv] at hi⟩; obtain ⟨v', w', hrun, ho2, hgb, hw⟩ := append_run o5 s9 (by have := hz5l.out; have := hY.out; omega) hk.undrew.size; rw [run_append_op rfl rfl rfl hrun]; exact left_Qa rfl rfl (by decide) u5.2 hgb (by rw [← hz12.out]; exact ho2) hw trivial
    rintro ⟨v12, lo12, hi12⟩ - - -
    refine hK _ _ ?_; clear hK K
    refine stepK rfl (by kernel_rfl) (fun K hK => ?_); go_simp
    apply Exists.intro; apply And.intro; (focus (intro wk hk; go_simp; exact ⟨rfl, rfl⟩)); refine hK _ _ ?_; clear hK K
    refine stepN ?_
    refine hQ _ _ ?_
    intro w3 hT hG hF
    have hb3 := hT.undrew.below
    have o12 : OwnF 12 [5, 1] w2.heap.size z12 _ w3 := hF 12 _ rfl rfl (by decide)
    have H := Lib.hid (show _ ∧ _ from ⟨(show Ob w3 w2.heap.size v12 z12 from o12.1).base hl.size, hl.trans (hb3.mono hl.size)⟩)
    clear hT hG hF hb3 hQ QQ L o12 hl hb hY
    go_wp2_with fail
    go_ret
    exact ⟨_, rfl, by rw [← hfin.out]; exact H.out.1, H.out.2⟩
  · have hfin2 := Lib.hid (hfin1.out ((BL32 a).drop j) (by rw [hj]))
    obtain ⟨z5, hz5e⟩ : ∃ z, xs ++ [(k : Int)] = z := ⟨_, rfl⟩
    have hz5l := Lib.hid (show z5.length ≤ 100000001 by rw [← hz5e]; have := hL.out; simp; omega)
    have hz5 := Lib.hid hz5e
    obtain ⟨z12, hz12e⟩ : ∃ z, z5 ++ ((BL32 a).drop j) = z := ⟨_, rfl⟩
    have hfin := Lib.hid (show z12 = xs ++ amtL a by rw [← hz12e, ← hz5e]; exact hfin2.out)
    have hz12 := Lib.hid hz12e
    clear hz5e hz12e hfin2
    have wj : IntKind.i64.wrap (j : Int) = (j : Int) := by rw [IntKind.wrap_i64]; omega
    have hY := Lib.hid (show ((BL32 a).drop j).length ≤ 32 by rw [List.length_drop]; omega)
    have hj33 : j < 32 := by omega
    have hj34 : ¬ 32 = j := by omega
    have hj35 : (j : Int) ≤ 32 := by omega
    clear hYl hfin1 hj
    go_upto_region 3 with (fail)
    let L : List Sp := [sQ 1 [] [] [] [5, 12] w2.heap.size xs (fun _ => True), sL 4 5 [] 1 #[.int .u8 (k : Int)], sQ 5 [1] [1, 4] [1, 4] [12] w2.heap.size z5 (fun _ => True), sQ 12 [5, 1] [5, 1, 4] [5] [] w2.heap.size z12 (fun _ => True)]
    refine wp_region_six7 (shs L) (look6 L) (None_) (by kernel_rfl) (by kernel_rfl) (mk_St L [] [] (by kernel_rfl) (by kernel_rfl) ⟨ok_Q ⟨undef, trivial⟩ (by simp), ok_L, ok_Q ⟨undef, trivial⟩ (by simp), ok_Q ⟨undef, trivial⟩ (by simp), trivial⟩ (by simp)) ?_
    intro QQ hQ
    refine stepK rfl (by kernel_rfl) (fun K hK => ?_); go_simp
    apply Exists.intro; apply And.intro; (focus (intro wk hk; go_simp; exact ⟨rfl, rfl⟩)); refine hK _ _ ?_; clear hK K
    refine stepS _ rfl (by kernel_rfl) (fun K hK => ?_); go_simp
    refine ⟨?_, ?_⟩
    · intro wk hk hg hu; have hb9 := hb.below hk.undrew.below; go_simp; refine upon_enter ((clone_any u xs wk hb9 hL.out).mono ?_); rintro e w' ⟨v, rfl, ho, hbb⟩; exact ⟨_, rfl, left_Qc rfl rfl ho hbb hk.undrew.size trivial⟩
    rintro ⟨v1, lo1, hi1⟩ - - -
    refine hK _ _ ?_; clear hK K
    refine stepK rfl (by kernel_rfl) (fun K hK => ?_); go_simp
    apply Exists.intro; apply And.intro; (focus (intro wk hk; go_simp; exact ⟨rfl, rfl⟩)); refine hK _ _ ?_; clear hK K
    refine stepK rfl (by kernel_rfl) (fun K hK => ?_); go_simp
    apply Exists.intro; apply And.intro; (focus (intro wk hk; go_simp; exact ⟨rfl, rfl⟩)); refine hK _ _ ?_; clear hK K
    refine stepS _ rfl (by kernel_rfl) (fun K hK => ?_); go_simp
    refine ⟨?_, ?_⟩
    · intro wk hk hg hu; go_simp; exact left_L rfl rfl
    rintro ⟨v4, lo4, hi4⟩ hlo4 hhi4 ⟨e4, f4⟩
    replace e4 : v4 = .slice (some ⟨lo4, 0, none⟩) 1 1 := e4; replace f4 : hi4 = lo4 + 1 := f4; replace hlo4 : _ ≤ lo4 := hlo4; subst e4; subst f4
    refine hK _ _ ?_; clear hK K
    refine stepS _ rfl (by kernel_rfl) (fun K hK => ?_); go_simp
    refine ⟨?_, ?_⟩
    · intro wk hk hg hu; have u1 : OwnF 1 [] w2.heap.size xs _ wk := hu 1 (show 1 ∈ [1, 4] by decide); have u4 := hu 4 (show 4 ∈ [1, 4] by decide); have r4 : Row wk lo4 5 #[.int .u8 (k : Int)] := And.right (a := lo4 + 1 = lo4 + 1) u4; have o1 : Ob wk w2.heap.size v1 xs := u1.1; obtain ⟨v', w', hrun, ho2, hgb, hw⟩ := append_run o1 (Bs_row1 r4) (by have := hL.out; simp; omega) hk.undrew.size; rw [run_append_op rfl rfl rfl hrun]; exact left_Qa rfl rfl (by decide) u1.2 hgb (by rw [← hz5.out]; exact ho2) hw trivial
    rintro ⟨v5, lo5, hi5⟩ - - -
    refine hK _ _ ?_; clear hK K
    refine stepK rfl (by kernel_rfl) (fun K hK => ?_); go_simp
    apply Exists.intro; apply And.intro; (focus (intro wk hk; go_simp; exact ⟨rfl, rfl⟩)); refine hK _ _ ?_; clear hK K
    refine stepK rfl (by kernel_rfl) (fun K hK => ?_); go_simp
    apply Exists.intro; apply And.intro; (focus (intro wk hk; go_simp; exact ⟨rfl, rfl⟩)); refine hK _ _ ?_; clear hK K
    refine stepK rfl (by kernel_rfl) (fun K hK => ?_); go_simp
    apply Exists.intro; apply And.intro; (focus (intro wk hk; go_simp; exact ⟨rfl, rfl⟩)); refine hK _ _ ?_; clear hK K
    refine stepK rfl (by kernel_rfl) (fun K hK => ?_); go_simp
    apply Exists.intro; apply And.intro; (focus (intro wk hk; go_simp; exact ⟨rfl, rfl⟩)); refine hK _ _ ?_; clear hK K
    refine stepK rfl (by kernel_rfl) (fun K hK => ?_); go_simp
    apply Exists.intro; apply And.intro; (focus (intro wk hk; go_simp; exact ⟨rfl, rfl⟩)); refine hK _ _ ?_; clear hK K
    refine stepK rfl (by kernel_rfl) (fun K hK => ?_); go_simp
    apply Exists.intro; apply And.intro; (focus (intro wk hk; go_simp; exact ⟨rfl, rfl⟩)); refine hK _ _ ?_; clear hK K
    refine stepS _ rfl (by kernel_rfl) (fun K hK => ?_); go_simp
    refine ⟨?_, ?_⟩
    · intro wk hk hg hu; have u5 : OwnF 5 [1] w2.heap.size z5 _ wk := hu 5 (show 5 ∈ [5] by decide); have o5 : Ob wk w2.heap.size v5 z5 := u5.1; have s9 : Bs wk (.slice (some ⟨g1, j, none⟩) (32 - j) (32 - j)) (((BL32 a).drop j)) := Bs_drop (hY0.below hk.undrew.below) hj33; obtain ⟨v', w', hrun, ho2, hgb, hw⟩ := append_run o5 s9 (by have := hz5l.out; have := hY.out; omega) hk.undrew.size; rw [run_append_op rfl rfl rfl hrun]; exact left_Qa rfl rfl (by decide) u5.2 hgb (by rw [← hz12.out]; exact ho2) hw trivial
    rintro ⟨v12, lo12, hi12⟩ - - -
    refine hK _ _ ?_; clear hK K
    refine stepK rfl (by kernel_rfl) (fun K hK => ?_); go_simp
    apply Exists.intro; apply And.intro; (focus (intro wk hk; go_simp; exact ⟨rfl, rfl⟩)); refine hK _ _ ?_; clear hK K
    refine stepN ?_
    refine hQ _ _ ?_
    intro w3 hT hG hF
    have hb3 := hT.undrew.below
    have o12 : OwnF 12 [5, 1] w2.heap.size z12 _ w3 := hF 12 _ rfl rfl (by decide)
    have H := Lib.hid (show _ ∧ _ from ⟨(show Ob w3 w2.heap.size v12 z12 from o12.1).base hl.size, hl.trans (hb3.mono hl.size)⟩)
    clear hT hG hF hb3 hQ QQ L o12 hl hb hY
    go_wp2_with fail
    go_ret
    exact ⟨_, rfl, by rw [← hfin.out]; exact H.out.1, H.out.2⟩
end Go.Proofs.Ytpdenhmkpiafiaa
namespace Go.Proofs.Ytpdenhmkpiafiaa
open Go Go.RowKit K6
def zr32 : Array Value := arr .u8 (fun _ => 0) 32
theorem aggR35 : AggT Try.prog 35 32 := ⟨⟨_, Try.underlying35, rfl⟩, by kernel_rfl⟩
namespace K6
end K6
end Go.Proofs.Ytpdenhmkpiafiaa
