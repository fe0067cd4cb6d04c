/-
 What the statement rests on, part 2: GD GE FrameS OctVar OctSrc OctTake OctGrp OctK7 RefOf.
-/
import Derived.Maps.AppendAt
import Derived.Laws.BytesArg
import Derived.Deep.DeepCutAuto
import Derived.Test.YtpdenhmkpiafiaaRows
import Derived.ProofKit
import Derived.Lib.SmallJoins
import Derived.Laws.IdiomArrays
import Derived.OpenShut
import Derived.ChangeSlices
import Derived.Laws.BitsAllLaws
import Derived.Test.YtpdenhmkpiafiaaQTR0

namespace Go.Proofs.Ytpdenhmkpiafiaa.Ref
abbrev B : Nat := 2 ^ 32
def val : List Nat → Nat
 | [] => 0
 | d :: r => d + B * val r
def Dig (xs : List Nat) : Prop := ∀ x ∈ xs, x < B
def digs (n : Nat) : List Nat :=
 if _h : n = 0 then [] else n % B :: digs (n / B)
termination_by n
decreasing_by exact Nat.div_lt_self (Nat.pos_of_ne_zero _h) (by decide)
theorem digs_zero : digs 0 = [] := by unfold digs; simp
theorem digs_pos {n : Nat} (h : n ≠ 0) : digs n = n % B :: digs (n / B) := by
 rw [digs]; simp [h]
theorem dig_digs (n : Nat) : Dig (digs n) := by
 induction n using Nat.strongRecOn with
 | _ n ih =>
  by_cases h : n = 0
  ·subst h; rw [digs_zero]; intro x hx; cases hx
  ·rw [digs_pos h]
   intro x hx
   cases hx with
   | head => exact Nat.mod_lt _ (by decide)
   | tail _ hx => exact ih (n / B) (Nat.div_lt_self (Nat.pos_of_ne_zero h) (by decide)) x hx
theorem val_digs (n : Nat) : val (digs n) = n := by
 induction n using Nat.strongRecOn with
 | _ n ih =>
  by_cases h : n = 0
  ·subst h; rw [digs_zero]; rfl
  ·rw [digs_pos h, val, ih (n / B) (Nat.div_lt_self (Nat.pos_of_ne_zero h) (by decide))]
   exact Nat.mod_add_div n B
theorem val_append (xs ys : List Nat) : val (xs ++ ys) = val xs + B ^ xs.length * val ys := by
 induction xs with
 | nil => simp [val]
 | cons d r ih =>
  rw [List.cons_append, val, val, ih, List.length_cons, Nat.pow_succ, Nat.mul_add, ← Nat.add_assoc,
   Nat.mul_comm (B ^ r.length) B, Nat.mul_assoc]
theorem val_lt {xs : List Nat} (h : Dig xs) : val xs < B ^ xs.length := by
 induction xs with
 | nil => exact Nat.one_pos
 | cons d r ih =>
  have hd : d < B := h d (List.mem_cons_self ..)
  have hr := ih (fun x hx => h x (List.mem_cons_of_mem _ hx))
  rw [val, List.length_cons, Nat.pow_succ, Nat.mul_comm (B ^ r.length) B]
  have : B * (val r + 1) ≤ B * B ^ r.length := Nat.mul_le_mul_left B hr
  rw [Nat.mul_add] at this
  omega
theorem digs_val {xs : List Nat} (h : Dig xs)
  (hl : ∀ y, xs.getLast? = some y → y ≠ 0) : xs = digs (val xs) := by
 induction xs with
 | nil => rw [val, digs_zero]
 | cons d r ih =>
  have hd : d < B := h d (List.mem_cons_self ..)
  have hr := ih (fun x hx => h x (List.mem_cons_of_mem _ hx)) (by
   intro y hy
   apply hl y
   cases r with
   | nil => simp at hy
   | cons e q => rw [List.getLast?_cons_cons]; exact hy)
  have hq : (d + B * val r) / B = val r := by
   rw [Nat.add_mul_div_left _ _ (by decide : 0 < B), Nat.div_eq_of_lt hd, Nat.zero_add]
  have hm : (d + B * val r) % B = d := by
   rw [Nat.add_mul_mod_self_left, Nat.mod_eq_of_lt hd]
  have hn : d + B * val r ≠ 0 := by
   intro h0
   have hd0 : d = 0 := by omega
   cases r with
   | nil => exact hl d (by simp) hd0
   | cons e q =>
    have hv : val (e :: q) = 0 := by
     have : B * val (e :: q) = 0 := by omega
     rcases Nat.mul_eq_zero.mp this with h1 | h1
     ·exact absurd h1 (by decide)
     ·exact h1
    rw [hv, digs_zero] at hr
    cases hr
  rw [val, digs_pos hn, hm, hq, ← hr]
theorem take_val {xs : List Nat} {n : Nat} (h0 : xs[n]? = some 0) :
  val (xs.take (n + 1)) = val (xs.take n) := by
 rw [List.take_add_one, h0, val_append]
 simp [val]
theorem trim_end {xs : List Nat} {n : Nat} (hD : Dig xs) (hn : n ≤ xs.length)
  (hv : val (xs.take n) = val xs) (hl : n = 0 ∨ xs[n - 1]? ≠ some 0) :
  xs.take n = digs (val xs) := by
 rw [← hv]
 apply digs_val (fun x hx => hD x (List.mem_of_mem_take hx))
 intro y hy h0
 subst h0
 rcases hl with h | h
 ·subst h; simp at hy
 ·apply h
  rw [List.getLast?_eq_getElem?, List.length_take, Nat.min_eq_left hn, List.getElem?_take] at hy
  split at hy
  ·exact hy
  ·cases hy
theorem digs_len {n k : Nat} (h : n < B ^ k) : (digs n).length ≤ k := by
 induction k generalizing n with
 | zero =>
  have : n = 0 := by rw [Nat.pow_zero] at h; omega
  subst this; rw [digs_zero]; exact Nat.le_refl 0
 | succ k ih =>
  by_cases h0 : n = 0
  ·subst h0; rw [digs_zero]; exact Nat.zero_le _
  ·rw [digs_pos h0, List.length_cons]
   apply Nat.succ_le_succ
   apply ih
   rw [Nat.pow_succ, Nat.mul_comm] at h
   exact Nat.div_lt_of_lt_mul h
end Go.Proofs.Ytpdenhmkpiafiaa.Ref
namespace Go.Proofs.Ytpdenhmkpiafiaa
open Go Go.RowKit Ref
def dg (xs : List Nat) (i : Nat) : Nat := xs.getD i 0
theorem dg_some {xs : List Nat} {i : Nat} (h : i < xs.length) : xs[i]? = some (dg xs i) := by
 unfold dg
 rw [List.getD_eq_getElem?_getD, List.getElem?_eq_getElem h, Option.getD_some]
theorem dg_take {xs : List Nat} {n i : Nat} (h : i < n) : dg (xs.take n) i = dg xs i := by
 unfold dg
 rw [List.getD_eq_getElem?_getD, List.getD_eq_getElem?_getD, List.getElem?_take, if_pos h]
def Sl (w : World) (v : Value) (xs : List Nat) : Prop :=
 ∃ r c, v = .slice r xs.length c ∧ xs.length ≤ c ∧ (r = none → c = 0) ∧ ∀ a, r = some a → ∃ g o, a = ⟨g, o, none⟩ ∧ g < w.heap.size ∧ ∀ i, i < xs.length → w.cell? ⟨g, o + i, none⟩ = some (.int .u32 ((dg xs i : Nat) : Int))
theorem Sl.below {w w' : World} {v : Value} {xs : List Nat} (h : Sl w v xs) (hb : Below w.heap.size w w') : Sl w' v xs := by
 obtain ⟨r, c, e, hc, h0, h1⟩ := h
 refine ⟨r, c, e, hc, h0, fun a ha => ?_⟩
 obtain ⟨g, o, e, hg, hi⟩ := h1 a ha
 exact ⟨g, o, e, Nat.lt_of_lt_of_le hg hb.size, fun i h => ((bcell hb).1 g (o + i) hg).trans (hi i h)⟩
theorem Sl.cut {w : World} {r : Option Addr} {n c k : Nat} {xs : List Nat} (h : Sl w (.slice r n c) xs) (hk : k ≤ n) : Sl w (.slice r k c) (xs.take k) := by
 obtain ⟨r', c', e, hc, h0, h1⟩ := h
 cases e
 have hl : (xs.take k).length = k := by rw [List.length_take]; omega
 refine ⟨r, c, by rw [hl], by omega, h0, fun a ha => ?_⟩
 obtain ⟨g, o, e, hg, hi⟩ := h1 a ha
 refine ⟨g, o, e, hg, fun i hi' => ?_⟩
 rw [hl] at hi'
 rw [dg_take hi']
 exact hi i (by omega)
set_option maxRecDepth 100000 in
set_option maxHeartbeats 2000000 in
theorem trim_any (v : Value) (xs : List Nat) (w : World) (hD : Dig xs) (hs : Sl w v xs) (hL : xs.length < 1099511627776) :
  Calls Try.prog 197 #[v] w fun e w' => w' = w ∧ ∃ u, e = .returned u ∧ Sl w u (digs (val xs)) := by
 have hs' := hs
 obtain ⟨r, c, rfl, hc, hr0, hr⟩ := hs'
 obtain ⟨n, hn⟩ : ∃ n, xs.length = n := ⟨_, rfl⟩
 rw [hn] at hc hr hL hs ⊢
 have HS := Lib.hid hs
 clear hs
 go_enter Try.func197, Try.ntmps197
 go_wp2_with fail
 go_loopg [3] n (fun gg s3 wr => gg ≤ n ∧ s3 = .int .i64 (gg : Int) ∧ wr = w ∧ val (xs.take gg) = val xs)
 case atStart => exact ⟨Nat.le_refl _, rfl, rfl, by rw [← hn, List.take_length]⟩
 case round =>
  obtain ⟨hk, rfl, rfl, hv⟩ := hrel
  rcases Nat.eq_zero_or_pos gk with h0 | h0
  ·subst h0
   have HV := Lib.hid hv
   clear hv hr
   go_wp2_with fail
   go_ret
   refine ⟨rfl, _, rfl, ?_⟩
   rw [← trim_end hD (by omega) HV.out (Or.inl rfl)]
   exact HS.out.cut (Nat.zero_le _)
  ·obtain ⟨g, o, ha, hg, hcell⟩ : ∃ g o, r = some ⟨g, o, none⟩ ∧ g < wr.heap.size ∧ ∀ i, i < n → wr.cell? ⟨g, o + i, none⟩ = some (.int .u32 ((dg xs i : Nat) : Int)) := by
    cases r with
    | none => exfalso; have := hr0 rfl; omega
    | some a => obtain ⟨g, o, e, h⟩ := hr a rfl; exact ⟨g, o, by rw [e], h⟩
   subst ha
   obtain ⟨j, rfl⟩ : ∃ j, gk = j + 1 := ⟨gk - 1, by omega⟩
   have cj := hcell j (by omega)
   have e1 : ((j : Int) + 1) - 1 = (j : Int) := by omega
   clear hr hcell hr0
   have hds := dg_some (xs := xs) (i := j) (by omega)
   obtain ⟨y, hy⟩ : ∃ y, dg xs j = y := ⟨_, rfl⟩
   rw [hy] at cj hds
   have HV := Lib.hid hv
   clear hv hy
   by_cases hz : y = 0
   ·subst hz
    have HY := Lib.hid hds
    clear hds
    go_wp2_with fail
    go_roundg j
    case measure => omega
    case rel => exact ⟨by omega, rfl, rfl, by rw [← HV.out]; exact (take_val HY.out).symm⟩
   ·have hz' : ((y : Int) == 0) = false := by simp; omega
    have HZ := Lib.hid hz
    have HY := Lib.hid hds
    clear hds hz
    go_wp2_with fail
    go_ret
    refine ⟨rfl, _, rfl, ?_⟩
    rw [← trim_end hD (by omega) HV.out (Or.inr (by rw [show j + 1 - 1 = j by omega, HY.out]; intro h; exact HZ.out (Option.some.inj h)))]
    exact HS.out.cut hk
end Go.Proofs.Ytpdenhmkpiafiaa
namespace Go.Proofs.Ytpdenhmkpiafiaa
open Go Go.RowKit K6
theorem M_pos : 0 < M := by unfold M; omega
theorem any_some (w1 : World) : ∃ x : GV, w1.heap.size ≤ x.lo ∧ x.lo ≤ x.hi ∧ True := ⟨⟨undef, w1.heap.size, w1.heap.size⟩, Nat.le_refl _, Nat.le_refl _, trivial⟩
def aggOf (g : Ghost) (k : Nat) : Array Value := match (g k).v with | .agg cs => cs | _ => #[]
theorem aggOf_congr {k : Nat} (g g' : Ghost) (h : ∀ x ∈ [k], g' x = g x) : aggOf g' k = aggOf g k := by unfold aggOf; rw [h k (by simp)]
theorem Mem.of {w wc w' : World} {L : List (Nat × Nat × Array Value)} {X : Nat → Prop} (h : Mem w [] wc) (hT : Tr X wc w') (hx : ∀ c, X c → w.heap.size ≤ c) (hr : RowL L w') : Mem w L w' := ⟨h.1.trans (hT.below_of h.1.size hx), hr⟩
end Go.Proofs.Ytpdenhmkpiafiaa
namespace Go.Proofs.Ytpdenhmkpiafiaa.K6
open Go Go.RowKit
theorem own_tr {X : Nat → Prop} {w w' : World} {base e size n : Nat} {v : Value} {zs : List Value} (h : w.ownsRow base e size v n zs) (hT : Tr X w w') (hx : ∀ b, v.ownBlock = some b → ¬ X b) : w'.ownsRow base e size v n zs := by
 refine ⟨h.1, ?_⟩
 rcases h.2 with hn | ⟨g, cap, cur, rfl, hb, hgg, rest⟩
 ·exact .inl hn
 ·refine .inr ⟨g, cap, cur, rfl, hb, ?_, rest⟩
  rw [hT.block g (Array.getElem?_eq_some_iff.1 hgg).1 (hx g rfl)]
  exact hgg
def Grew (v : Value) (x : GV) : Prop := x.v.ownBlock = v.ownBlock ∨ (x.v.ownBlock = some x.lo ∧ x.lo < x.hi)
def sP (i : Nat) (D use : List Nat) (base e : Nat) (v : Value) (n : Nat) (zs : List Value) : Sp :=
 (⟨i, D, use, [], [], [i], false, true, true⟩, ⟨fun _ x => Grew v x, fun g w => Grew v (g i) ∧ w.ownsRow base e 1 (g i).v n zs, fun b => v.ownBlock = some b, fun b => v.ownBlock = some b⟩)
theorem ok_P {w1 : World} {Z : Nat → Prop} {i : Nat} {D use : List Nat} {base e : Nat} {v : Value} {n : Nat} {zs : List Value} (hv : ∀ b, v.ownBlock = some b → Z b ∧ b < w1.heap.size) : OpOk w1 Z (sP i D use base e v n zs) where
 some_ := fun _ => ⟨⟨v, w1.heap.size, w1.heap.size⟩, Nat.le_refl _, Nat.le_refl _, .inl rfl⟩
 depV := fun _ _ _ _ h => h
 depF := fun g g' hg w h => by
  show Grew v (g' i) ∧ w.ownsRow base e 1 (g' i).v n zs
  rw [hg i (.inl rfl)]; exact h
 loc := fun g w w' h hT => by
  refine ⟨h.1, own_tr h.2 hT fun b hb hn => hn ?_⟩
  rcases h.1 with h1 | ⟨h1, h2⟩
  ·rw [h1] at hb; exact .inr (.inl hb)
  ·rw [h1] at hb
   cases hb
   exact .inr (.inr ⟨i, by simp [sP], Nat.le_refl _, h2⟩)
 xo := fun b hb => ⟨rfl, hv b hb⟩
 lo := fun b hb => ⟨rfl, (hv b hb).2⟩
theorem left_P {l : List Sp} {i : Nat} {D use : List Nat} {base e : Nat} {v : Value} {n : Nat} {zs : List Value} {s : Sh} (hl : look6 l s.i = (sP i D use base e v n zs).2) (hs : s = (sP i D use base e v n zs).1) {g : Ghost} {w w' : World} {v' : Value}
  (hg : w.grownBy w' v.ownBlock) (ho : w'.ownsRow base e 1 v' n zs) (hw : v'.ownBlock = v.ownBlock ∨ v'.ownBlock = some w.heap.size) : Left (look6 l) s g w v' w' := by
 have hG : Grew v ⟨v', w.heap.size, w'.heap.size⟩ := by
  rcases hw with h | h
  ·exact .inl h
  ·exact .inr ⟨h, (ho.lt _ h).2⟩
 unfold Left
 rw [hl]
 subst hs
 refine ⟨hG, ⟨hg.os, hg.tape, hg.output, hg.size, fun b hb hx => hg.block b hb fun hn => hx (.inl (by rw [hl]; exact hn.symm))⟩, ?_⟩
 show Grew v (gput g i _ i) ∧ w'.ownsRow base e 1 (gput g i _ i).v n zs
 rw [gput_self]
 exact ⟨hG, ho⟩
theorem run_append_op {P : Program} {o : Oper} {a : Act} {x y : Operand} {t : TypeId} {v u v2 : Value} {w w2 : World} (ho : o.op = .call { callee := .builtin .append, args := #[x, y], argTypes := #[t, t] }) (hx : a.eval x = v) (hy : a.eval y = u)
  (hrun : (Builtin.append_ #[t, t] o.type #[v, u]).run P w = .ok v2 w2) : (execOp a.eval o).run P w = .ok (.value v2) w2 := by
 unfold execOp
 simp only [ho, resolve, invoke, builtin, Sem.run_bind, Sem.run_pure, Result.andThen_ok, List.map_toArray, List.map_cons, List.map_nil, hx, hy, hrun]
end Go.Proofs.Ytpdenhmkpiafiaa.K6
namespace Go.Proofs.Ytpdenhmkpiafiaa
open Go Go.RowKit K6
def bv (xs : List Int) : List Value := xs.map (Value.int .u8)
theorem bv_len (xs : List Int) : (bv xs).length = xs.length := List.length_map ..
theorem bv_app (xs ys : List Int) : bv (xs ++ ys) = bv xs ++ bv ys := List.map_append ..
def Ob (w : World) (base : Nat) (v : Value) (xs : List Int) : Prop := w.ownsRow base 5 1 v xs.length (bv xs)
def Bs (w : World) (u : Value) (xs : List Int) : Prop := ∃ q c, u = .slice q xs.length c ∧ (q = none → c = 0 ∧ xs = []) ∧ ∀ a, q = some a → ∀ j v, (bv xs)[j]? = some v → w.cell? (a.add j) = some v
theorem Ob.base {w : World} {b b' : Nat} {v : Value} {xs : List Int} (h : Ob w b v xs) (hb : b' ≤ b) : Ob w b' v xs := by
 refine ⟨h.1, ?_⟩
 rcases h.2 with h0 | ⟨g, cap, cur, rfl, h1, rest⟩
 ·exact .inl h0
 ·exact .inr ⟨g, cap, cur, rfl, Nat.le_trans hb h1, rest⟩
theorem Ob.nil (w : World) (b : Nat) : Ob w b (.slice none 0 0) [] := ⟨rfl, .inl ⟨rfl, rfl⟩⟩
theorem Bs.nil (w : World) : Bs w (.slice none 0 0) [] := ⟨none, 0, rfl, fun _ => ⟨rfl, rfl⟩, fun _ ha => (by cases ha)⟩
theorem add_at (g i : Nat) : (⟨g, 0, none⟩ : Addr).add i = ⟨g, 0 + i, none⟩ := by unfold Addr.add; split <;> simp_all
theorem add_off (g o i : Nat) : (⟨g, o, none⟩ : Addr).add i = ⟨g, o + i, none⟩ := by unfold Addr.add; split <;> simp_all
theorem Ob.bs {w : World} {b : Nat} {v : Value} {xs : List Int} (h : Ob w b v xs) : Bs w v xs := by
 rcases h.2 with ⟨rfl, h0⟩ | ⟨g, cap, cur, rfl, h1, hg, h2, h3, h4, h5⟩
 ·obtain rfl : xs = [] := List.eq_nil_of_length_eq_zero h0
  exact Bs.nil w
 ·refine ⟨some ⟨g, 0, none⟩, cap, rfl, (fun h => (by cases h)), fun a ha j u hj => ?_⟩
  cases ha
  exact World.ownsRow.cells h (g := g) rfl j u hj
theorem cell_lt {w : World} {a : Addr} {v : Value} (h : w.cell? a = some v) : a.block < w.heap.size := by
 unfold World.cell? at h
 split at h
 ·rename_i c e f hc
  exact (Array.getElem?_eq_some_iff.1 hc).1
 ·cases h
theorem add_block (a : Addr) (j : Nat) : (a.add j).block = a.block := by unfold Addr.add; split <;> rfl
theorem Bs.keep {X : Nat → Prop} {w w' : World} {u : Value} {xs : List Int} (h : Bs w u xs) (hT : Tr X w w') (hx : ∀ b, u.ownBlock = some b → ¬ X b) : Bs w' u xs := by
 obtain ⟨q, c, rfl, h0, h1⟩ := h
 refine ⟨q, c, rfl, h0, fun a ha j v hj => ?_⟩
 subst ha
 have h2 := h1 a rfl j v hj
 rw [← h2]
 refine World.cell?_of_block ?_
 rw [add_block]
 have h3 := cell_lt h2
 rw [add_block] at h3
 exact hT.block _ h3 (hx _ rfl)
theorem Bs.below {w w' : World} {u : Value} {xs : List Int} (h : Bs w u xs) (hb : Below w.heap.size w w') : Bs w' u xs := h.keep (X := None_) (Tr.of hb) (fun _ _ => id)
theorem Ob.keep {X : Nat → Prop} {w w' : World} {b : Nat} {v : Value} {xs : List Int} (h : Ob w b v xs) (hT : Tr X w w') (hx : ∀ b, v.ownBlock = some b → ¬ X b) : Ob w' b v xs := own_tr h hT hx
theorem Ob.below {w w' : World} {b : Nat} {v : Value} {xs : List Int} (h : Ob w b v xs) (hb : Below w.heap.size w w') : Ob w' b v xs := own_tr h (X := None_) (Tr.of hb) (fun _ _ => id)
theorem Bs.conv {w : World} {u : Value} {xs : List Int} (h : Bs w u xs) (h0 : xs ≠ []) : (convert 33 9 u).run Try.prog w = .ok (.string (strOfNums xs)) w := by
 obtain ⟨q, c, rfl, hn, h1⟩ := h
 cases q with
 | none => exact absurd (hn rfl).2 h0
 | some a =>
  have hl : 0 < xs.length := List.length_pos_iff.2 h0
  have hc : ∀ i, i < xs.length → w.cell? (a.add i) = some (.int .u8 (xs.getD i 0)) := fun i hi => h1 a rfl i _ (by unfold bv; rw [List.getElem?_map, List.getElem?_eq_getElem hi]; simp [List.getD_eq_getElem?_getD, hi])
  have hs : a.spot = none := by
   have h2 := hc 0 hl
   rw [show a.add 0 = a from by unfold Addr.add; rfl] at h2
   unfold World.cell? at h2
   split at h2
   ·cases hs : a.spot with
    | none => rfl
    | some k => rw [hs] at h2; simp at h2
   ·cases h2
  obtain ⟨g, o, s⟩ := a
  simp only at hs
  subst hs
  exact run_convert_bytes_arg (P := Try.prog) w 33 5 Try.underlying33 Try.underlying5 g o xs.length c xs rfl (fun i hi => by rw [← add_off]; exact hc i hi) 9 Try.underlying9
set_option maxRecDepth 100000 in
theorem append_nil {w : World} {base : Nat} {v : Value} {xs : List Int} (h : Ob w base v xs) : (Builtin.append_ #[33, 33] 33 #[v, .slice none 0 0]).run Try.prog w = .ok v w := by
 obtain ⟨i, hi⟩ : ∃ i, Try.prog.info? 5 = some i := ⟨_, rfl⟩
 rcases h.2 with ⟨rfl, h0⟩ | ⟨g, cap, cur, rfl, hb, hg, h2, h3, h4, h5⟩
 ·simp [Builtin.append_, run_underlying Try.underlying33, sizeOf, typeInfo, hi, Builtin.lenOf, Builtin.firstCells]
 ·simp [Builtin.append_, run_underlying Try.underlying33, sizeOf, typeInfo, hi, Builtin.lenOf, Builtin.firstCells, h2, storeCells]
set_option maxRecDepth 100000 in
set_option maxHeartbeats 4000000 in
theorem append_run {w : World} {base : Nat} {v u : Value} {xs ys : List Int} (h : Ob w base v xs) (hu : Bs w u ys) (hL : xs.length + ys.length ≤ 1000000000) (hb : base ≤ w.heap.size) :
  ∃ v' w', (Builtin.append_ #[33, 33] 33 #[v, u]).run Try.prog w = .ok v' w' ∧ Ob w' base v' (xs ++ ys) ∧ w.grownBy w' v.ownBlock ∧ (v'.ownBlock = v.ownBlock ∨ v'.ownBlock = some w.heap.size) := by
 obtain ⟨q, c, rfl, hn, h1⟩ := hu
 cases q with
 | none =>
  obtain ⟨rfl, rfl⟩ := hn rfl
  refine ⟨v, w, append_nil h, by rw [List.append_nil]; exact h, ⟨rfl, rfl, rfl, Nat.le_refl _, fun _ _ _ => rfl⟩, .inl rfl⟩
 | some a =>
  obtain ⟨v', w', hrun, ho, hg, -, hw⟩ := run_append_own_at (P := Try.prog) w base 33 33 5 _ _ 1 1 rfl rfl rfl rfl rfl rfl (by decide) v xs.length (bv xs) h a ys.length c (bv ys) (by rw [bv_len, Nat.mul_one]) (h1 a rfl) (fun u hu => by obtain ⟨x, _, rfl⟩ := List.mem_map.1 hu; rfl) (by simp only [maxLen]; omega) (by omega) hb
  refine ⟨v', w', hrun, ?_, hg, hw⟩
  unfold Ob
  rw [List.length_append, bv_app]
  exact ho
namespace K6
def InB (ks : List Nat) (g : Ghost) (b : Nat) : Prop := ∃ k ∈ ks, (g k).lo ≤ b ∧ b < (g k).hi
def OwnF (i : Nat) (ks : List Nat) (base : Nat) (zs : List Int) (g : Ghost) (w : World) : Prop := Ob w base (g i).v zs ∧ ∀ b, (g i).v.ownBlock = some b → InB (i :: ks) g b
def sQ (i : Nat) (ks D use kill : List Nat) (base : Nat) (zs : List Int) (p : Value → Prop) : Sp := (⟨i, D, use, kill, ks, i :: ks, false, false, false⟩, ⟨fun _ x => p x.v, OwnF i ks base zs, None_, None_⟩)
theorem ok_Q {w1 : World} {Z : Nat → Prop} {i : Nat} {ks D use kill : List Nat} {base : Nat} {zs : List Int} {p : Value → Prop} (hp : ∃ v, p v) (hks : ∀ k ∈ ks, k ∈ D) : OpOk w1 Z (sQ i ks D use kill base zs p) where
 some_ := fun _ => by obtain ⟨v, hv⟩ := hp; exact ⟨⟨v, w1.heap.size, w1.heap.size⟩, Nat.le_refl _, Nat.le_refl _, hv⟩
 depV := fun _ _ _ _ h => h
 depF := fun g g' hg w h => by
  have e : g' i = g i := hg i (.inl rfl)
  refine ⟨by rw [e]; exact h.1, fun b hb => ?_⟩
  rw [e] at hb
  obtain ⟨k, hk, h1⟩ := h.2 b hb
  refine ⟨k, hk, ?_⟩
  rcases List.mem_cons.1 hk with rfl | hk'
  ·rw [e]; exact h1
  ·rw [hg k (.inr (hks k hk'))]; exact h1
 loc := fun g w w' h hT => ⟨h.1.keep hT fun b hb hn => hn (.inr (.inr (h.2 b hb))), h.2⟩
 xo := fun _ h => h.elim
 lo := fun _ h => h.elim
theorem left_Qc {l : List Sp} {i : Nat} {D use kill : List Nat} {base : Nat} {zs : List Int} {p : Value → Prop} {s : Sh} (hl : look6 l s.i = (sQ i [] D use kill base zs p).2) (hs : s = (sQ i [] D use kill base zs p).1) {g : Ghost} {w w' : World} {v : Value}
  (ho : Ob w' w.heap.size v zs) (hb : Below w.heap.size w w') (hbase : base ≤ w.heap.size) (hp : p v) : Left (look6 l) s g w v w' := by
 unfold Left
 rw [hl]
 subst hs
 refine ⟨hp, Tr.of hb, ?_⟩
 show Ob w' base (gput g i _ i).v zs ∧ ∀ b, (gput g i _ i).v.ownBlock = some b → InB [i] (gput g i _) b
 rw [gput_self]
 refine ⟨ho.base hbase, fun b h => ⟨i, by simp, ?_⟩⟩
 rw [gput_self]
 exact ho.lt b h
theorem left_Qa {l : List Sp} {i : Nat} {ks D use kill : List Nat} {base : Nat} {zs : List Int} {p : Value → Prop} {s : Sh} (hl : look6 l s.i = (sQ i ks D use kill base zs p).2) (hs : s = (sQ i ks D use kill base zs p).1) (hik : i ∉ ks) {g : Ghost} {w w' : World} {v v' : Value}
  (hv : ∀ b, v.ownBlock = some b → InB ks g b) (hg : w.grownBy w' v.ownBlock) (ho : Ob w' base v' zs) (hw : v'.ownBlock = v.ownBlock ∨ v'.ownBlock = some w.heap.size) (hp : p v') : Left (look6 l) s g w v' w' := by
 unfold Left
 rw [hl]
 subst hs
 refine ⟨hp, ⟨hg.os, hg.tape, hg.output, hg.size, fun b hb hx => hg.block b hb fun hn => hx ?_⟩, ?_⟩
 ·obtain ⟨k, hk, h1⟩ := hv b hn.symm
  exact .inr ⟨k, hk, h1⟩
 ·show Ob w' base (gput g i _ i).v zs ∧ ∀ b, (gput g i _ i).v.ownBlock = some b → InB (i :: ks) (gput g i _) b
  rw [gput_self]
  refine ⟨ho, fun b h => ?_⟩
  rcases hw with h1 | h1
  ·obtain ⟨k, hk, h2⟩ := hv b (h1 ▸ h)
   refine ⟨k, List.mem_cons_of_mem _ hk, ?_⟩
   rw [gput_ne (fun e : k = i => hik (e ▸ hk))]
   exact h2
  ·have e : w.heap.size = b := Option.some.inj (h1.symm.trans h)
   refine ⟨i, List.mem_cons_self .., ?_⟩
   rw [gput_self]
   exact ⟨Nat.le_of_eq e, by subst e; exact (ho.lt _ h).2⟩
end K6
end Go.Proofs.Ytpdenhmkpiafiaa

namespace Go.Proofs.Ytpdenhmkpiafiaa
open Go Go.RowKit
end Go.Proofs.Ytpdenhmkpiafiaa
namespace Go.Proofs.Ytpdenhmkpiafiaa
open Go Go.RowKit K6
end Go.Proofs.Ytpdenhmkpiafiaa
namespace Go.Proofs.Ytpdenhmkpiafiaa
open Go Go.RowKit
end Go.Proofs.Ytpdenhmkpiafiaa
namespace Go.Proofs.Ytpdenhmkpiafiaa
open Go.ChangeShapes Go.WideShapes Go.ChangeAt Go.RowKit
theorem own : ownKnob Try.prog.godebug = none := by kernel_rfl
theorem laidOut : laidOutB Try.prog = true := by kernel_rfl
section
variable {H : Type} {enc : TypeId × Value → H} {P : Program}
theorem args_stay (hl : laidOutB P = true) {W W' : World} (hb : Below W.heap.size W W') : ∀ {ts : List TypeId} {vs : List Value} {ds : List (DataW H)} {ps : List MemPlace},
  (∀ t ∈ ts, P.readableRec t = true ∧ t < P.types.size) → DataW.TrodAll enc P W 0 (fun _ => true) true ts vs ds ps → (∀ p ∈ ps, p.block < W.heap.size) →
  DataW.TrodAll enc P W' 0 (fun b => decide (b < W.heap.size)) true ts vs ds ps
 | [], vs, ds, ps, _, h, _ => by
  obtain ⟨rfl, rfl, rfl⟩ := trodAll_nil h
  exact trodAll_mk0
 | t :: ts, vs, ds, ps, hr, h, hlt => by
  obtain ⟨v, vs', d, ds', p, q, rfl, rfl, rfl, h0, h1⟩ := trodAll_cons h
  have ht := hr t (List.mem_cons_self ..)
  exact trodAll_cons_mk (Below.trod hl ht.1 ht.2 h0 hb fun x hx => hlt x (List.mem_append_left _ hx))
   (args_stay hl hb (fun t ht => hr t (List.mem_cons_of_mem _ ht)) h1 fun x hx => hlt x (List.mem_append_right _ hx))
theorem law_post (hl : laidOutB P = true) (h4 : P.underlying 4 = some .bool) {f : Func} {s : ChangeSpec} {W W' : World} {args : Array Value} {ds gs : List (DataW H)} {before : List MemPlace}
  (hW : DataW.Whole enc P f.params.toList s.vars false W args.toList ds gs before) (hv : s.vars = []) (hfn : s.fn H (ds ++ gs) = { results := [.lit (.bool true)], args := ds }) (hres : f.resultTypes = #[4])
  (hr : ∀ t ∈ f.params.toList, P.readableRec t = true ∧ t < P.types.size) (hb : Below W.heap.size W W') : s.post enc P f false true false false W args (.bool true) W' := by
 have hlt := hW.lt
 have hW' := hW
 obtain ⟨p, q, hA, hV, rfl, _, _⟩ := hW
 rw [hv] at hV
 obtain ⟨rfl, rfl⟩ := trodVars_none hV
 simp only [List.append_nil] at hfn hlt
 refine ⟨ds, [], p ++ [], [], p, [], hW', ?_, ?_, ?_, hb.frame _, fun h => by cases h⟩
 ·simp only [List.append_nil]
  rw [hfn, hres]
  exact trodAll_cons_mk (p := []) (shut_bool h4 true) trodAll_mk0
 ·simp only [List.append_nil]
  rw [hfn]
  exact args_stay hl hb hr hA hlt
 ·simp only [List.append_nil]
  rw [hfn, hv]
  rfl
end
end Go.Proofs.Ytpdenhmkpiafiaa
namespace Go.Proofs.Ytpdenhmkpiafiaa
open Go Go.RowKit K6
def W4 (n : Nat) : Array Value := #[.int .u64 (wordsOf n 0), .int .u64 (wordsOf n 1), .int .u64 (wordsOf n 2), .int .u64 (wordsOf n 3)]
theorem W4_size (n : Nat) : (W4 n).size = 4 := rfl
theorem W4_eq {x0 x1 x2 x3 : Int} {n : Nat} (h : IsW x0 x1 x2 x3 n) : #[Value.int .u64 x0, .int .u64 x1, .int .u64 x2, .int .u64 x3] = W4 n := by
 obtain ⟨rfl, rfl, rfl, rfl⟩ := h.uniq (wordsOf_isW n h.ltM)
 rfl
theorem W4_zero : #[Value.int .u64 0, .int .u64 0, .int .u64 0, .int .u64 0] = W4 0 := W4_eq isW_zero
theorem W4_inj {a b : Nat} (ha : a < M) (hb : b < M) (h : W4 a = W4 b) : a = b := by
 unfold W4 at h
 have h0 : wordsOf a 0 = wordsOf b 0 ∧ wordsOf a 1 = wordsOf b 1 ∧ wordsOf a 2 = wordsOf b 2 ∧ wordsOf a 3 = wordsOf b 3 := by simpa using h
 have h1 := (wordsOf_isW a ha).lin
 have h2 := (wordsOf_isW b hb).lin
 obtain ⟨e0, e1, e2, e3⟩ := h0
 rw [e0, e1, e2, e3] at h1
 have := h1.1.trans h2.1.symm
 omega
theorem eqU {a b : Nat} (ha : a < M) (hb : b < M) (w : World) : (Op.equalIn 10000 31 (.agg (W4 a)) (.agg (W4 b))).run Try.prog w = .ok (decide (a = b)) w := by
 unfold W4
 rw [eq31]
 congr 1
 rw [Bool.eq_iff_iff]
 simp only [Bool.and_eq_true, beq_iff_eq, decide_eq_true_eq]
 constructor
 ·rintro ⟨h0, h1, h2, h3⟩
  exact W4_inj ha hb (by unfold W4; rw [h0, h1, h2, h3])
 ·rintro rfl; exact ⟨rfl, rfl, rfl, rfl⟩
def Ret (w : World) (v : Value) (e : Ending) (w' : World) : Prop := e = .returned v ∧ Below w.heap.size w w'
theorem pair_ret {w : World} {n : Nat} {ok : Bool} {e : Ending} {w' : World} (h : Pair w n ok e w') : Ret w (.tuple #[.agg (W4 n), .bool ok]) e w' := by
 obtain ⟨x0, x1, x2, x3, rfl, hx, hb⟩ := h
 exact ⟨by rw [W4_eq hx], hb⟩
theorem bitsU {a : Nat} (ha : a < M) (w : World) : Calls Try.prog 49 #[.agg (W4 a)] w (Ret w (.int .i64 (blen a))) :=
 bits_any _ _ _ _ a (wordsOf_isW a ha) w
theorem bytesU {a : Nat} (ha : a < M) (w : World) : Calls Try.prog 82 #[.agg (W4 a)] w (Bytes32 w a) := bytes_any _ _ _ _ a (wordsOf_isW a ha) w
end Go.Proofs.Ytpdenhmkpiafiaa
namespace Go.Proofs.Ytpdenhmkpiafiaa
open Go.ChangeShapes Go.WideShapes Go.ChangeAt Go.RowKit
theorem cells5' : Try.prog.cellsOf 5 = 1 := by kernel_rfl
theorem bounds8' {x : Int} (h : (Lit.int .u8 x).wf = true) : 0 ≤ x ∧ x < 256 := by
 have h1 : IntKind.u8.min = 0 := by decide
 have h2 : IntKind.u8.max = 255 := by decide
 simp [Lit.wf, h1, h2] at h
 omega
end Go.Proofs.Ytpdenhmkpiafiaa
namespace Go.Proofs.Ytpdenhmkpiafiaa
open Go Go.RowKit K6
theorem fresh_append {u : Value} {xs : List Int} {w : World} (h : Bs w u xs) (hL : xs.length ≤ 100000000) : ∃ v2 w2, (Builtin.append_ #[33, 33] 33 #[.slice (some ⟨w.heap.size, 0, none⟩) 0 0, u]).run Try.prog (w.alloc (.cells #[] 5)) = .ok v2 w2 ∧ Ob w2 w.heap.size v2 xs ∧ Below w.heap.size w w2 := by
 have ha : Below w.heap.size w (w.alloc (.cells #[] 5)) := (Below.refl _ _).alloc (Nat.le_refl _) _
 have ho : Ob (w.alloc (.cells #[] 5)) w.heap.size (.slice (some ⟨w.heap.size, 0, none⟩) 0 0) [] := ⟨rfl, .inr ⟨w.heap.size, 0, #[], rfl, Nat.le_refl _, Row.new_at (t := 5) (cs := #[]) rfl, Nat.le_refl _, Nat.zero_le _, rfl, rfl⟩⟩
 obtain ⟨v2, w2, hrun, ho2, hg, hw⟩ := append_run ho (h.below ha) (by simp; omega) (by simp)
 refine ⟨v2, w2, hrun, ho2, hg.os, hg.tape, hg.output, Nat.le_trans ha.size hg.size, fun k hk => ?_⟩
 rw [hg.block k (Nat.lt_of_lt_of_le hk ha.size) (fun e => by have : k = w.heap.size := Option.some.inj e; omega)]
 exact ha.block k hk
theorem wpList_app {ops : Array Oper} {rest : List Oper} {o : Oper} {a : Act} {Q : Exit → Act → World → Prop} {w w' : World} {x y : Operand} {t1 t2 : TypeId} {v u v' : Value} (hgd : o.guard = none)
  (ho : o.op = .call { callee := .builtin .append, args := #[x, y], argTypes := #[t1, t2] }) (hx : a.eval x = v) (hy : a.eval y = u)
  (hrun : (Builtin.append_ #[t1, t2] o.type #[v, u]).run Try.prog w = .ok v' w') (h : wpList Try.prog ops Q rest (a.put o.dst v') w') : wpList Try.prog ops Q (o :: rest) a w := by
 refine wpList_plain hgd fun K hK => ?_
 unfold Oper.wp execOp
 simp only [ho, resolve, invoke, builtin, Sem.run_bind, Sem.run_pure, Result.andThen_ok, List.map_toArray, List.map_cons, List.map_nil, hx, hy, hrun]
 exact hK _ _ h
theorem slice_nil (w : World) : (binOp .eql 33 (.slice none 0 0) (.slice none 0 0)).run Try.prog w = .ok (.bool true) w := by kernel_rfl
theorem slice_not (a : Addr) (n c : Nat) (w : World) : (binOp .eql 33 (.slice (some a) n c) (.slice none 0 0)).run Try.prog w = .ok (.bool false) w := by kernel_rfl
set_option maxRecDepth 100000 in
set_option maxHeartbeats 4000000 in
theorem clone_any (u : Value) (xs : List Int) (w : World) (h : Bs w u xs) (hL : xs.length ≤ 100000000) : Calls Try.prog 157 #[u] w fun e w' => ∃ v, e = .returned v ∧ Ob w' w.heap.size v xs ∧ Below w.heap.size w w' := by
 have hb := h
 obtain ⟨q, c, rfl, hn, h1⟩ := h
 cases q with
 | none =>
  obtain ⟨rfl, rfl⟩ := hn rfl
  clear hb hn h1 hL
  have hq := slice_nil
  go_enter Try.func157, Try.ntmps157
  go_wp2_with fail
  go_ret
  exact ⟨_, rfl, Ob.nil _ _, Below.refl _ _⟩
 | some a =>
  obtain ⟨n, hn'⟩ : ∃ n, xs.length = n := ⟨_, rfl⟩
  obtain ⟨v2, w2, hrun, ho2, hl⟩ := fresh_append hb hL
  rw [hn'] at hrun ⊢
  have H := Lib.hid (show _ ∧ _ from ⟨ho2, hl⟩)
  clear hb hn h1 hL ho2 hl hn'
  have hq := fun w => slice_not a n c w
  go_enter Try.func157, Try.ntmps157
  go_wp2_with (at_builtin; refine wpList_app rfl rfl rfl rfl hrun ?_)
  go_ret
  exact ⟨_, rfl, H.out.1, H.out.2⟩
def enc (m : Nat) : List Int := if h : m < 128 then [(m : Int)] else ((m % 128 + 128 : Nat) : Int) :: enc (m / 128)
termination_by m
decreasing_by omega
theorem enc_low {m : Nat} (h : m < 128) : enc m = [(m : Int)] := by unfold enc; rw [dif_pos h]
theorem enc_high {m : Nat} (h : ¬ m < 128) : enc m = ((m % 128 + 128 : Nat) : Int) :: enc (m / 128) := by rw [enc, dif_neg h]
set_option maxRecDepth 100000 in
theorem or128_key : ∀ x : Fin 256, bits .or .u8 ((x.val : Nat) : Int) 128 = ((x.val % 128 + 128 : Nat) : Int) := by decide
theorem enc_len : ∀ (k m : Nat), m < 128 ^ (k + 1) → (enc m).length ≤ k + 1
 | 0, m, h => by rw [enc_low (by simpa using h)]; simp
 | k + 1, m, h => by
  by_cases h1 : m < 128
  ·rw [enc_low h1]; simp
  ·rw [enc_high h1, List.length_cons]
   have := enc_len k (m / 128) (by rw [Nat.div_lt_iff_lt_mul (by decide)]; rw [Nat.pow_succ] at h; exact h)
   omega
theorem or128 (m : Nat) : bits .or .u8 ((m : Int) % 256) 128 = ((m % 128 + 128 : Nat) : Int) := by
 have h : (m : Int) % 256 = ((m % 256 : Nat) : Int) := by omega
 rw [h]
 have := or128_key ⟨m % 256, Nat.mod_lt _ (by decide)⟩
 simp only at this
 rw [this, Nat.mod_mod_of_dvd _ (by decide)]
theorem shr7 (m : Nat) (w : World) : (binOp .shr 3 (.int .i64 (m : Int)) (.int .u64 7)).run Try.prog w = .ok (.int .i64 ((m / 128 : Nat) : Int)) w := by
 have e : (m : Int).fdiv (2 ^ 7) = ((m / 128 : Nat) : Int) := by
  rw [Int.fdiv_eq_ediv_of_nonneg _ (by decide)]; omega
 show (Op.shift .shr .i64 (m : Int) .u64 7).run Try.prog w = _
 unfold Op.shift
 rw [if_neg (by decide)]
 show Result.ok (Value.int .i64 ((m : Int).fdiv (2 ^ 7))) w = _
 rw [e]
theorem Bs_new {w : World} (x : Int) : Bs (w.alloc (.cells #[.int .u8 x] 5)) (.slice (some ⟨w.heap.size, 0, none⟩) 1 1) [x] := by
 refine ⟨_, _, rfl, (fun h => (by cases h)), fun a ha j u hj => ?_⟩
 cases ha
 match j, hj with
 | 0, hj =>
  cases hj
  rw [add_at]
  exact (Row.new_at (w := w) (cs := #[.int .u8 x]) (t := 5) rfl).cell 0
theorem grew_below {w w2 : World} {B : Nat} {x : Obj} {v : Value} (hB : B ≤ w.heap.size) (ho : ∀ b, v.ownBlock = some b → B ≤ b) (hg : (w.alloc x).grownBy w2 v.ownBlock) : Below B w w2 := by
 have ha : Below w.heap.size w (w.alloc x) := (Below.refl _ _).alloc (Nat.le_refl _) _
 refine ⟨hg.os, hg.tape, hg.output, Nat.le_trans ha.size hg.size, fun k hk => ?_⟩
 rw [hg.block k (Nat.lt_of_lt_of_le (Nat.lt_of_lt_of_le hk hB) ha.size) (fun e => by have := ho k e.symm; omega)]
 exact ha.block k (Nat.lt_of_lt_of_le hk hB)
set_option maxRecDepth 100000 in
set_option maxHeartbeats 8000000 in
theorem var_any (u : Value) (xs : List Int) (n0 : Int) (w : World) (h : Bs w u xs) (hL : xs.length ≤ 10000000) (hn0 : n0 < 9223372036854775808) :
  Calls Try.prog 38 #[u, .int .i64 n0] w fun e w' => ∃ v, e = .returned v ∧ Ob w' w.heap.size v (xs ++ enc n0.toNat) ∧ Below w.heap.size w w' := by
 obtain ⟨n, hnn⟩ : ∃ n, n0.toNat = n := ⟨_, rfl⟩
 have hn : n < 9223372036854775808 := by omega
 have hneg : n0 < 0 ∧ (0 : Int) = (n : Int) ∨ 0 ≤ n0 ∧ n0 = (n : Int) := by omega
 rw [hnn]
 have hcl := Lib.hid (clone_any u xs w h (by omega))
 have hlen : (xs ++ enc n).length ≤ 10000010 := by rw [List.length_append]; have := enc_len 8 n (by omega); omega
 obtain ⟨N, hN⟩ : ∃ N, w.heap.size = N := ⟨_, rfl⟩
 obtain ⟨all, hall⟩ : ∃ all, xs ++ enc n = all := ⟨_, rfl⟩
 rw [hall] at hlen ⊢
 clear h hL hn0 hnn
 rcases hneg with ⟨h1, h2⟩ | ⟨h1, h2⟩
 ·obtain rfl : n = 0 := by omega
  clear h2
  go_enter Try.func38, Try.ntmps38
  go_wp2_with fail
  refine hcl.out.mono ?_
  rintro e w1 ⟨v1, rfl, ho1, hl1⟩
  clear hcl
  have H0 := Lib.hid (show _ ∧ _ ∧ _ ∧ _ ∧ _ from ⟨ho1, hl1, hall, hlen, hn⟩)
  clear ho1 hl1 hall hlen hn
  go_wp2_with fail
  go_loopg [1, 5] 0 (fun gg s1 s5 wr => ∃ zs, s1 = .int .i64 ((gg : Nat) : Int) ∧ gg < 9223372036854775808 ∧ Ob wr w.heap.size s5 zs ∧ zs ++ enc gg = all ∧ Below w.heap.size w wr)
  case atStart => exact ⟨xs, rfl, H0.out.2.2.2.2, H0.out.1, H0.out.2.2.1, H0.out.2.1⟩
  case round =>
   obtain ⟨zs, rfl, hm, ho, hz, hl⟩ := hrel
   obtain ⟨m, rfl⟩ : ∃ m : Nat, m = gk := ⟨_, rfl⟩
   obtain ⟨wo, rfl⟩ : ∃ wo : World, wo = wr := ⟨_, rfl⟩
   have hzl : zs.length ≤ 10000010 := by
    have h1 := H0.out.2.2.2.1
    rw [← hz, List.length_append] at h1
    omega
   by_cases hlt : m < 128
   ·have hd : (m : Int) < 128 := by omega
    have wm : IntKind.u8.wrap (m : Int) = (m : Int) := by rw [IntKind.wrap_u8]; omega
    have hob := hl.size
    have ha : Below wo.heap.size wo (wo.alloc (.cells #[.int .u8 (m : Int)] 5)) := (Below.refl _ _).alloc (Nat.le_refl _) _
    obtain ⟨v2, w2, hrun, ho2, hg, hw⟩ := append_run (ho.below ha) (Bs_new (w := wo) (m : Int)) (by simp; omega) (Nat.le_trans hl.size ha.size)
    have hl2 := hl.trans (grew_below hl.size (fun b hb => (ho.lt b hb).1) hg)
    rw [enc_low hlt] at hz
    rw [hz] at ho2
    have H := Lib.hid (show _ ∧ _ from ⟨ho2, hl2⟩)
    clear ha ho2 hg hw hl2 hz ho hl hlt hzl hob
    go_wp2_with (at_builtin; refine wpList_app rfl rfl rfl rfl hrun ?_)
    go_ret
    exact ⟨_, rfl, H.out.1, H.out.2⟩
   ·have hd : (128 : Int) ≤ (m : Int) := by omega
    have ho128 := or128 m
    have hshr := shr7 m
    obtain ⟨y, hy⟩ : ∃ y, ((m % 128 + 128 : Nat) : Int) = y := ⟨_, rfl⟩
    rw [hy] at ho128
    have ha : Below wo.heap.size wo (wo.alloc (.cells #[.int .u8 y] 5)) := (Below.refl _ _).alloc (Nat.le_refl _) _
    obtain ⟨v2, w2, hrun, ho2, hg, hw⟩ := append_run (ho.below ha) (Bs_new (w := wo) y) (by simp; omega) (Nat.le_trans hl.size ha.size)
    have hl2 := hl.trans (grew_below hl.size (fun b hb => (ho.lt b hb).1) hg)
    have hz2 : (zs ++ [y]) ++ enc (m / 128) = all := by rw [List.append_assoc, ← hz, enc_high hlt, hy]; rfl
    have H := Lib.hid (show _ ∧ _ ∧ _ from ⟨ho2, hl2, hz2⟩)
    clear ha ho2 hg hw hl2 hz2 hz ho hl hzl hy
    go_wp2_with (at_builtin; refine wpList_app rfl rfl rfl rfl hrun ?_)
    go_roundg (m / 128)
    case measure => omega
    case rel => exact ⟨zs ++ [y], by go_num, by omega, H.out.1, H.out.2.2, H.out.2.1⟩
 ·subst h2
  have h3 : ¬ (n : Int) < 0 := by omega
  clear h1
  go_enter Try.func38, Try.ntmps38
  go_wp2_with fail
  refine hcl.out.mono ?_
  rintro e w1 ⟨v1, rfl, ho1, hl1⟩
  clear hcl
  have H0 := Lib.hid (show _ ∧ _ ∧ _ ∧ _ ∧ _ from ⟨ho1, hl1, hall, hlen, hn⟩)
  clear ho1 hl1 hall hlen hn
  go_wp2_with fail
  go_loopg [1, 5] n (fun gg s1 s5 wr => ∃ zs, s1 = .int .i64 ((gg : Nat) : Int) ∧ gg < 9223372036854775808 ∧ Ob wr w.heap.size s5 zs ∧ zs ++ enc gg = all ∧ Below w.heap.size w wr)
  case atStart => exact ⟨xs, rfl, H0.out.2.2.2.2, H0.out.1, H0.out.2.2.1, H0.out.2.1⟩
  case round =>
   obtain ⟨zs, rfl, hm, ho, hz, hl⟩ := hrel
   obtain ⟨m, rfl⟩ : ∃ m : Nat, m = gk := ⟨_, rfl⟩
   obtain ⟨wo, rfl⟩ : ∃ wo : World, wo = wr := ⟨_, rfl⟩
   have hzl : zs.length ≤ 10000010 := by
    have h1 := H0.out.2.2.2.1
    rw [← hz, List.length_append] at h1
    omega
   by_cases hlt : m < 128
   ·have hd : (m : Int) < 128 := by omega
    have wm : IntKind.u8.wrap (m : Int) = (m : Int) := by rw [IntKind.wrap_u8]; omega
    have hob := hl.size
    have ha : Below wo.heap.size wo (wo.alloc (.cells #[.int .u8 (m : Int)] 5)) := (Below.refl _ _).alloc (Nat.le_refl _) _
    obtain ⟨v2, w2, hrun, ho2, hg, hw⟩ := append_run (ho.below ha) (Bs_new (w := wo) (m : Int)) (by simp; omega) (Nat.le_trans hl.size ha.size)
    have hl2 := hl.trans (grew_below hl.size (fun b hb => (ho.lt b hb).1) hg)
    rw [enc_low hlt] at hz
    rw [hz] at ho2
    have H := Lib.hid (show _ ∧ _ from ⟨ho2, hl2⟩)
    clear ha ho2 hg hw hl2 hz ho hl hlt hzl hob
    go_wp2_with (at_builtin; refine wpList_app rfl rfl rfl rfl hrun ?_)
    go_ret
    exact ⟨_, rfl, H.out.1, H.out.2⟩
   ·have hd : (128 : Int) ≤ (m : Int) := by omega
    have ho128 := or128 m
    have hshr := shr7 m
    obtain ⟨y, hy⟩ : ∃ y, ((m % 128 + 128 : Nat) : Int) = y := ⟨_, rfl⟩
    rw [hy] at ho128
    have ha : Below wo.heap.size wo (wo.alloc (.cells #[.int .u8 y] 5)) := (Below.refl _ _).alloc (Nat.le_refl _) _
    obtain ⟨v2, w2, hrun, ho2, hg, hw⟩ := append_run (ho.below ha) (Bs_new (w := wo) y) (by simp; omega) (Nat.le_trans hl.size ha.size)
    have hl2 := hl.trans (grew_below hl.size (fun b hb => (ho.lt b hb).1) hg)
    have hz2 : (zs ++ [y]) ++ enc (m / 128) = all := by rw [List.append_assoc, ← hz, enc_high hlt, hy]; rfl
    have H := Lib.hid (show _ ∧ _ ∧ _ from ⟨ho2, hl2, hz2⟩)
    clear ha ho2 hg hw hl2 hz2 hz ho hl hzl hy
    go_wp2_with (at_builtin; refine wpList_app rfl rfl rfl rfl hrun ?_)
    go_roundg (m / 128)
    case measure => omega
    case rel => exact ⟨zs ++ [y], by go_num, by omega, H.out.1, H.out.2.2, H.out.2.1⟩
end Go.Proofs.Ytpdenhmkpiafiaa
namespace Go.Proofs.Ytpdenhmkpiafiaa
open Go Go.RowKit K6
theorem tr_cell {X : Nat → Prop} {w : World} {p : Addr} {u : Value} (h : X p.block) : Tr X w (w.setCell p u) :=
 ⟨rfl, rfl, rfl, by simp, fun b _ hb => by
  obtain ⟨g, o, s⟩ := p
  exact Below.heap_setCell _ _ _ _ (fun e => hb (e ▸ h))⟩
def Src (w : World) (g : Nat) (v : Value) (e : Int) (m : Bool) : Prop := Row w g 72 #[v, .int .i64 e, .bool m]
set_option maxRecDepth 100000 in
theorem ok_true {w : World} {g : Nat} {v : Value} (h : Src w g v 0 true) : Calls Try.prog 174 #[.pointer (some ⟨g, 0, none⟩)] w fun e w' => e = .returned (.bool true) ∧ w' = w := by
 have c1 : w.cell? ⟨g, 1, none⟩ = some (.int .i64 0) := h.cell 1
 have c2 : w.cell? ⟨g, 2, none⟩ = some (.bool true) := h.cell 2
 clear h
 go_enter Try.func174, Try.ntmps174
 go_wp2_with fail
 go_ret
 exact ⟨rfl, rfl⟩
set_option maxRecDepth 100000 in
set_option maxHeartbeats 2000000 in
theorem fail_any {w : World} {g : Nat} {v : Value} (c : Int) (h : Src w g v 0 true) : Calls Try.prog 176 #[.pointer (some ⟨g, 0, none⟩), .int .i64 c] w fun e w' => (∃ u, e = .returned u) ∧ Src w' g (.slice none 0 0) c true ∧ Tr (fun b => b = g) w w' := by
 have ok := Lib.hid (ok_true h)
 have c0 : (w.cell? ⟨g, 0, none⟩).isSome = true := by rw [show w.cell? ⟨g, 0, none⟩ = some v from h.cell 0]; rfl
 have c1 : w.cell? ⟨g, 1, none⟩ = some (.int .i64 0) := h.cell 1
 have d0 : w.cell? ⟨g, 0, none⟩ = some v := h.cell 0
 have f0 := h.frozen 0
 have f1 := h.frozen 1
 have H := Lib.hid h
 clear h c0
 go_enter Try.func176, Try.ntmps176
 go_wp2_with fail
 refine ok.out.mono ?_
 rintro e w' ⟨rfl, rfl⟩
 go_wp2_with fail
 first | (refine bodyPost_ret (results_none rfl _ _ _) rfl ?_) | (refine bodyPost_end (results_none rfl _ _ _) rfl ?_)
 exact ⟨⟨_, rfl⟩, Row.congr ((Row.set H.out 0 (.slice none 0 0)).set 1 (.int .i64 c)) rfl, (tr_cell (X := fun b => b = g) rfl).trans (tr_cell (X := fun b => b = g) rfl)⟩
set_option maxRecDepth 100000 in
theorem err_row {w : World} {g : Nat} {v : Value} {e : Int} (h : Src w g v e true) : Calls Try.prog 66 #[.pointer (some ⟨g, 0, none⟩)] w fun x w' => x = .returned (.int .i64 e) ∧ w' = w := by
 have c1 : w.cell? ⟨g, 1, none⟩ = some (.int .i64 e) := h.cell 1
 have c2 : w.cell? ⟨g, 2, none⟩ = some (.bool true) := h.cell 2
 clear h
 go_enter Try.func66, Try.ntmps66
 go_wp2_with fail
 go_ret
 exact ⟨rfl, rfl⟩
def NewSrc (w : World) (xs : List Int) (e : Ending) (w' : World) : Prop := ∃ g v, e = .returned (.pointer (some ⟨g, 0, none⟩)) ∧ w.heap.size ≤ g ∧ Src w' g v 0 true ∧ Ob w' w.heap.size v xs ∧ (∀ b, v.ownBlock = some b → b ≠ g) ∧ Below w.heap.size w w'
set_option maxRecDepth 100000 in
set_option maxHeartbeats 2000000 in
theorem read_any (u : Value) (xs : List Int) (w : World) (h : Bs w u xs) (hL : xs.length ≤ 100000000) : Calls Try.prog 59 #[u] w (NewSrc w xs) := by
 have hcl := Lib.hid (clone_any u xs w h hL)
 clear h hL
 go_enter Try.func59, Try.ntmps59
 go_wp2_with fail
 refine hcl.out.mono ?_
 rintro e w1 ⟨v1, rfl, ho, hl⟩
 clear hcl
 have fin : ∀ x : Array Value, Below w1.heap.size w1 (w1.alloc (.cells x 72)) := fun x => (Below.refl _ _).alloc (Nat.le_refl _) _
 have H : Hid (∀ v, Ob w1 w.heap.size v xs → NewSrc w xs (.returned (.pointer (some ⟨w1.heap.size, 0, none⟩))) (w1.alloc (.cells #[v, .int .i64 0, .bool true] 72))) := Lib.hid fun v hv =>
  ⟨w1.heap.size, v, rfl, hl.size, Row.new_at rfl, hv.below (fin _), fun b hb e => by have := (hv.lt b hb).2; omega, hl.trans ((fin _).mono hl.size)⟩
 rcases id ho.2 with ⟨rfl, h0⟩ | ⟨g, cap, cur, rfl, -⟩
 ·have H2 := Lib.hid (H.out _ ho)
  clear H fin ho h0 hl
  go_wp2_with fail
  go_ret
  exact H2.out
 ·have H2 := Lib.hid (H.out _ ho)
  clear H fin ho hl
  go_wp2_with fail
  go_ret
  exact H2.out
def Bad (w : World) (p : Value) : Prop := p = .pointer none ∨ ∃ g, p = .pointer (some ⟨g, 0, none⟩) ∧ Src w g (.slice none 0 0) 0 false
theorem Bad.below {w w' : World} {p : Value} (h : Bad w p) (hb : Below w.heap.size w w') : Bad w' p := by
 rcases h with h | ⟨g, h, hs⟩
 ·exact .inl h
 ·exact .inr ⟨g, h, Row.below hs hb (Row.lt hs)⟩
end Go.Proofs.Ytpdenhmkpiafiaa
namespace Go.Proofs.Ytpdenhmkpiafiaa
open Go Go.RowKit K6
def SA (w : World) (lo hi g : Nat) (e : Int) (xs : List Int) : Prop :=
 lo ≤ g ∧ g < hi ∧ (e ≠ 0 → xs = []) ∧ (∀ x ∈ xs, 0 ≤ x ∧ x < 256) ∧ xs.length ≤ 100000000 ∧
 ∃ v, Src w g v e true ∧ ((v = .slice none 0 0 ∧ xs = []) ∨ ∃ b o c, lo ≤ b ∧ b < hi ∧ b ≠ g ∧ v = .slice (some ⟨b, o, none⟩) xs.length c ∧ xs.length ≤ c ∧ ∀ j x, xs[j]? = some x → w.cell? ⟨b, o + j, none⟩ = some (.int .u8 x))
theorem SA.lt {w : World} {lo hi g : Nat} {e : Int} {xs : List Int} (h : SA w lo hi g e xs) : g < w.heap.size := by
 obtain ⟨-, -, -, -, -, v, hs, -⟩ := h
 exact Row.lt hs
theorem SA.keep {X : Nat → Prop} {w w' : World} {lo hi g : Nat} {e : Int} {xs : List Int} (h : SA w lo hi g e xs) (hT : Tr X w w') (hX : ∀ b, lo ≤ b → b < hi → ¬ X b) : SA w' lo hi g e xs := by
 obtain ⟨h1, hh, h2, h3, h4, v, hs, hv⟩ := h
 refine ⟨h1, hh, h2, h3, h4, v, Row.tr hs hT (hX g h1 hh), ?_⟩
 rcases hv with hv | ⟨b, o, c, hb, hbh, hbg, rfl, hc, hcell⟩
 ·exact .inl hv
 ·refine .inr ⟨b, o, c, hb, hbh, hbg, rfl, hc, fun j x hj => ?_⟩
  have h5 := hcell j x hj
  rw [← h5]
  exact World.cell?_of_block (hT.block b (cell_lt h5) (hX b hb hbh))
theorem SA.below {w w' : World} {lo hi g : Nat} {e : Int} {xs : List Int} (h : SA w lo hi g e xs) (hb : Below w.heap.size w w') : SA w' lo hi g e xs := h.keep (X := None_) (Tr.of hb) fun _ _ _ => id
theorem NewSrc.sa {w w' : World} {xs : List Int} {r : Ending} (h : NewSrc w xs r w') (hx : ∀ x ∈ xs, 0 ≤ x ∧ x < 256) (hL : xs.length ≤ 100000000) : ∃ g, r = .returned (.pointer (some ⟨g, 0, none⟩)) ∧ SA w' w.heap.size w'.heap.size g 0 xs ∧ Below w.heap.size w w' := by
 obtain ⟨g, v, rfl, hg, hs, ho, hne, hb⟩ := h
 refine ⟨g, rfl, ⟨hg, Row.lt hs, (fun h => absurd rfl h), hx, hL, v, hs, ?_⟩, hb⟩
 rcases id ho.2 with ⟨rfl, h0⟩ | ⟨b, cap, cur, rfl, h1, h2, h3, -⟩
 ·exact .inl ⟨rfl, List.eq_nil_of_length_eq_zero h0⟩
 ·refine .inr ⟨b, 0, cap, h1, (ho.lt b rfl).2, hne b rfl, rfl, h3, fun j x hj => ?_⟩
  rw [← add_at]
  exact World.ownsRow.cells ho (g := b) rfl j _ (by unfold bv; rw [List.getElem?_map, hj]; rfl)
set_option maxRecDepth 100000 in
theorem ok_shut {w : World} {g : Nat} {v : Value} {e : Int} (h : Src w g v e true) (he : e ≠ 0) : Calls Try.prog 174 #[.pointer (some ⟨g, 0, none⟩)] w fun e w' => e = .returned (.bool false) ∧ w' = w := by
 have c1 : w.cell? ⟨g, 1, none⟩ = some (.int .i64 e) := h.cell 1
 have c2 : w.cell? ⟨g, 2, none⟩ = some (.bool true) := h.cell 2
 have hq : (e == 0) = false := by rw [beq_eq_false_iff_ne]; exact he
 clear h
 go_enter Try.func174, Try.ntmps174
 go_wp2_with fail
 go_ret
 exact ⟨by simp, rfl⟩
theorem ok_at {w : World} {lo hi g : Nat} {e : Int} {xs : List Int} (h : SA w lo hi g e xs) : Calls Try.prog 174 #[.pointer (some ⟨g, 0, none⟩)] w fun r w' => r = .returned (.bool (decide (e = 0))) ∧ w' = w := by
 obtain ⟨-, -, -, -, -, v, hs, -⟩ := h
 by_cases he : e = 0
 ·subst he; exact ok_true hs
 ·rw [decide_eq_false he]; exact ok_shut hs he
set_option maxRecDepth 100000 in
set_option maxHeartbeats 2000000 in
theorem fail_at {w : World} {lo hi g : Nat} {e : Int} {xs : List Int} (c : Int) (h : SA w lo hi g e xs) : Calls Try.prog 176 #[.pointer (some ⟨g, 0, none⟩), .int .i64 c] w fun r w' => (∃ u, r = .returned u) ∧ SA w' lo hi g (if e = 0 then c else e) [] ∧ Tr (fun b => b = g) w w' := by
 by_cases he : e = 0
 ·subst he
  obtain ⟨h1, hh, -, -, -, v, hs, -⟩ := h
  refine (fail_any c hs).mono fun r w' ⟨hr, hs', ht⟩ => ⟨hr, ⟨h1, hh, fun _ => rfl, (fun x hx => (by cases hx)), Nat.zero_le _, _, hs', .inl ⟨rfl, rfl⟩⟩, ht⟩
 ·have ok := Lib.hid (ok_at h)
  rw [decide_eq_false he] at ok
  have H := Lib.hid (show SA w lo hi g e [] by rw [h.2.2.1 he] at h; exact h)
  clear h
  go_enter Try.func176, Try.ntmps176
  go_wp2_with fail
  refine ok.out.mono ?_
  rintro r w' ⟨rfl, rfl⟩
  go_wp2_with fail
  first | (refine bodyPost_ret (results_none rfl _ _ _) rfl ?_) | (refine bodyPost_end (results_none rfl _ _ _) rfl ?_)
  exact ⟨⟨_, rfl⟩, H.out, Tr.refl _ _⟩
def tkE (n : Nat) (e : Int) (xs : List Int) : Int := if e = 0 then (if n ≤ xs.length then 0 else 3) else e
def tkO (n : Nat) (e : Int) (xs : List Int) : List Int := if e = 0 then (if n ≤ xs.length then xs.take n else []) else []
def tkR (n : Nat) (e : Int) (xs : List Int) : List Int := if e = 0 then (if n ≤ xs.length then xs.drop n else []) else []
def Took (w : World) (lo hi g n : Nat) (e : Int) (xs : List Int) (r : Ending) (w' : World) : Prop := ∃ u, r = .returned u ∧ Bs w' u (tkO n e xs) ∧ (∀ b, u.ownBlock = some b → lo ≤ b ∧ b < hi ∧ b ≠ g) ∧ SA w' lo hi g (tkE n e xs) (tkR n e xs) ∧ Tr (fun b => b = g) w w'
set_option maxRecDepth 100000 in
set_option maxHeartbeats 4000000 in
theorem take_at {w : World} {lo hi g : Nat} {e : Int} {xs : List Int} (n : Nat) (h : SA w lo hi g e xs) : Calls Try.prog 177 #[.pointer (some ⟨g, 0, none⟩), .int .i64 (n : Int)] w (Took w lo hi g n e xs) := by
 have ok := Lib.hid (ok_at h)
 by_cases he : e = 0
 ·subst he
  rw [decide_eq_true rfl] at ok
  by_cases hn : n ≤ xs.length
  ·obtain ⟨h1, hh, -, h3, h4, v, hs, hv⟩ := h
   have hE : tkE n 0 xs = 0 := by unfold tkE; rw [if_pos rfl, if_pos hn]
   have hO : tkO n 0 xs = xs.take n := by unfold tkO; rw [if_pos rfl, if_pos hn]
   have hR : tkR n 0 xs = xs.drop n := by unfold tkR; rw [if_pos rfl, if_pos hn]
   have c0 : w.cell? ⟨g, 0, none⟩ = some v := hs.cell 0
   have f0 := hs.frozen 0
   rcases hv with ⟨rfl, rfl⟩ | ⟨b, o, c, hb, hbh, hbg, rfl, hc, hcell⟩
   ·obtain rfl : n = 0 := Nat.le_zero.1 hn
    have fin : Took w lo hi g 0 0 [] (.returned (.slice none 0 0)) (w.setCell ⟨g, 0, none⟩ (.slice none 0 0)) := ⟨_, rfl, by rw [hO]; exact Bs.nil _, (fun b hb => (by cases hb)), by rw [hE, hR]; exact ⟨h1, hh, (fun h => absurd rfl h), (fun x hx => (by cases hx)), Nat.zero_le _, _, Row.congr (Row.set hs 0 _) rfl, .inl ⟨rfl, rfl⟩⟩, tr_cell rfl⟩
    have H := Lib.hid fin
    clear fin hE hO hR h3 h4 hn h1 hs
    go_enter Try.func177, Try.ntmps177
    go_wp2_with fail
    refine ok.out.mono ?_
    rintro r w' ⟨rfl, rfl⟩
    clear ok
    go_wp2_with fail
    go_ret
    exact H.out
   ·have hx : ∀ v', Row (w.setCell ⟨g, 0, none⟩ v') g 72 #[v', .int .i64 0, .bool true] := fun v' => Row.congr (Row.set hs 0 v') rfl
    have hT : ∀ v', Tr (fun b => b = g) w (w.setCell ⟨g, 0, none⟩ v') := fun v' => tr_cell (X := fun b => b = g) rfl
    have hcl : ∀ v' j x, xs[j]? = some x → (w.setCell ⟨g, 0, none⟩ v').cell? ⟨b, o + j, none⟩ = some (.int .u8 x) := fun v' j x hj => by
     rw [← hcell j x hj]
     exact World.cell?_of_block ((hT v').block b (cell_lt (hcell j x hj)) hbg)
    have hd3 : ∀ x ∈ xs.drop n, 0 ≤ x ∧ x < 256 := fun x hx => h3 x (List.mem_of_mem_drop hx)
    have fin : ∀ v', (v' = .slice (some ⟨b, o + n, none⟩) (xs.length - n) (c - n) ∨ n = c ∧ v' = .slice (some ⟨b, o, none⟩) 0 0) → Took w lo hi g n 0 xs (.returned (.slice (some ⟨b, o, none⟩) n n)) (w.setCell ⟨g, 0, none⟩ v') := fun v' hv' => by
     refine ⟨_, rfl, ?_, (fun b' hb' => by cases hb'; exact ⟨hb, hbh, hbg⟩), ?_, hT v'⟩
     ·rw [hO]
      refine ⟨some ⟨b, o, none⟩, n, by rw [List.length_take, Nat.min_eq_left hn], (fun h => (by cases h)), fun a ha j u hj => ?_⟩
      cases ha
      rw [add_off]
      unfold bv at hj
      rw [List.getElem?_map, List.getElem?_take] at hj
      split at hj
      ·rcases hx9 : xs[j]? with _ | x
       ·rw [hx9] at hj; cases hj
       ·rw [hx9] at hj; cases hj
        exact hcl v' j x hx9
      ·cases hj
     ·rw [hE, hR]
      refine ⟨h1, hh, (fun h => absurd rfl h), hd3, by rw [List.length_drop]; omega, v', hx v', ?_⟩
      rcases hv' with rfl | ⟨rfl, rfl⟩
      ·refine .inr ⟨b, o + n, c - n, hb, hbh, hbg, by rw [List.length_drop], by rw [List.length_drop]; omega, fun j x hj => ?_⟩
       rw [List.getElem?_drop] at hj
       rw [Nat.add_assoc]
       exact hcl _ _ _ hj
      ·refine .inr ⟨b, o, 0, hb, hbh, hbg, by rw [List.length_drop, Nat.sub_eq_zero_of_le hc], by rw [List.length_drop]; omega, fun j x hj => ?_⟩
       rw [List.getElem?_drop, List.getElem?_eq_none (by omega)] at hj
       cases hj
    obtain ⟨m, hm⟩ : ∃ m, xs.length = m := ⟨_, rfl⟩
    rw [hm] at c0 hn hc h4
    have hm1 : (n : Int) ≤ (m : Int) := by omega
    have hm2 : (n : Int) ≤ (c : Int) := by omega
    have hm3 : (m : Int) ≤ (c : Int) := by omega
    by_cases hcn : c = n
    ·subst hcn
     obtain rfl : m = c := by omega
     have H := Lib.hid (fin _ (.inr ⟨rfl, rfl⟩))
     clear fin hE hO hR hd3 hcl hT hx hcell h3 h4 hs
     go_enter Try.func177, Try.ntmps177
     go_wp2_with fail
     refine ok.out.mono ?_
     rintro r w' ⟨rfl, rfl⟩
     clear ok
     go_wp2_with fail
     all_goals (go_ret; exact H.out)
    ·have H := Lib.hid (fin _ (.inl rfl))
     rw [hm] at H
     clear fin hE hO hR hd3 hcl hT hx hcell h3 h4 hs
     go_enter Try.func177, Try.ntmps177
     go_wp2_with fail
     refine ok.out.mono ?_
     rintro r w' ⟨rfl, rfl⟩
     clear ok
     go_wp2_with fail
     all_goals (go_ret; exact H.out)
  ·have hE : tkE n 0 xs = 3 := by unfold tkE; rw [if_pos rfl, if_neg hn]
   have hO : tkO n 0 xs = [] := by unfold tkO; rw [if_pos rfl, if_neg hn]
   have hR : tkR n 0 xs = [] := by unfold tkR; rw [if_pos rfl, if_neg hn]
   have hf := Lib.hid (fail_at 3 h)
   obtain ⟨h1, hh, -, h3, h4, v, hs, hv⟩ := h
   have c0 : w.cell? ⟨g, 0, none⟩ = some v := hs.cell 0
   have hE' := Lib.hid (show tkE n 0 xs = 3 ∧ tkO n 0 xs = [] ∧ tkR n 0 xs = [] from ⟨hE, hO, hR⟩)
   obtain ⟨q, c, rfl⟩ : ∃ q c, v = .slice q xs.length c := by
    rcases hv with ⟨rfl, rfl⟩ | ⟨b, o, c, hb, hbh, hbg, rfl, hc, hcell⟩
    ·exact ⟨_, _, rfl⟩
    ·exact ⟨_, _, rfl⟩
   clear hv hE hO hR h3 h1 hs
   have hm1 : (xs.length : Int) < (n : Int) := by omega
   go_enter Try.func177, Try.ntmps177
   go_wp2_with fail
   refine ok.out.mono ?_
   rintro r w' ⟨rfl, rfl⟩
   clear ok
   go_wp2_with fail
   refine hf.out.mono ?_
   rintro r w2 ⟨⟨u, rfl⟩, hs, ht⟩
   have H := Lib.hid (show _ ∧ _ from ⟨hs, ht⟩)
   clear hf hs ht
   go_wp2_with fail
   go_ret
   refine ⟨_, rfl, ?_, (fun b hb => (by cases hb)), ?_, H.out.2⟩
   ·rw [hE'.out.2.1]; exact Bs.nil _
   ·rw [hE'.out.1, hE'.out.2.2]; exact H.out.1
 ·rw [decide_eq_false he] at ok
  have H := Lib.hid (show Took w lo hi g n e xs (.returned (.slice none 0 0)) w from ⟨_, rfl, by unfold tkO; rw [if_neg he]; exact Bs.nil _, (fun b hb => (by cases hb)), by unfold tkE tkR; rw [if_neg he, if_neg he]; rw [h.2.2.1 he] at h; exact h, Tr.refl _ _⟩)
  clear h
  go_enter Try.func177, Try.ntmps177
  go_wp2_with fail
  refine ok.out.mono ?_
  rintro r w' ⟨rfl, rfl⟩
  clear ok
  go_wp2_with fail
  go_ret
  exact H.out
theorem SA.len {w : World} {lo hi g : Nat} {e : Int} {xs : List Int} (h : SA w lo hi g e xs) : ∃ q c, w.cell? ⟨g, 0, none⟩ = some (.slice q xs.length c) ∨ e ≠ 0 := by
 obtain ⟨-, -, h2, -, -, v, hs, hv⟩ := h
 rcases hv with ⟨rfl, rfl⟩ | ⟨b, o, c, -, -, -, rfl, -⟩
 ·exact ⟨none, 0, .inl (hs.cell 0)⟩
 ·exact ⟨_, _, .inl (hs.cell 0)⟩
set_option maxRecDepth 100000 in
set_option maxHeartbeats 2000000 in
theorem left_at {w : World} {lo hi g : Nat} {e : Int} {xs : List Int} (h : SA w lo hi g e xs) : Calls Try.prog 64 #[.pointer (some ⟨g, 0, none⟩)] w fun r w' => r = .returned (.int .i64 ((xs.length : Nat) : Int)) ∧ w' = w := by
 have ok := Lib.hid (ok_at h)
 by_cases he : e = 0
 ·subst he
  rw [decide_eq_true rfl] at ok
  obtain ⟨q, c, c0⟩ := h.len
  replace c0 := c0.resolve_right (fun h => h rfl)
  clear h
  go_enter Try.func64, Try.ntmps64
  go_wp2_with fail
  refine ok.out.mono ?_
  rintro r w' ⟨rfl, rfl⟩
  clear ok
  go_wp2_with fail
  go_ret
  exact ⟨rfl, rfl⟩
 ·rw [decide_eq_false he] at ok
  obtain rfl := h.2.2.1 he
  clear h
  go_enter Try.func64, Try.ntmps64
  go_wp2_with fail
  refine ok.out.mono ?_
  rintro r w' ⟨rfl, rfl⟩
  clear ok
  go_wp2_with fail
  go_ret
  exact ⟨rfl, rfl⟩
theorem err_at {w : World} {lo hi g : Nat} {e : Int} {xs : List Int} (h : SA w lo hi g e xs) : Calls Try.prog 66 #[.pointer (some ⟨g, 0, none⟩)] w fun r w' => r = .returned (.int .i64 e) ∧ w' = w := by
 obtain ⟨-, -, -, -, -, v, hs, -⟩ := h
 exact err_row hs
def edE (e : Int) (xs : List Int) : Int := if 0 < xs.length then 4 else e
set_option maxRecDepth 100000 in
set_option maxHeartbeats 2000000 in
theorem end_at {w : World} {lo hi g : Nat} {e : Int} {xs : List Int} (h : SA w lo hi g e xs) : Calls Try.prog 61 #[.pointer (some ⟨g, 0, none⟩)] w fun r w' => r = .returned (.int .i64 (edE e xs)) ∧ SA w' lo hi g (edE e xs) [] ∧ Tr (fun b => b = g) w w' := by
 have lf := Lib.hid (left_at h)
 by_cases h0 : 0 < xs.length
 ·have he : e = 0 := by
   by_cases he : e = 0
   ·exact he
   ·rw [h.2.2.1 he] at h0; cases h0
  subst he
  have hE : edE 0 xs = 4 := by unfold edE; rw [if_pos h0]
  have hf := Lib.hid (fail_at 4 h)
  have h1 : (0 : Int) < (xs.length : Int) := by omega
  rw [hE]
  clear h hE h0
  go_enter Try.func61, Try.ntmps61
  go_wp2_with fail
  refine lf.out.mono ?_
  rintro r w' ⟨rfl, rfl⟩
  clear lf
  go_wp2_with fail
  refine hf.out.mono ?_
  rintro r w2 ⟨⟨u, rfl⟩, hs, ht⟩
  replace hs : SA w2 lo hi g 4 [] := by simpa using hs
  have er := Lib.hid (err_at hs)
  have H := Lib.hid (show _ ∧ _ from ⟨hs, ht⟩)
  clear hf hs ht
  go_wp2_with fail
  refine er.out.mono ?_
  rintro r w3 ⟨rfl, rfl⟩
  go_wp2_with fail
  go_ret
  exact ⟨rfl, H.out.1, H.out.2⟩
 ·have hE : edE e xs = e := by unfold edE; rw [if_neg h0]
  have h1 : xs = [] := List.eq_nil_of_length_eq_zero (by omega)
  subst h1
  rw [hE]
  have er := Lib.hid (err_at h)
  have H := Lib.hid h
  clear h hE h0
  go_enter Try.func61, Try.ntmps61
  go_wp2_with fail
  refine lf.out.mono ?_
  rintro r w' ⟨rfl, rfl⟩
  clear lf
  go_wp2_with fail
  refine er.out.mono ?_
  rintro r w3 ⟨rfl, rfl⟩
  go_wp2_with fail
  go_ret
  exact ⟨rfl, H.out, Tr.refl _ _⟩
def byO (e : Int) (xs : List Int) : Int := (tkO 1 e xs).headD 0
set_option maxRecDepth 100000 in
set_option maxHeartbeats 2000000 in
theorem byte_at {w : World} {lo hi g : Nat} {e : Int} {xs : List Int} (h : SA w lo hi g e xs) : Calls Try.prog 69 #[.pointer (some ⟨g, 0, none⟩)] w fun r w' => r = .returned (.int .u8 (byO e xs)) ∧ SA w' lo hi g (tkE 1 e xs) (tkR 1 e xs) ∧ Tr (fun b => b = g) w w' := by
 have tk := Lib.hid (take_at 1 h)
 have hlen : (tkO 1 e xs).length ≤ 1 := by
  unfold tkO
  split
  ·split
   ·rw [List.length_take]; omega
   ·exact Nat.zero_le _
  ·exact Nat.zero_le _
 unfold byO
 obtain ⟨z, hz⟩ : ∃ z, tkO 1 e xs = z := ⟨_, rfl⟩
 rw [hz] at hlen ⊢
 clear h
 rcases z with _ | ⟨y, ys⟩
 ·show Calls Try.prog 69 _ w fun r w' => r = .returned (.int .u8 0) ∧ _ ∧ _
  go_enter Try.func69, Try.ntmps69
  go_wp2_with fail
  refine tk.out.mono ?_
  rintro r w' ⟨u, rfl, hu, -, hs, ht⟩
  rw [hz] at hu
  have H := Lib.hid (show _ ∧ _ from ⟨hs, ht⟩)
  clear tk hs ht hz
  obtain ⟨q, c, rfl, -, -⟩ := hu
  go_wp2_with fail
  go_loopg [8] 0 (fun gg s8 wr => s8 = .int .i64 0 ∧ wr = w')
  case atStart => exact ⟨rfl, rfl⟩
  case round =>
   obtain ⟨rfl, rfl⟩ := hrel
   go_wp2_with fail
   go_ret
   exact ⟨rfl, H.out.1, H.out.2⟩
 ·show Calls Try.prog 69 _ w fun r w' => r = .returned (.int .u8 y) ∧ _ ∧ _
  obtain rfl : ys = [] := List.eq_nil_of_length_eq_zero (by simpa using hlen)
  go_enter Try.func69, Try.ntmps69
  go_wp2_with fail
  refine tk.out.mono ?_
  rintro r w' ⟨u, rfl, hu, -, hs, ht⟩
  rw [hz] at hu
  have H := Lib.hid (show _ ∧ _ from ⟨hs, ht⟩)
  clear tk hs ht hz
  obtain ⟨q, c, rfl, hq, hc⟩ := hu
  cases q with
  | none => cases (hq rfl).2
  | some a =>
   have k0 := hc a rfl 0 _ rfl
   rw [show a.add 0 = a from by unfold Addr.add; rfl] at k0
   clear hq hc hlen
   go_wp2_with fail
   go_loopg [8] 1 (fun gg s8 wr => gg = 1 ∧ s8 = .int .i64 0 ∧ wr = w')
   case atStart => exact ⟨rfl, rfl, rfl⟩
   case round =>
    obtain ⟨rfl, rfl, rfl⟩ := hrel
    go_wp2_with fail
    go_ret
    exact ⟨rfl, H.out.1, H.out.2⟩
end Go.Proofs.Ytpdenhmkpiafiaa
namespace Go.Proofs.Ytpdenhmkpiafiaa
open Go Go.RowKit K6
def grp (i : Nat) : List Int → Int × Nat
 | [] => (3, 0)
 | c :: cs => if i = 9 then (4, 0) else if 128 ≤ c then grp (i + 1) cs else if c = 0 ∧ 0 < i then (4, 0) else (0, i + 1)
def gval : List Int → Nat
 | [] => 0
 | c :: cs => (c % 128).toNat + 128 * gval cs
theorem grp_spec : ∀ (xs : List Int) (i : Nat), i ≤ 9 → ((grp i xs).1 = 0 ∧ i < (grp i xs).2 ∧ (grp i xs).2 ≤ 9 ∧ (grp i xs).2 ≤ i + xs.length) ∨ (((grp i xs).1 = 3 ∨ (grp i xs).1 = 4) ∧ (grp i xs).2 = 0)
 | [], i, _ => .inr ⟨.inl rfl, rfl⟩
 | c :: cs, i, h => by
  unfold grp
  by_cases h9 : i = 9
  ·rw [if_pos h9]; exact .inr ⟨.inr rfl, rfl⟩
  ·rw [if_neg h9]
   by_cases hc : 128 ≤ c
   ·rw [if_pos hc]
    rcases grp_spec cs (i + 1) (by omega) with ⟨h1, h2, h3, h4⟩ | h1
    ·refine .inl ⟨h1, by omega, h3, ?_⟩
     rw [List.length_cons]; omega
    ·exact .inr h1
   ·rw [if_neg hc]
    by_cases h0 : c = 0 ∧ 0 < i
    ·rw [if_pos h0]; exact .inr ⟨.inr rfl, rfl⟩
    ·rw [if_neg h0]
     refine .inl ⟨rfl, Nat.lt_succ_self _, ?_, ?_⟩
     ·show i + 1 ≤ 9; omega
     ·show i + 1 ≤ i + (c :: cs).length; rw [List.length_cons]; omega
theorem gval_lt : ∀ xs : List Int, gval xs < 128 ^ xs.length
 | [] => by decide
 | c :: cs => by
  have h := gval_lt cs
  rw [List.length_cons, Nat.pow_succ]
  show (c % 128).toNat + 128 * gval cs < _
  have : (c % 128).toNat < 128 := by omega
  omega
theorem gval_snoc : ∀ (xs : List Int) (c : Int), gval (xs ++ [c]) = gval xs + (c % 128).toNat * 128 ^ xs.length
 | [], c => by show (c % 128).toNat + 128 * 0 = 0 + (c % 128).toNat * 1; omega
 | x :: xs, c => by
  show (x % 128).toNat + 128 * gval (xs ++ [c]) = ((x % 128).toNat + 128 * gval xs) + (c % 128).toNat * 128 ^ (xs.length + 1)
  rw [gval_snoc xs c, Nat.pow_succ, Nat.mul_add]
  have : 128 * ((c % 128).toNat * 128 ^ xs.length) = (c % 128).toNat * (128 ^ xs.length * 128) := by
   rw [Nat.mul_comm 128, Nat.mul_assoc]
  omega
theorem gval_63 {xs : List Int} (h : xs.length ≤ 9) : gval xs < 9223372036854775808 :=
 Nat.lt_of_lt_of_le (gval_lt xs) (Nat.le_trans (Nat.pow_le_pow_right (by decide) h) (by decide))
set_option maxRecDepth 100000 in
set_option maxHeartbeats 4000000 in
theorem group_at {w : World} {lo hi g : Nat} {xs : List Int} (h : SA w lo hi g 0 xs) : Calls Try.prog 175 #[.pointer (some ⟨g, 0, none⟩)] w fun r w' => r = .returned (.int .i64 (((grp 0 xs).2 : Nat) : Int)) ∧ SA w' lo hi g (grp 0 xs).1 (if (grp 0 xs).1 = 0 then xs else []) ∧ Tr (fun b => b = g) w w' := by
 obtain ⟨ke, kn, hk⟩ : ∃ ke kn, grp 0 xs = (ke, kn) := ⟨_, _, rfl⟩
 rw [hk]
 show Calls Try.prog 175 _ w fun r w' => r = .returned (.int .i64 ((kn : Nat) : Int)) ∧ SA w' lo hi g ke (if ke = 0 then xs else []) ∧ _
 have f3 := Lib.hid (fail_at 3 h)
 have f4 := Lib.hid (fail_at 4 h)
 have H0 := Lib.hid h
 obtain ⟨-, -, -, hx, hL, v, hs, hv⟩ := h
 have c0 : w.cell? ⟨g, 0, none⟩ = some v := hs.cell 0
 clear hs
 rcases hv with ⟨rfl, rfl⟩ | ⟨b, o, c, -, -, -, rfl, hc, hcell⟩
 ·obtain ⟨rfl, rfl⟩ : 3 = ke ∧ 0 = kn := by
   have : grp 0 [] = (3, 0) := rfl
   rw [this] at hk
   injection hk with h1 h2
   exact ⟨h1, h2⟩
  clear hk hx hL
  go_enter Try.func175, Try.ntmps175
  go_wp2_with fail
  go_loopg [13] 0 (fun gg s13 wr => s13 = .int .i64 0 ∧ wr = w)
  case atStart => exact ⟨rfl, rfl⟩
  case round =>
   obtain ⟨rfl, rfl⟩ := hrel
   go_wp2_with fail
   refine f3.out.mono ?_
   rintro r w' ⟨⟨u, rfl⟩, hs, ht⟩
   have H := Lib.hid (show SA w' lo hi g 3 [] ∧ _ from ⟨by simpa using hs, ht⟩)
   clear hs ht f3 f4
   go_wp2_with fail
   go_ret
   exact ⟨rfl, by simpa using H.out.1, H.out.2⟩
 ·obtain ⟨m, hm⟩ : ∃ m, xs.length = m := ⟨_, rfl⟩
  rw [hm] at c0 hc hL
  have hf : Hid (∀ i : Nat, i < m → ∃ y : Int, xs[i]? = some y ∧ xs.drop i = y :: xs.drop (i + 1) ∧ 0 ≤ y ∧ y < 256 ∧ w.cell? ⟨b, o + i, none⟩ = some (.int .u8 y)) := Lib.hid fun i hi => by
   have h1 : xs[i]? = some (xs[i]'(by omega)) := List.getElem?_eq_getElem (by omega)
   exact ⟨_, h1, List.drop_eq_getElem_cons (by omega), (hx _ (List.getElem_mem _)).1, (hx _ (List.getElem_mem _)).2, hcell i _ h1⟩
  have hd : Hid (xs.drop m = []) := Lib.hid (List.drop_eq_nil_of_le (by omega))
  have hk0 := Lib.hid (show grp 0 (xs.drop 0) = (ke, kn) from hk)
  clear hk hx hcell hm
  go_enter Try.func175, Try.ntmps175
  go_wp2_with fail
  go_loopg [13] m (fun gg s13 wr => ∃ i : Nat, i + gg = m ∧ i ≤ 9 ∧ s13 = .int .i64 (i : Int) ∧ wr = w ∧ Hid (grp i (xs.drop i) = (ke, kn)))
  case atStart => exact ⟨0, by omega, by omega, rfl, rfl, hk0⟩
  case round =>
   obtain ⟨i, hik, hi9, rfl, rfl, hk⟩ := hrel
   by_cases him : i < m
   ·obtain ⟨y, -, hdr, hy0, hy1, cy⟩ := hf.out i him
    have hk2 := hk.out
    rw [hdr] at hk2
    unfold grp at hk2
    have hlt : (i : Int) < (m : Int) := by omega
    by_cases h9 : i = 9
    ·rw [if_pos h9] at hk2
     injection hk2 with e1 e2
     subst e1; subst e2; subst h9
     clear hdr hk hk0
     go_wp2_with fail
     refine f4.out.mono ?_
     rintro r w' ⟨⟨u, rfl⟩, hs, ht⟩
     have H := Lib.hid (show SA w' lo hi g 4 [] ∧ _ from ⟨by simpa using hs, ht⟩)
     clear hs ht f3 f4
     go_wp2_with fail
     go_ret
     exact ⟨rfl, by simpa using H.out.1, H.out.2⟩
    ·rw [if_neg h9] at hk2
     have h9' : ¬ (i : Int) = 9 := by omega
     by_cases hc1 : 128 ≤ y
     ·rw [if_pos hc1] at hk2
      have hn := Lib.hid hk2
      have wi : IntKind.i64.wrap ((i : Int) + 1) = (i : Int) + 1 := by rw [IntKind.wrap_i64]; omega
      clear hk2 hdr hk hk0
      go_wp2_with fail
      go_roundg (gk - 1)
      case measure => omega
      case rel => exact ⟨i + 1, by omega, by omega, by go_num, rfl, hn⟩
     ·rw [if_neg hc1] at hk2
      have hc2 : y < 128 := by omega
      by_cases h0 : y = 0 ∧ 0 < i
      ·rw [if_pos h0] at hk2
       injection hk2 with e1 e2
       subst e1; subst e2
       obtain ⟨rfl, h0⟩ := h0
       have hp : (0 : Int) < (i : Int) := by omega
       clear hdr hk hk0
       go_wp2_with fail
       refine f4.out.mono ?_
       rintro r w' ⟨⟨u, rfl⟩, hs, ht⟩
       have H := Lib.hid (show SA w' lo hi g 4 [] ∧ _ from ⟨by simpa using hs, ht⟩)
       clear hs ht f3 f4
       go_wp2_with fail
       go_ret
       exact ⟨rfl, by simpa using H.out.1, H.out.2⟩
      ·rw [if_neg h0] at hk2
       injection hk2 with e1 e2
       subst e1; subst e2
       have wi : IntKind.i64.wrap ((i : Int) + 1) = (i : Int) + 1 := by rw [IntKind.wrap_i64]; omega
       clear hdr hk hk0
       by_cases hy : y = 0
       ·subst hy
        obtain rfl : i = 0 := by omega
        rw [Nat.add_zero] at cy
        clear wi h0 hc1 hc2 h9 h9' hlt
        have hlt : (0 : Int) < (m : Int) := by omega
        go_wp2_with fail
        go_ret
        exact ⟨by simp, by simpa using H0.out, Tr.refl _ _⟩
       ·have hq : (y == 0) = false := by rw [beq_eq_false_iff_ne]; exact hy
        clear h0
        go_wp2_with fail
        go_ret
        exact ⟨by simp, by simpa using H0.out, Tr.refl _ _⟩
   ·obtain rfl : i = m := by omega
    have hk2 := hk.out
    rw [hd.out] at hk2
    have e : grp i [] = (3, 0) := rfl
    rw [e] at hk2
    injection hk2 with e1 e2
    subst e1; subst e2
    clear hk hk0 e hi9
    go_wp2_with fail
    refine f3.out.mono ?_
    rintro r w' ⟨⟨u, rfl⟩, hs, ht⟩
    have H := Lib.hid (show SA w' lo hi g 3 [] ∧ _ from ⟨by simpa using hs, ht⟩)
    clear hs ht f3 f4
    go_wp2_with fail
    go_ret
    exact ⟨rfl, by simpa using H.out.1, H.out.2⟩
def svE (most e : Int) (xs : List Int) : Int := if e = 0 then (if (grp 0 xs).1 = 0 then (if most < (gval (xs.take (grp 0 xs).2) : Int) then 5 else 0) else (grp 0 xs).1) else e
def svN (most e : Int) (xs : List Int) : Nat := if svE most e xs = 0 then gval (xs.take (grp 0 xs).2) else 0
def svR (most e : Int) (xs : List Int) : List Int := if svE most e xs = 0 then xs.drop (grp 0 xs).2 else []
def Varred (w : World) (lo hi g : Nat) (most e : Int) (xs : List Int) (r : Ending) (w' : World) : Prop := r = .returned (.int .i64 ((svN most e xs : Nat) : Int)) ∧ SA w' lo hi g (svE most e xs) (svR most e xs) ∧ Tr (fun b => b = g) w w'
theorem and127 {y : Int} (h0 : 0 ≤ y) (h1 : y < 256) : bits .and .u8 y 127 = (((y % 128).toNat : Nat) : Int) := by
 rw [u8_and y 127 h0 h1 (by decide) (by decide)]
 have : y.toNat &&& (127 : Int).toNat = (y % 128).toNat := by
  show y.toNat &&& 127 = _
  rw [nat_mask7]; omega
 rw [this]
theorem i64_or_nat (a b : Nat) (ha : a < 9223372036854775808) (hb : b < 9223372036854775808) : bits .or .i64 (a : Int) (b : Int) = ((a ||| b : Nat) : Int) := by
 simp only [bits]
 show IntKind.i64.wrap ((BitVec.ofInt 64 (a : Int) ||| BitVec.ofInt 64 (b : Int)).toNat : Int) = _
 rw [BitVec.toNat_or, ofInt_u64 a (by omega), ofInt_u64 b (by omega), IntKind.wrap_i64]
 have : a ||| b < 2 ^ 63 := Nat.or_lt_two_pow ha hb
 omega
theorem shl7 (z i s : Nat) (hs : z * 128 ^ i = s) (hlt : s < 9223372036854775808) : wrap64 ((z : Int) * 2 ^ (7 * i)) = (s : Int) := by
 have e2 : (z : Int) * 2 ^ (7 * i) = (s : Int) := by
  have h1 : (128 : Nat) ^ i = 2 ^ (7 * i) := by rw [Nat.pow_mul]
  rw [← hs, h1, Int.natCast_mul, Int.natCast_pow]; rfl
 rw [e2]
 unfold wrap64
 omega
theorem or_step (n z i s : Nat) (hs : z * 128 ^ i = s) (hn : n < 128 ^ i) (hlt : n + s < 9223372036854775808) : bits .or .i64 (n : Int) (s : Int) = ((n + s : Nat) : Int) := by
 rw [i64_or_nat n s (by omega) (by omega), Nat.or_comm]
 have h128 : (128 : Nat) ^ i = 2 ^ (7 * i) := by rw [Nat.pow_mul]
 rw [nat_join (7 * i) s n (by rw [← hs, h128]; exact Nat.mul_mod_left _ _) (by rw [← h128]; exact hn), Nat.add_comm]
set_option maxRecDepth 100000 in
set_option maxHeartbeats 8000000 in
theorem svar_at {w : World} {lo hi g : Nat} {e : Int} {xs : List Int} (most : Int) (h : SA w lo hi g e xs) : Calls Try.prog 60 #[.pointer (some ⟨g, 0, none⟩), .int .i64 most] w (Varred w lo hi g most e xs) := by
 have ok := Lib.hid (ok_at h)
 by_cases he : e = 0
 ·subst he
  rw [decide_eq_true rfl] at ok
  have gr := group_at h
  have hsp := grp_spec xs 0 (by omega)
  have H : ∀ r w', (r = Ending.returned (.int .i64 ((svN most 0 xs : Nat) : Int)) ∧ SA w' lo hi g (svE most 0 xs) (svR most 0 xs) ∧ Tr (fun b => b = g) w w') → Varred w lo hi g most 0 xs r w' := fun _ _ h => h
  unfold svN svR svE at H
  obtain ⟨ke, kn, hk⟩ : ∃ ke kn, grp 0 xs = (ke, kn) := ⟨_, _, rfl⟩
  rw [hk] at gr hsp
  simp only [hk] at H
  simp only at gr hsp
  have ok2 : ke ≠ 0 ∨ ke = 0 := by omega
  rcases ok2 with h1 | h1
  ·obtain rfl : kn = 0 := by rcases hsp with ⟨h2, -⟩ | ⟨-, h2⟩; exact absurd h2 h1; exact h2
   have HH := Lib.hid (fun r w' => H r w')
   simp only [if_pos, if_neg h1] at HH
   have gg := Lib.hid gr
   have hke := Lib.hid h1
   clear gr hsp H hk h
   go_enter Try.func60, Try.ntmps60
   go_wp2_with fail
   refine ok.out.mono ?_
   rintro r w' ⟨rfl, rfl⟩
   clear ok
   go_wp2_with fail
   refine gg.out.mono ?_
   rintro r w2 ⟨rfl, hs, ht⟩
   have HS := Lib.hid (show SA w2 lo hi g ke [] ∧ _ from ⟨by simpa [hke.out] using hs, ht⟩)
   clear gg hs ht
   go_wp2_with fail
   go_ret
   refine HH.out _ _ ⟨rfl, HS.out.1, HS.out.2⟩
  ·subst h1
   obtain ⟨h2, h3, h4⟩ : 0 < kn ∧ kn ≤ 9 ∧ kn ≤ xs.length := by rcases hsp with ⟨-, a, b, c⟩ | ⟨a, -⟩; exact ⟨a, b, by omega⟩; exact absurd a (by decide)
   have hlt := gval_63 (xs := xs.take kn) (by rw [List.length_take]; omega)
   have hstep : ∀ i, i < kn → ∃ y : Int, xs[i]? = some y ∧ 0 ≤ y ∧ y < 256 ∧ gval (xs.take (i + 1)) = gval (xs.take i) + (y % 128).toNat * 128 ^ i ∧ gval (xs.take i) < 128 ^ i ∧ gval (xs.take (i + 1)) < 9223372036854775808 := fun i hi => by
    have hx := h.2.2.2.1
    have hi2 : i < xs.length := by omega
    refine ⟨xs[i], List.getElem?_eq_getElem hi2, (hx _ (List.getElem_mem _)).1, (hx _ (List.getElem_mem _)).2, ?_, ?_, gval_63 (by rw [List.length_take]; omega)⟩
    ·rw [List.take_succ_eq_append_getElem hi2, gval_snoc, List.length_take, Nat.min_eq_left (by omega)]
    ·have := gval_lt (xs.take i)
     rwa [List.length_take, Nat.min_eq_left (by omega)] at this
   have hg0 : gval (xs.take 0) = 0 := rfl
   have HH := Lib.hid (fun r w' => H r w')
   simp only [if_pos] at HH
   have gg := Lib.hid gr
   have hst := Lib.hid hstep
   have hkn : ((kn : Int) == 0) = false := by rw [beq_eq_false_iff_ne]; omega
   have hkn' : ¬ (kn : Int) = 0 := by omega
   obtain ⟨G, hG⟩ : ∃ G, gval (xs.take kn) = G := ⟨_, rfl⟩
   rw [hG] at HH hlt
   have h4' := Lib.hid h4
   have hGg := Lib.hid hG
   clear gr hsp H hk hG hstep h h4
   go_enter Try.func60, Try.ntmps60
   go_wp2_with fail
   refine ok.out.mono ?_
   rintro r w' ⟨rfl, rfl⟩
   clear ok
   go_wp2_with fail
   refine gg.out.mono ?_
   rintro r w2 ⟨rfl, hs, ht⟩
   replace hs : SA w2 lo hi g 0 xs := by simpa using hs
   have ff := Lib.hid (fail_at 5 hs)
   have tk := Lib.hid (take_at kn hs)
   have HS := Lib.hid (show _ ∧ _ from ⟨hs, ht⟩)
   clear gg ht
   obtain ⟨-, -, -, -, hL, v, hs, hv⟩ := hs
   have c0 : w2.cell? ⟨g, 0, none⟩ = some v := hs.cell 0
   clear hs
   rcases hv with ⟨-, rfl⟩ | ⟨b, o, c, -, -, -, rfl, hc, hcell⟩
   ·exact absurd h4'.out (by simp; omega)
   ·have hk1 : (kn : Int) ≤ (c : Int) := by have := h4'.out; omega
    have hcl := Lib.hid hcell
    clear hcell hc hL
    go_wp2_with fail
    go_loopg [6, 23] kn (fun gg s6 s23 wr => ∃ i n : Nat, i + gg = kn ∧ s6 = .int .i64 (n : Int) ∧ s23 = .int .i64 (i : Int) ∧ wr = w2 ∧ Hid (gval (xs.take i) = n))
    case atStart => exact ⟨0, 0, by omega, rfl, rfl, rfl, Lib.hid rfl⟩
    case round =>
     obtain ⟨i, n, hin, rfl, rfl, rfl, hn⟩ := hrel
     by_cases hik : i < kn
     ·obtain ⟨y, hy, hy0, hy1, e1, e2, e3⟩ := hst.out i hik
      have cy := hcl.out i y hy
      rw [hn.out] at e1 e2
      obtain ⟨z, hz⟩ : ∃ z, (y % 128).toNat = z := ⟨_, rfl⟩
      obtain ⟨s, hs⟩ : ∃ s, z * 128 ^ i = s := ⟨_, rfl⟩
      rw [hz, hs] at e1
      rw [e1] at e3
      have hand := and127 hy0 hy1
      rw [hz] at hand
      have hor := Lib.hid (or_step n z i s hs e2 e3)
      have hw64 := Lib.hid (shl7 z i s hs (by omega))
      have hn2 := Lib.hid e1
      have hzl : z < 128 := by omega
      have wz : IntKind.i64.wrap (z : Int) = (z : Int) := by rw [IntKind.wrap_i64]; omega
      have w7 : IntKind.i64.wrap (7 * (i : Int)) = 7 * (i : Int) := by rw [IntKind.wrap_i64]; omega
      have hlt9 : (i : Int) < (kn : Int) := by omega
      clear hy hz hs e1 e2 e3 hy0 hy1
      go_wp2_with fail
      go_roundg (gk - 1)
      case measure => omega
      case rel => exact ⟨i + 1, n + s, by omega, by rw [hw64.out, hor.out], by go_num, rfl, hn2⟩
     ·obtain rfl : i = kn := by omega
      obtain rfl : n = G := hn.out.symm.trans hGg.out
      by_cases hm : most < (n : Int)
      ·have HH2 := Lib.hid HH.out
       simp only [if_pos hm] at HH2
       clear HH hst
       go_wp2_with fail
       refine ff.out.mono ?_
       rintro r w3 ⟨⟨u, rfl⟩, hs, ht⟩
       have H3 := Lib.hid (show SA w3 lo hi g 5 [] ∧ _ from ⟨by simpa using hs, ht⟩)
       clear ff hs ht
       go_wp2_with fail
       go_ret
       exact HH2.out _ _ ⟨rfl, H3.out.1, HS.out.2.trans H3.out.2⟩
      ·have HH2 := Lib.hid HH.out
       simp only [if_neg hm] at HH2
       clear HH hst
       have hm2 : (n : Int) ≤ most := by omega
       go_wp2_with fail
       refine tk.out.mono ?_
       rintro r w3 ⟨u, rfl, -, -, hs, ht⟩
       unfold tkE tkR at hs
       rw [if_pos rfl, if_pos rfl, if_pos h4'.out, if_pos h4'.out] at hs
       have H3 := Lib.hid (show _ ∧ _ from ⟨hs, ht⟩)
       clear tk hs ht
       go_wp2_with fail
       go_ret
       exact HH2.out _ _ ⟨rfl, H3.out.1, HS.out.2.trans H3.out.2⟩
 ·rw [decide_eq_false he] at ok
  have hE : svE most e xs = e := by unfold svE; rw [if_neg he]
  have H := Lib.hid (show Varred w lo hi g most e xs (.returned (.int .i64 0)) w from ⟨by unfold svN; rw [hE, if_neg he]; rfl, by rw [hE]; unfold svR; rw [hE, if_neg he]; rw [h.2.2.1 he] at h; exact h, Tr.refl _ _⟩)
  clear h hE
  go_enter Try.func60, Try.ntmps60
  go_wp2_with fail
  refine ok.out.mono ?_
  rintro r w' ⟨rfl, rfl⟩
  clear ok
  go_wp2_with fail
  go_ret
  exact H.out
end Go.Proofs.Ytpdenhmkpiafiaa
namespace Go.Proofs.Ytpdenhmkpiafiaa.K6
open Go Go.RowKit
def C7 (sh : List Sh) : Prop := ∀ s ∈ sh, ∀ t ∈ sh, s.i ≠ t.i → t.i ∈ s.kill ∨ t.i ∈ s.D ∨ ∀ k ∈ s.Li, k ∉ t.Xi
instance (sh : List Sh) : Decidable (C7 sh) := by unfold C7; infer_instance
def Cl7 (md : Region.Mode) (ops : Array Oper) (sh : List Sh) : Prop := C1 md ops sh ∧ C2 sh ∧ C3 md ops sh ∧ C4 sh ∧ C5 sh ∧ C7 sh
instance (md : Region.Mode) (ops : Array Oper) (sh : List Sh) : Decidable (Cl7 md ops sh) := by unfold Cl7; infer_instance
section
variable {P : Program} {ops : Array Oper} {md : Region.Mode} {sh : List Sh} {M : Nat → Mean} {Z : Nat → Prop} {w1 : World}
theorem Inv.quiet7 {listed : Array Bool} {g : Ghost} {w : World} (S : St sh M Z w1) (hC : Cl7 md ops sh) (I : Inv ops md sh M w1 listed g w) {i : Nat} {o : Oper} (ho : ops[i]? = some o) (hun : listed.getD i false = false)
  (hall : ∀ e ∈ o.after, Region.binds md e = true → listed.getD e.on false = true) (hi : spOf sh i = none) (x : GV) : Inv ops md sh M w1 (listed.setIfInBounds i true) (gput g i x) w := by
 have hne : ∀ k, (spOf sh k).isSome = true → k ≠ i := fun k hk e => by subst e; rw [hi] at hk; cases hk
 have hsi : ∀ s ∈ sh, s.i ≠ i := fun s hs e => by
  have : spOf sh i ≠ none := by
   unfold spOf
   intro h
   have := List.find?_eq_none.1 h s hs
   simp [e] at this
  exact this hi
 refine ⟨I.tr.mono fun b _ ⟨s, hs, hl, hx⟩ => ⟨s, hs, getD_set_true hl, hx⟩, shut_set ho I.shut hall, ⟨fun k hk hs => ?_, fun j k hj hk hsj hsk hjk => ?_⟩, fun s hs hl hk => ?_⟩
 ·rw [gput_ne (hne k hs)]
  exact I.ok.1 k ((getD_set_other (hne k hs)).symm.trans hk) hs
 ·rw [gput_ne (hne k hsk), gput_ne (hne j hsj)]
  exact I.ok.2 j k ((getD_set_other (hne j hsj)).symm.trans hj) ((getD_set_other (hne k hsk)).symm.trans hk) hsj hsk hjk
 ·rw [getD_set_other (hsi s hs)] at hl
  refine S.depF s hs g _ (fun x hx => gput_ne ?_) w (I.fact s hs hl fun j hj => ?_)
  ·rcases hx with rfl | hx
   ·exact hsi s hs
   ·rintro rfl
    have := listed_pre I.shut hl (hC.1 s hs x hx).2
    rw [hun] at this
    cases this
  ·have := hk j hj
   by_cases hji : j = i
   ·subst hji; exact hun
   ·rwa [getD_set_other hji] at this
theorem Inv.step7 {listed : Array Bool} {g : Ghost} {w w' : World} (S : St sh M Z w1) (hC : Cl7 md ops sh) (I : Inv ops md sh M w1 listed g w) {o : Oper} {s : Sh} {i : Nat} (hs : spOf sh i = some s) (ho : ops[i]? = some o) (hun : listed.getD i true = false)
  (hall : ∀ e ∈ o.after, Region.binds md e = true → listed.getD e.on false = true) (v : Value) (hL : Left M s g w v w') : Inv ops md sh M w1 (listed.setIfInBounds i true) (gput g i ⟨v, w.heap.size, w'.heap.size⟩) w' := by
 obtain ⟨hmem, rfl⟩ := spOf_spec hs
 obtain ⟨hV, hT, hF⟩ := hL
 have hun' := getD_of_true hun
 have hlt := size_of_getD hun
 have hB : w1.heap.size ≤ w.heap.size := I.tr.size
 have hXi : ∀ k ∈ s.Xi, listed.getD k false = true ∧ (spOf sh k).isSome = true := fun k hk => by
  obtain ⟨hd, hso⟩ := hC.2.2.2.1 s hmem k hk
  obtain ⟨hne, hp⟩ := hC.1 s hmem k hd
  exact ⟨(ready_pre I.shut ho hall hp).resolve_right hne, hso⟩
 refine ⟨⟨hT.os.trans I.tr.os, hT.tape.trans I.tr.tape, hT.output.trans I.tr.output, Nat.le_trans hB hT.size, fun b hb hx => ?_⟩, shut_set ho I.shut hall, ⟨fun k hk hsk => ?_, fun j k hj hk hsj hsk hjk => ?_⟩, fun t ht hl hk => ?_⟩
 ·rw [hT.block b (Nat.lt_of_lt_of_le hb hB) ?_, I.tr.block b hb fun ⟨t, ht, hl, hxt⟩ => hx ⟨t, ht, getD_set_true hl, hxt⟩]
  rintro (hx' | ⟨k, hk, h1, h2⟩)
  ·exact hx ⟨s, hmem, getD_set_self hlt, hx'⟩
  ·have := (I.ok.1 k (hXi k hk).1 (hXi k hk).2).1
   omega
 ·by_cases hki : k = s.i
  ·subst hki; simp only [gput, if_true]; exact ⟨hB, hT.size, Nat.le_refl _⟩
  ·rw [gput_ne hki]
   have := I.ok.1 k ((getD_set_other hki).symm.trans hk) hsk
   exact ⟨this.1, this.2.1, Nat.le_trans this.2.2 hT.size⟩
 ·by_cases hji : j = s.i
  ·by_cases hki : k = s.i
   ·exact absurd (hji.trans hki.symm) hjk
   ·rw [gput_ne hki, hji]
    have := I.ok.1 k ((getD_set_other hki).symm.trans hk) hsk
    simp only [gput, if_true]
    omega
  ·rw [gput_ne hji]
   have hj := (getD_set_other hji).symm.trans hj
   by_cases hki : k = s.i
   ·rw [hki]
    have := I.ok.1 j hj hsj
    simp only [gput, if_true]
    omega
   ·rw [gput_ne hki]
    exact I.ok.2 j k hj ((getD_set_other hki).symm.trans hk) hsj hsk hjk
 ·by_cases hti : t.i = s.i
  ·rw [hti]; exact hF
  ·rw [getD_set_other hti] at hl
   have hkill : s.i ∉ t.kill := fun hm => by
    have := hk _ hm
    rw [getD_set_self hlt] at this
    cases this
   have hD : ∀ x, x = t.i ∨ x ∈ t.D → x ≠ s.i := fun x hx => by
    rcases hx with rfl | hx
    ·exact hti
    ·rintro rfl
     have := listed_pre I.shut hl (hC.1 t ht _ hx).2
     rw [hun'] at this
     cases this
   have hF0 := I.fact t ht hl fun j hj => by
    have := hk j hj
    by_cases hji : j = s.i
    ·subst hji; exact hun'
    ·rwa [getD_set_other hji] at this
   refine S.depF t ht g _ (fun x hx => gput_ne (hD x hx)) w' (S.loc t ht g w w' hF0 (hT.mono fun b hb hX hLb => ?_))
   have hsep := (S.sep t ht s hmem hti).resolve_left hkill
   rcases hX with hx | ⟨k, hkx, h1, h2⟩
   ·rcases hLb with hany | hLo | ⟨k, hk, h1, h2⟩
    ·exact (hsep.2 hany).1 b hx
    ·exact hsep.1 b hLo hx
    ·have hlt := (S.xo s hmem b hx).2.2
     obtain ⟨hkD, hks⟩ := hC.2.2.2.2.1 t ht k hk
     have hkl : listed.getD k false = true := by
      rcases hkD with rfl | hkD
      ·exact hl
      ·exact listed_pre I.shut hl (hC.1 t ht _ hkD).2
     have := (I.ok.1 k hkl hks).1
     omega
   ·obtain ⟨hxl, hxs⟩ := hXi k hkx
    rcases hLb with hany | hLo | ⟨m, hm, h3, h4⟩
    ·rw [(hsep.2 hany).2] at hkx; cases hkx
    ·have hlt := S.lo t ht b hLo
     have := (I.ok.1 k hxl hxs).1
     omega
    ·obtain ⟨hmD, hms⟩ := hC.2.2.2.2.1 t ht m hm
     have hml : listed.getD m false = true := by
      rcases hmD with rfl | hmD
      ·exact hl
      ·exact listed_pre I.shut hl (hC.1 t ht _ hmD).2
     have hne : m ≠ k := fun e => by
      subst e
      rcases hC.2.2.2.2.2 t ht s hmem hti with h9 | h9 | h9
      ·exact hkill h9
      ·exact hD _ (.inr h9) rfl
      ·exact h9 m hm hkx
     have := I.ok.2 m k hml hxl hms hxs hne
     omega
theorem wp_of_outS7 (S : St sh M Z w1) (hC : Cl7 md ops sh) {listed : Array Bool} {g : Ghost} {w : World} (I : Inv ops md sh M w1 listed g w) {o : Oper} {s : Sh} {i : Nat} (hs : spOf sh i = some s) (ho : ops[i]? = some o) (hun : listed.getD i true = false)
  (hall : ∀ e ∈ o.after, Region.binds md e = true → listed.getD e.on false = true) {a : Act} {K' : Act → World → Prop} {Q' : Exit → Act → World → Prop} (hout : outS P ops md sh M Z w1 o s g a)
  (h : ∀ v w', Left M s g w v w' → K' (a.put o.dst v) w') : o.wp P a w K' Q' := by
 obtain ⟨hmem, rfl⟩ := spOf_spec hs
 have hun' := getD_of_true hun
 have hDl : ∀ k ∈ s.D, listed.getD k false = true := fun k hk => by
  obtain ⟨hne, hp⟩ := hC.1 s hmem k hk
  exact (ready_pre I.shut ho hall hp).resolve_right hne
 have hh := hout.2 w (I.kn S hun') ⟨fun k hk hsk => I.ok.1 k (hDl k hk) hsk, fun j k hj hk hsj hsk hjk => I.ok.2 j k (hDl j hj) (hDl k hk) hsj hsk hjk⟩ fun k hk => by
  obtain ⟨hkD, hks, hku⟩ := hC.2.2.1 s hmem k hk
  obtain ⟨t, ht⟩ := Option.isSome_iff_exists.1 hks
  obtain ⟨htm, rfl⟩ := spOf_spec ht
  refine I.fact t htm (hDl _ hkD) fun j hj => ?_
  rcases hku t htm rfl j hj with rfl | hp
  ·exact hun'
  ·by_cases hjl : listed.getD j false = true
   ·have := listed_pre I.shut hjl hp
    rw [hun'] at this
    cases this
   ·simpa using hjl
 unfold Oper.wp
 generalize (execOp a.eval o).run P w = r at *
 cases r with
 | ok n w' =>
  cases n <;> simp only [sUpon] at hh <;> simp only [Oper.upon]
  case enter f args =>
   refine hh.mono fun e w'' hx => ?_
   obtain ⟨v, rfl, hv⟩ := hx
   exact h v w'' hv
  all_goals exact h _ _ hh
 | halt x w' => simp only [sUpon] at hh
theorem wpAny_of_S7 (S : St sh M Z w1) (hC : Cl7 md ops sh) {Q : Ghost → Act → Prop} {Q' : Exit → Act → World → Prop}
  (hQ : ∀ g a, Q g a → ∀ w listed, Inv ops md sh M w1 listed g w → (∀ j, j < ops.size → listed.getD j false = true) → Q' .normal a w) : ∀ (fuel : Nat) (listed : Array Bool) (g : Ghost) (a : Act),
  wpAnyS P ops md sh M Z w1 Q fuel listed g a → ∀ w, Inv ops md sh M w1 listed g w → listed.size = ops.size → wpAny P md ops Q' fuel listed a w
 | 0, listed, g, a, h => fun w hI hz => ⟨h.1, hQ _ _ h.2.2 w listed hI fun j hj => (by have := h.2.1 j hj; simpa [hz, hj] using this)⟩
 | fuel + 1, listed, g, a, h => fun w hI hz => by
  refine ⟨fun h0 => absurd h0 h.1, fun i hi => ?_⟩
  have hs := h.2 i hi
  obtain ⟨hun, o', ho', hall⟩ := mem_ready.1 hi
  unfold sOp at hs
  unfold wpOp
  split
  ·rename_i ho; simp only [ho] at hs
  ·rename_i o ho
   simp only [ho] at hs
   have hoo : o' = o := by rw [ho'] at ho; exact Option.some.inj ho
   subst hoo
   cases hsp : spOf sh i with
   | some s =>
    simp only [hsp] at hs
    rw [if_pos hs.1.1]
    refine .inl (wp_of_outS7 S hC hI hsp ho' hun hall hs.1 fun v w' hL => ?_)
    have hst := hI.step7 S hC hsp ho' hun hall v hL
    have hi' := (spOf_spec hsp).2
    exact wpAny_of_S7 S hC hQ fuel _ _ _ (hs.2 ⟨v, w.heap.size, w'.heap.size⟩ hI.tr.size hL.2.1.size (by rw [← hi']; exact hL.1)) w' hst (by simpa using hz)
   | none =>
    simp only [hsp] at hs
    obtain ⟨v, hy, hK⟩ := hs
    have hq := hI.quiet7 S hC ho' (getD_of_true hun) hall hsp ⟨v, 0, 0⟩
    rcases hy with ⟨hw, hr⟩ | ⟨hw, rfl⟩
    ·rw [if_pos hw]
     refine .inl ?_
     unfold Oper.wp
     rw [hr w (hI.kn S (getD_of_true hun))]
     exact wpAny_of_S7 S hC hQ fuel _ _ _ hK w hq (by simpa using hz)
    ·rw [if_neg (by simp [hw])]
     exact wpAny_of_S7 S hC hQ fuel _ _ _ hK w hq (by simpa using hz)
theorem outS_gput7 (S : St sh M Z w1) (hC : Cl7 md ops sh) {s : Sh} (hs : s ∈ sh) {o : Oper} {a : Act} {g : Ghost} {i : Nat} (x : GV) (h : i ∉ s.D) :
  outS P ops md sh M Z w1 o s (gput g i x) a ↔ outS P ops md sh M Z w1 o s g a := by
 have hn : ∀ k ∈ s.D, gput g i x k = g k := fun k hk => gput_ne (fun e : k = i => h (by rw [← e]; exact hk))
 have hX : XX M s (gput g i x) = XX M s g := XX_congr fun k hk => hn k (hC.2.2.2.1 s hs k hk).1
 have hF : ∀ y w, (M s.i).F (gput (gput g i x) s.i y) w ↔ (M s.i).F (gput g s.i y) w := fun y w => by
  have hx : ∀ k, k = s.i ∨ k ∈ s.D → gput (gput g i x) s.i y k = gput g s.i y k := fun k hk => by
   by_cases hks : k = s.i
   ·subst hks; simp [gput]
   ·rw [gput_ne hks, gput_ne hks]
    exact hn k (hk.resolve_left hks)
  exact ⟨S.depF s hs _ _ (fun k hk => (hx k hk).symm) w, S.depF s hs _ _ hx w⟩
 have hL : ∀ w, Left M s (gput g i x) w = Left M s g w := fun w => by
  funext v w'
  unfold Left
  rw [hX]
  apply propext
  exact and_congr (V_gput S hs x h _) (and_congr Iff.rfl (hF _ _))
 have hU : ∀ k ∈ s.use, ∀ w, (M k).F (gput g i x) w ↔ (M k).F g w := fun k hk w => by
  obtain ⟨hkD, hks, _⟩ := hC.2.2.1 s hs k hk
  obtain ⟨t, ht⟩ := Option.isSome_iff_exists.1 hks
  obtain ⟨htm, rfl⟩ := spOf_spec ht
  have hx : ∀ m, m = t.i ∨ m ∈ t.D → gput g i x m = g m := fun m hm => by
   rcases hm with rfl | hm
   ·exact hn _ hkD
   ·exact hn _ (hC.2.1 s hs t htm hkD m hm)
  exact ⟨S.depF t htm _ _ (fun m hm => (hx m hm).symm) w, S.depF t htm _ _ hx w⟩
 unfold outS
 refine and_congr Iff.rfl (forall_congr' fun w => forall_congr' fun _ => ?_)
 rw [hL w]
 constructor
 ·intro hh hg hf
  exact hh (GOk.congr (fun k hk => hn k hk) hg) fun k hk => (hU k hk w).2 (hf k hk)
 ·intro hh hg hf
  exact hh (GOk.congr (fun k hk => (hn k hk).symm) hg) fun k hk => (hU k hk w).1 (hf k hk)
theorem Yields_keep7 (S : St sh M Z w1) (hC : Cl7 md ops sh) {i j : Nat} {oi oj : Oper} (hDi : ∀ s ∈ sh, s.i = i → j ∉ s.D) (hsi : ∀ cs b, oi.op ≠ .select cs b) (h3 : ∀ d, oj.dst = some d → d ∉ oi.looksAt ops)
  {g : Ghost} {a : Act} {x : GV} (y : GV) (hy : Yields P ops md sh M Z w1 oi i g a x) : Yields P ops md sh M Z w1 oi i (gput g j y) (a.put oj.dst y.v) x := by
 unfold Yields at *
 split
 ·rename_i s hs
  simp only [hs] at hy
  obtain ⟨hm, rfl⟩ := spOf_spec hs
  exact ⟨(outS_put hsi h3).2 ((outS_gput7 S hC hm y (hDi s hm rfl)).2 hy.1), hy.2.1, hy.2.2.1, (V_gput S hm y (hDi s hm rfl) x).2 hy.2.2.2⟩
 ·rename_i hs
  simp only [hs] at hy
  exact ⟨(YK_put hsi h3).2 hy.1, hy.2⟩
theorem wpAnyS_first7 (S : St sh M Z w1) (hC : Cl7 md ops sh) {Q : Ghost → Act → Prop} {i : Nat} {oi : Oper} (hi : ops[i]? = some oi) (hsel : ∀ (j : Nat) (o : Oper) cs b, ops[j]? = some o → o.op ≠ .select cs b) :
  ∀ (fuel : Nat) (listed : Array Bool) (g : Ghost) (a : Act), (∀ k, listed.getD k false = true → ∀ m, edgeB md ops k m = true → listed.getD m false = true) →
   (∀ j oj, ops[j]? = some oj → j ≠ i → listed.getD j true = false → (∀ e ∈ oj.after, Region.binds md e = true → e.on ≠ i) → oi.apart ops oj = true) →
   i ∈ Region.ready md ops listed → AllY P ops md sh M Z w1 oi i g a (fun x => wpAnyS P ops md sh M Z w1 Q fuel (listed.setIfInBounds i true) (gput g i x) (a.put oi.dst x.v)) → wpAnyS P ops md sh M Z w1 Q (fuel + 1) listed g a := by
 have hnotOf : ∀ (listed : Array Bool) (i j : Nat) (oj : Oper), listed.getD i true = false → (∀ e ∈ oj.after, Region.binds md e = true → listed.getD e.on false = true) → ∀ e ∈ oj.after, Region.binds md e = true → e.on ≠ i := by
  intro listed i j oj h0 hall e he hb heq
  have h1 := hall e he hb
  rw [heq] at h1
  rcases Nat.lt_or_ge i listed.size with h' | h'
  ·simp [h'] at h0 h1; rw [h0] at h1; cases h1
  ·simp [Array.getElem?_eq_none h'] at h1
 intro fuel
 induction fuel with
 | zero =>
  intro listed g a hsh _ hr H
  refine ⟨fun h => (by rw [h] at hr; cases hr), fun j hj => ?_⟩
  by_cases hji : j = i
  ·subst hji
   exact (sOp_iff S hi).2 H
  ·exfalso
   obtain ⟨x0, hx0⟩ := H.1
   have := ready_mono hj hji
   rw [(H.2 x0 hx0).1] at this
   cases this
 | succ fuel ih =>
  intro listed g a hsh hfree hr H
  refine ⟨fun h => (by rw [h] at hr; cases hr), fun j hj => ?_⟩
  by_cases hji : j = i
  ·subst hji
   exact (sOp_iff S hi).2 H
  ·obtain ⟨x0, hx0⟩ := H.1
   have h1 := fun x hx => (H.2 x hx).2 j (ready_mono hj hji)
   obtain ⟨hjun, oj, hoj, hall⟩ := mem_ready.1 hj
   obtain ⟨hiun, oi', hoi', halli⟩ := mem_ready.1 hr
   have hoo : oi' = oi := by rw [hoi'] at hi; exact Option.some.inj hi
   subst hoo
   have hnot := hnotOf listed i j oj hiun hall
   have hnot' := hnotOf listed j i oi' hjun halli
   have hap := hfree j oj hoj hji hjun hnot
   obtain ⟨hp1, hp2, hp3⟩ := Oper.apart_spec hap
   have hDj : ∀ s ∈ sh, s.i = j → i ∉ s.D := fun s hs e hm => by
    obtain ⟨hne, hp⟩ := hC.1 s hs i hm
    rw [e] at hp
    rcases ready_pre hsh hoj hall hp with h' | h'
    ·rw [getD_of_true hiun] at h'; cases h'
    ·exact hji h'.symm
   have hDi : ∀ s ∈ sh, s.i = i → j ∉ s.D := fun s hs e hm => by
    obtain ⟨hne, hp⟩ := hC.1 s hs j hm
    rw [e] at hp
    rcases ready_pre hsh hoi' halli hp with h' | h'
    ·rw [getD_of_true hjun] at h'; cases h'
    ·exact hji h'
   have hselj := fun cs b => hsel j oj cs b hoj
   have hseli := fun cs b => hsel i oi' cs b hoi'
   have back : ∀ x y, Yields P ops md sh M Z w1 oj j g a y → Yields P ops md sh M Z w1 oj j (gput g i x) (a.put oi'.dst x.v) y := fun x y hy =>
    Yields_keep7 S hC hDj hselj hp1 x hy
   have forth : ∀ x y, Yields P ops md sh M Z w1 oj j (gput g i x) (a.put oi'.dst x.v) y → Yields P ops md sh M Z w1 oj j g a y := fun x y hy => by
    unfold Yields at *
    split
    ·rename_i s hs
     simp only [hs] at hy
     obtain ⟨hm, e⟩ := spOf_spec hs
     subst e
     exact ⟨(outS_gput7 S hC hm x (hDj s hm rfl)).1 ((outS_put hselj hp1).1 hy.1), hy.2.1, hy.2.2.1, (V_gput S hm x (hDj s hm rfl) y).1 hy.2.2.2⟩
    ·rename_i hs
     simp only [hs] at hy
     exact ⟨(YK_put hselj hp1).1 hy.1, hy.2⟩
   refine (sOp_iff S hoj).2 ⟨?_, fun y hy => ?_⟩
   ·obtain ⟨⟨y, hy⟩, _⟩ := (sOp_iff S hoj).1 (h1 x0 hx0)
    exact ⟨y, forth x0 y hy⟩
   ·have hfree' : ∀ k ok, ops[k]? = some ok → k ≠ i → (listed.setIfInBounds j true).getD k true = false →
      (∀ e ∈ ok.after, Region.binds md e = true → e.on ≠ i) → oi'.apart ops ok = true := fun k ok hk hki hun hno => by
     refine hfree k ok hk hki ?_ hno
     by_cases hjk : j = k
     ·subst hjk; exact hjun
     ·rw [getD_set_ne true hjk] at hun; exact hun
    refine ih (listed.setIfInBounds j true) _ _ (shut_set hoj hsh hall) hfree' (ready_mono hr (Ne.symm hji)) ⟨?_, fun x hx => ?_⟩
    ·exact ⟨x0, Yields_keep7 S hC hDi hseli hp3 y hx0⟩
    ·have hx' : Yields P ops md sh M Z w1 oi' i g a x := by
      unfold Yields at *
      split
      ·rename_i s hs
       simp only [hs] at hx
       obtain ⟨hm, e⟩ := spOf_spec hs
       subst e
       exact ⟨(outS_gput7 S hC hm y (hDi s hm rfl)).1 ((outS_put hseli hp3).1 hx.1), hx.2.1, hx.2.2.1, (V_gput S hm y (hDi s hm rfl) x).1 hx.2.2.2⟩
      ·rename_i hs
       simp only [hs] at hx
       exact ⟨(YK_put hseli hp3).1 hx.1, hx.2⟩
     have := ((sOp_iff S hoj).1 (h1 x hx')).2 y (back x y hy)
     show wpAnyS P ops md sh M Z w1 Q fuel _ _ _
     rw [Array.setIfInBounds_comm _ _ hji, ← gput_comm g y x (Ne.symm hji), ← Act.put_comm a x.v y.v hp2]
     exact this
def lex67 (md : Region.Mode) (ops : Array Oper) (sh : List Sh) : Bool := Region.noSelect ops && lexFrom6 md ops ops.size 0 (Array.replicate ops.size false) && decide (Cl7 md ops sh)
theorem wpAnyS_lex7 (S : St sh M Z w1) (hC : Cl7 md ops sh) {Q : Ghost → Act → Prop} (hs : Region.noSelect ops = true) : ∀ (l : List Oper) (k : Nat) (listed : Array Bool) (g : Ghost) (a : Act), (∀ j, l[j]? = ops[k + j]?) →
  (∀ k, listed.getD k false = true → ∀ m, edgeB md ops k m = true → listed.getD m false = true) →
  lexFrom6 md ops l.length k listed = true → wpS P ops md sh M Z w1 Q k l g a → wpAnyS P ops md sh M Z w1 Q l.length listed g a
 | [], _, _, _, _, _, _, hB, h => by
  simp only [List.length_nil, lexFrom6, Bool.and_eq_true] at hB
  exact ⟨by simpa using hB.1, fun j hj => List.all_eq_true.1 hB.2 j (List.mem_range.2 hj), h⟩
 | o :: l, k, listed, g, a, hl, hsh, hB, h => by
  have h0 : ops[k]? = some o := by simpa using (hl 0).symm
  simp only [List.length_cons, lexFrom6, Bool.and_eq_true] at hB
  obtain ⟨⟨hr, hf⟩, hB'⟩ := hB
  have hr' : k ∈ Region.ready md ops listed := by simpa using hr
  obtain ⟨hun, o', ho', hall⟩ := mem_ready.1 hr'
  have hoo : o' = o := by rw [ho'] at h0; exact Option.some.inj h0
  subst hoo
  have hop : sOp P ops md sh M Z w1 k (fun g a => wpS P ops md sh M Z w1 Q (k + 1) l g a) g a := by
   unfold sOp
   simp only [h0]
   exact h
  obtain ⟨h1, h2⟩ := (sOp_iff S h0).1 hop
  refine wpAnyS_first7 S hC h0 (Region.noSelect_spec hs) l.length listed g a hsh (Region.free_spec h0 hf) hr' ⟨h1, fun x hx => ?_⟩
  exact wpAnyS_lex7 S hC hs l (k + 1) _ _ _ (fun j => by have := hl (j + 1); simpa [Nat.add_assoc, Nat.add_comm 1 j] using this) (shut_set h0 hsh hall) hB' (h2 x hx)
theorem wpAny_six7 {Q : Exit → Act → World → Prop} {a : Act} {l : List Oper} (hB : lex67 .any l.toArray sh = true) (S : St sh M Z w1)
  (h : ∀ QQ : Ghost → Act → Prop, (∀ g a', After sh M Z w1 l.length (fun a w => Q .normal a w) g a' → QQ g a') → wpS P l.toArray .any sh M Z w1 QQ 0 l (fun _ => ⟨undef, 0, 0⟩) a) :
  wpAny P .any l.toArray Q l.toArray.size (Array.replicate l.toArray.size false) a w1 := by
 simp only [lex67, Bool.and_eq_true, decide_eq_true_eq] at hB
 have hno : ∀ k, (Array.replicate l.toArray.size false).getD k false = true → False := fun k hk => by
  rw [Array.getD_eq_getD_getElem?, Array.getElem?_replicate] at hk
  split at hk <;> cases hk
 have h1 := wpAnyS_lex7 (md := .any) S hB.2 hB.1.1 l 0 (Array.replicate l.toArray.size false) (fun _ => ⟨undef, 0, 0⟩) a (by simp) (fun k hk => (hno k hk).elim) (by simpa using hB.1.2) (h _ fun _ _ h => h)
 have := wpAny_of_S7 S hB.2 (Q' := Q) (fun g a h w listed I hall => h w (I.tr.mono fun b _ ⟨s, hs, _, hx⟩ => (S.xo s hs b hx).2.1)
  ⟨fun k hk hsk => I.ok.1 k (hall k (by simpa using hk)) hsk, fun j k hj hk hsj hsk hjk => I.ok.2 j k (hall j (by simpa using hj)) (hall k (by simpa using hk)) hsj hsk hjk⟩
  fun i s hs hk hlt => (spOf_spec hs).2 ▸ I.fact s (spOf_spec hs).1 (by rw [(spOf_spec hs).2]; exact hall _ (by simpa using hlt)) fun j hj => by rw [hk] at hj; cases hj) _ _ _ _ h1 w1
  ⟨Tr.refl _ _, fun k hk => (hno k hk).elim, ⟨fun k hk => (hno k hk).elim, fun j k hj => (hno j hj).elim⟩, fun s _ hl => (hno _ hl).elim⟩ (by simp)
 simpa using this
theorem wp_region_six7 {id : Nat} {Q : Exit → Act → World → Prop} {a : Act} {w : World} {l : List Oper} (sh : List Sh) (M : Nat → Mean) (Z : Nat → Prop) (hm : P.follows .mixedOrders = true) (hB : lex67 .any l.toArray sh = true)
  (S : St sh M Z w.drew)
  (h : ∀ QQ : Ghost → Act → Prop, (∀ g a', After sh M Z w.drew l.length (fun a w => Q .normal a w) g a' → QQ g a') → wpS P l.toArray .any sh M Z w.drew QQ 0 l (fun _ => ⟨undef, 0, 0⟩) a) : (Code.region id l.toArray true).wp P Q a w :=
 wp_region_any hm (wpAny_six7 hB S h)
end
end Go.Proofs.Ytpdenhmkpiafiaa.K6
namespace Go.Proofs.Ytpdenhmkpiafiaa
open Go Go.RowKit K6 Ref
namespace K6
def sL (i t : Nat) (kill : List Nat) (n : Nat) (cs : Array Value) : Sp := (⟨i, [], [], kill, [], [i], false, false, false⟩, ⟨fun _ x => x.v = .slice (some ⟨x.lo, 0, none⟩) n n ∧ x.hi = x.lo + 1, fun g w => (g i).hi = (g i).lo + 1 ∧ Row w (g i).lo t cs, None_, None_⟩)
theorem ok_L {w1 : World} {Z : Nat → Prop} {i t n : Nat} {kill : List Nat} {cs : Array Value} : OpOk w1 Z (sL i t kill n cs) where
 some_ := fun _ => ⟨⟨.slice (some ⟨w1.heap.size, 0, none⟩) n n, w1.heap.size, w1.heap.size + 1⟩, Nat.le_refl _, Nat.le_succ _, rfl, rfl⟩
 depV := fun _ _ _ _ h => h
 depF := fun g g' hg w h => by show (g' i).hi = (g' i).lo + 1 ∧ Row w (g' i).lo t cs; rw [hg i (.inl rfl)]; exact h
 loc := fun g w w' h hT => ⟨h.1, Row.tr h.2 hT fun hn => hn (.inr (.inr ⟨i, by simp [sL], Nat.le_refl _, by have : (g i).hi = (g i).lo + 1 := h.1; omega⟩))⟩
 xo := fun _ h => h.elim
 lo := fun _ h => h.elim
theorem left_L {l : List Sp} {i t n : Nat} {kill : List Nat} {cs : Array Value} {s : Sh} (hl : look6 l s.i = (sL i t kill n cs).2) (hs : s = (sL i t kill n cs).1) {g : Ghost} {w : World} : Left (look6 l) s g w (.slice (some ⟨w.heap.size, 0, none⟩) n n) (w.alloc (.cells cs t)) := by
 unfold Left
 rw [hl]
 subst hs
 refine ⟨⟨rfl, by simp⟩, Tr.of ((Below.refl _ _).alloc (Nat.le_refl _) _), ?_⟩
 show (gput g i _ i).hi = (gput g i _ i).lo + 1 ∧ Row _ (gput g i _ i).lo t cs
 rw [gput_self]
 exact ⟨by simp, Row.new_at rfl⟩
end K6
def d32 (a j : Nat) : Nat := a / 2 ^ (32 * j) % 2 ^ 32
def ofV (a i : Nat) : List Value := (List.range (2 * i)).map fun j => .int .u32 ((d32 a j : Nat) : Int)
theorem Sl_own {w : World} {base n : Nat} {v : Value} {xs : List Nat} (h : w.ownsRow base 181 1 v n (xs.map fun x => .int .u32 ((x : Nat) : Int))) (hn : n = xs.length) : Sl w v xs := by
 subst hn
 rcases h.2 with ⟨rfl, h0⟩ | ⟨g, cap, cur, rfl, hb, hg, h1, h2, h3, h4⟩
 ·exact ⟨none, 0, by rw [h0], by omega, (fun _ => rfl), fun a ha => (by cases ha)⟩
 ·refine ⟨_, _, rfl, h1, (fun h => (by cases h)), fun a ha => ?_⟩
  cases ha
  refine ⟨g, 0, rfl, (Array.getElem?_eq_some_iff.1 hg).1, fun i hi => ?_⟩
  have h5 := h.cells (g := g) rfl i (.int .u32 ((dg xs i : Nat) : Int)) (by rw [List.getElem?_map, dg_some hi]; rfl)
  have hadd : (⟨g, 0, none⟩ : Addr).add i = ⟨g, 0 + i, none⟩ := by unfold Addr.add; split <;> simp_all
  rw [hadd] at h5
  exact h5
theorem val_d32 (a k : Nat) : val ((List.range k).map (d32 a)) = a % 2 ^ (32 * k) := by
 induction k with
 | zero => simp [val, Nat.mod_one]
 | succ k ih =>
  rw [List.range_succ, List.map_append, val_append, ih, List.length_map, List.length_range, show 32 * (k + 1) = 32 * k + 32 by omega, Nat.pow_add, Nat.mod_mul, show B ^ k = 2 ^ (32 * k) by rw [Nat.pow_mul]]
  simp [val, d32]
theorem dig_d32 (a k : Nat) : Dig ((List.range k).map (d32 a)) := by
 intro x hx
 obtain ⟨j, _, rfl⟩ := List.mem_map.1 hx
 exact Nat.mod_lt _ (by decide)
theorem ofV_map (a i : Nat) : ofV a i = ((List.range (2 * i)).map (d32 a)).map fun x => .int .u32 ((x : Nat) : Int) := by
 unfold ofV
 rw [List.map_map]
 rfl
theorem ofV_succ (a i : Nat) : ofV a (i + 1) = ofV a i ++ [.int .u32 ((d32 a (2 * i) : Nat) : Int), .int .u32 ((d32 a (2 * i + 1) : Nat) : Int)] := by
 unfold ofV
 rw [show 2 * (i + 1) = 2 * i + 1 + 1 by omega, List.range_succ, List.range_succ]
 simp
theorem lo32 (a i : Nat) : IntKind.u32.wrap (wordsOf a i) = ((d32 a (2 * i) : Nat) : Int) := by
 unfold wordsOf d32
 rw [show 32 * (2 * i) = 64 * i by omega, IntKind.wrap_u32]
 have : a / 2 ^ (64 * i) % 2 ^ 64 % 2 ^ 32 = a / 2 ^ (64 * i) % 2 ^ 32 := Nat.mod_mod_of_dvd _ (by decide)
 rw [← this]
 omega
theorem hi32 (a i : Nat) : IntKind.u32.wrap (wordsOf a i / 4294967296) = ((d32 a (2 * i + 1) : Nat) : Int) := by
 unfold wordsOf d32
 rw [show 32 * (2 * i + 1) = 64 * i + 32 by omega, Nat.pow_add, ← Nat.div_div_eq_div_mul, IntKind.wrap_u32]
 generalize a / 2 ^ (64 * i) = x
 omega
set_option maxRecDepth 100000 in
set_option maxHeartbeats 4000000 in
theorem of164 (a : Nat) (ha : a < M) (w : World) :
  Calls Try.prog 164 #[.agg (W4 a)] w fun e w' => ∃ v, e = .returned v ∧ Sl w' v (digs a) ∧ Below w.heap.size w w' := by
 go_enter Try.func164, Try.ntmps164
 go_wp2_with fail
 go_loopg [3, 4] 4 (fun gg s3 s4 wr => ∃ i, i + gg = 4 ∧ s4 = .int .i64 ((i : Nat) : Int) ∧ Below w.heap.size w wr ∧ Row wr w.heap.size 31 (W4 a) ∧ wr.ownsRow (w.heap.size + 1) 181 1 s3 (2 * i) (ofV a i))
 case atStart => exact ⟨0, rfl, rfl, by go_grown, Row.new_at rfl, by simp [ofV, World.ownsRow]⟩
 case round =>
  obtain ⟨i, hi, rfl, hl, r0, ho⟩ := hrel
  by_cases hlt : i < 4
  ·have H := Lib.hid (show _ ∧ _ ∧ _ from ⟨hl, r0, ho⟩)
   clear hl r0 ho
   have hd : decide ((i : Int) < 4) = true := by simp; omega
   go_upto_region 5 with (fail)
   obtain ⟨hl, r0, ho⟩ := H.out
   refine wp_abs (fun w5 => Below w.heap.size w w5 ∧ Row w5 w.heap.size 31 (W4 a) ∧ w5.ownsRow (w.heap.size + 1) 181 1 u3 (2 * i) (ofV a i)) ⟨hl, r0, ho⟩ ?_
   clear hl r0 ho H
   rintro w5 ⟨hl, r0, ho⟩
   obtain ⟨x0, hx0⟩ : ∃ x, IntKind.u32.wrap (wordsOf a i) = x := ⟨_, rfl⟩
   obtain ⟨x1, hx1⟩ : ∃ x, IntKind.u32.wrap (wordsOf a i / 4294967296) = x := ⟨_, rfl⟩
   have hI : (i : Int) < 4 := by omega
   have hown : ∀ b, u3.ownBlock = some b → u3.ownBlock = some b ∧ b < w5.heap.size := fun b hb => ⟨hb, (ho.lt b hb).2⟩
   let L : List Sp := [sL 10 181 [] 2 #[.int .u32 (x0), .int .u32 (x1)], sP 11 [10] [10] (w.heap.size + 1) 181 u3 (2 * i + 2) (ofV a (i + 1))]
   refine wp_region_six (shs L) (look6 L) (fun b => u3.ownBlock = some b) (by kernel_rfl) (by kernel_rfl) (mk_St L [11] [11] (by kernel_rfl) (by kernel_rfl) ⟨ok_L, ok_P hown, trivial⟩ (by simp)) ?_
   intro QQ hQ
   iterate 3 (refine stepK rfl (by kernel_rfl) (fun K hK => ?_); go_simp; apply Exists.intro; apply And.intro; (focus (intro wk hk; go_simp; exact ⟨rfl, rfl⟩)); refine hK _ _ ?_; clear hK K)
   refine stepK rfl (by kernel_rfl) (fun K hK => ?_); go_simp
   apply Exists.intro; apply And.intro; (focus (intro wk hk; have cc := (K6.Row.tr r0 hk.undrew id).at_ i (by omega); go_simp; exact ⟨rfl, rfl⟩)); refine hK _ _ ?_; clear hK K
   iterate 3 (refine stepK rfl (by kernel_rfl) (fun K hK => ?_); go_simp; apply Exists.intro; apply And.intro; (focus (intro wk hk; go_simp; exact ⟨rfl, rfl⟩)); refine hK _ _ ?_; clear hK K)
   refine stepK rfl (by kernel_rfl) (fun K hK => ?_); go_simp
   apply Exists.intro; apply And.intro; (focus (intro wk hk; have cc := (K6.Row.tr r0 hk.undrew id).at_ i (by omega); go_simp; exact ⟨rfl, rfl⟩)); refine hK _ _ ?_; clear hK K
   iterate 2 (refine stepK rfl (by kernel_rfl) (fun K hK => ?_); go_simp; apply Exists.intro; apply And.intro; (focus (intro wk hk; go_simp; exact ⟨rfl, rfl⟩)); refine hK _ _ ?_; clear hK K)
   refine stepS _ rfl (by kernel_rfl) (fun K hK => ?_); go_simp
   refine ⟨?_, ?_⟩
   ·intro wk hk hg hu; go_simp; exact left_L rfl rfl
   rintro ⟨v10, lo10, hi10⟩ hlo10 hhi10 ⟨e10, f10⟩
   replace e10 : v10 = .slice (some ⟨lo10, 0, none⟩) 2 2 := e10; replace f10 : hi10 = lo10 + 1 := f10; replace hlo10 : _ ≤ lo10 := hlo10; subst e10; subst f10
   refine hK _ _ ?_; clear hK K
   refine stepS _ rfl (by kernel_rfl) (fun K hK => ?_); go_simp
   refine ⟨?_, ?_⟩
   ·intro wk hk hg hu; have u10 := hu 10 (show 10 ∈ [10] by decide); have r10 : Row wk lo10 181 #[.int .u32 x0, .int .u32 x1] := u10.2; have how := own_tr ho hk.undrew (fun _ _ => id); obtain ⟨v2, w2, hrun, ho2, hgb, -, hw2⟩ := run_append_own_at (P := Try.prog) wk (w.heap.size + 1) 153 153 181 _ _ 1 4 rfl rfl rfl rfl rfl rfl (by decide) u3 (2 * i) (ofV a i) how ⟨lo10, 0, none⟩ 2 2 [.int .u32 x0, .int .u32 x1] rfl (by intro j u hj; match j, hj with | 0, hj => (cases hj; exact r10.cell 0) | 1, hj => (cases hj; exact r10.cell 1)) (by simp [Value.oneCell']) (by simp only [maxLen]; omega) (by omega) (by have h1 := r0.lt; have h2 := hk.undrew.size; omega); rw [run_append_op rfl rfl rfl hrun]; exact left_P rfl rfl hgb (by rw [ofV_succ, ← lo32, ← hi32, hx0, hx1]; exact ho2) hw2
   rintro ⟨v11, lo11, hi11⟩ - - hG11
   refine hK _ _ ?_; clear hK K
   refine stepKz rfl (fun K hK => ?_); go_simp
   apply Exists.intro; apply And.intro; (focus (intro wk hk; go_simp; exact ⟨rfl, rfl⟩)); refine hK _ _ ?_; clear hK K
   refine stepN ?_
   refine hQ _ _ ?_
   intro w6 hT hG hF
   have hO : w6.ownsRow (w.heap.size + 1) 181 1 v11 (2 * i + 2) (ofV a (i + 1)) := (hF 11 _ rfl rfl (by decide)).2
   have hT2 := hT.undrew
   have hl6 : Below w.heap.size w w6 := hl.trans (hT2.below_of hl.size (by intro c hc; have := (ho.lt c hc).1; omega))
   have r6 : Row w6 w.heap.size 31 (W4 a) := K6.Row.tr r0 hT2 (fun hc => by have := (ho.lt _ hc).1; omega)
   have H := Lib.hid (show _ ∧ _ ∧ _ from ⟨hl6, r6, hO⟩)
   clear hT hT2 hG hF hQ QQ L hO hl6 r6 hl r0 ho hown hG11
   go_wp2_with fail
   go_roundg (gk - 1)
   case measure => omega
   case rel => exact ⟨i + 1, by omega, by go_num, H.out.1, H.out.2.1, H.out.2.2⟩
  ·obtain rfl : i = 4 := by omega
   have hS : Sl wr u3 ((List.range 8).map (d32 a)) := Sl_own (base := w.heap.size + 1) (n := 2 * 4) (by rw [← ofV_map a 4]; exact ho) (by simp)
   have hT := trim_any u3 _ wr (dig_d32 a 8) hS (by simp)
   rw [val_d32, Nat.mod_eq_of_lt (show a < 2 ^ (32 * 8) from ha)] at hT
   have HT := Lib.hid hT
   clear hS hT r0 ho
   go_wp2_with fail
   refine HT.out.mono ?_
   rintro e w' ⟨rfl, u, rfl, hu⟩
   go_wp2_with fail
   go_ret
   exact ⟨_, rfl, hu, hl⟩
end Go.Proofs.Ytpdenhmkpiafiaa
