/-
  The reference of chapter 01: digits, trim, append; slices of bytes.
-/
import Derived.Test.YtpdenhmkpiafiaaGA
import Derived.Test.YtpdenhmkpiafiaaGC
import Derived.Test.YtpdenhmkpiafiaaGB
import Derived.Maps.AppendAt
import Derived.Laws.BytesArg

/-! RefPlain: The reference of chapter 01, plain: rows of 32-bit digits, the least first. -/
namespace Go.Proofs.Ytpdenhmkpiafiaa.Ref

/-- The base of the reference's digits. -/
abbrev B : Nat := 2 ^ 32

def val : List Nat → Nat
  | [] => 0
  | d :: r => d + B * val r

def Dig (xs : List Nat) : Prop := ∀ x ∈ xs, x < B

def digs (n : Nat) : List Nat :=
  if _h : n = 0 then [] else n % B :: digs (n / B)
termination_by n
decreasing_by exact Nat.div_lt_self (Nat.pos_of_ne_zero _h) (by decide)

theorem digs_zero : digs 0 = [] := by unfold digs; simp
theorem digs_pos {n : Nat} (h : n ≠ 0) : digs n = n % B :: digs (n / B) := by
  rw [digs]; simp [h]

theorem dig_digs (n : Nat) : Dig (digs n) := by
  induction n using Nat.strongRecOn with
  | _ n ih =>
    by_cases h : n = 0
    · subst h; rw [digs_zero]; intro x hx; cases hx
    · rw [digs_pos h]
      intro x hx
      cases hx with
      | head => exact Nat.mod_lt _ (by decide)
      | tail _ hx => exact ih (n / B) (Nat.div_lt_self (Nat.pos_of_ne_zero h) (by decide)) x hx

theorem val_digs (n : Nat) : val (digs n) = n := by
  induction n using Nat.strongRecOn with
  | _ n ih =>
    by_cases h : n = 0
    · subst h; rw [digs_zero]; rfl
    · rw [digs_pos h, val, ih (n / B) (Nat.div_lt_self (Nat.pos_of_ne_zero h) (by decide))]
      exact Nat.mod_add_div n B

theorem val_append (xs ys : List Nat) : val (xs ++ ys) = val xs + B ^ xs.length * val ys := by
  induction xs with
  | nil => simp [val]
  | cons d r ih =>
    rw [List.cons_append, val, val, ih, List.length_cons, Nat.pow_succ, Nat.mul_add, ← Nat.add_assoc,
      Nat.mul_comm (B ^ r.length) B, Nat.mul_assoc]

theorem val_lt {xs : List Nat} (h : Dig xs) : val xs < B ^ xs.length := by
  induction xs with
  | nil => exact Nat.one_pos
  | cons d r ih =>
    have hd : d < B := h d (List.mem_cons_self ..)
    have hr := ih (fun x hx => h x (List.mem_cons_of_mem _ hx))
    rw [val, List.length_cons, Nat.pow_succ, Nat.mul_comm (B ^ r.length) B]
    have : B * (val r + 1) ≤ B * B ^ r.length := Nat.mul_le_mul_left B hr
    rw [Nat.mul_add] at this
    omega

/-- A row of digits without a nought at its end is the digits of what it says. -/
theorem digs_val {xs : List Nat} (h : Dig xs)
    (hl : ∀ y, xs.getLast? = some y → y ≠ 0) : xs = digs (val xs) := by
  induction xs with
  | nil => rw [val, digs_zero]
  | cons d r ih =>
    have hd : d < B := h d (List.mem_cons_self ..)
    have hr := ih (fun x hx => h x (List.mem_cons_of_mem _ hx)) (by
      intro y hy
      apply hl y
      cases r with
      | nil => simp at hy
      | cons e q => rw [List.getLast?_cons_cons]; exact hy)
    have hq : (d + B * val r) / B = val r := by
      rw [Nat.add_mul_div_left _ _ (by decide : 0 < B), Nat.div_eq_of_lt hd, Nat.zero_add]
    have hm : (d + B * val r) % B = d := by
      rw [Nat.add_mul_mod_self_left, Nat.mod_eq_of_lt hd]
    have hn : d + B * val r ≠ 0 := by
      intro h0
      have hd0 : d = 0 := by omega
      cases r with
      | nil => exact hl d (by simp) hd0
      | cons e q =>
        have hv : val (e :: q) = 0 := by
          have : B * val (e :: q) = 0 := by omega
          rcases Nat.mul_eq_zero.mp this with h1 | h1
          · exact absurd h1 (by decide)
          · exact h1
        rw [hv, digs_zero] at hr
        cases hr
    rw [val, digs_pos hn, hm, hq, ← hr]

theorem take_val {xs : List Nat} {n : Nat} (h0 : xs[n]? = some 0) :
    val (xs.take (n + 1)) = val (xs.take n) := by
  rw [List.take_add_one, h0, val_append]
  simp [val]

/-- What the cut slice holds when the loop ends. -/
theorem trim_end {xs : List Nat} {n : Nat} (hD : Dig xs) (hn : n ≤ xs.length)
    (hv : val (xs.take n) = val xs) (hl : n = 0 ∨ xs[n - 1]? ≠ some 0) :
    xs.take n = digs (val xs) := by
  rw [← hv]
  apply digs_val (fun x hx => hD x (List.mem_of_mem_take hx))
  intro y hy h0
  subst h0
  rcases hl with h | h
  · subst h; simp at hy
  · apply h
    rw [List.getLast?_eq_getElem?, List.length_take, Nat.min_eq_left hn, List.getElem?_take] at hy
    split at hy
    · exact hy
    · cases hy

theorem digs_len {n k : Nat} (h : n < B ^ k) : (digs n).length ≤ k := by
  induction k generalizing n with
  | zero =>
    have : n = 0 := by rw [Nat.pow_zero] at h; omega
    subst this; rw [digs_zero]; exact Nat.le_refl 0
  | succ k ih =>
    by_cases h0 : n = 0
    · subst h0; rw [digs_zero]; exact Nat.zero_le _
    · rw [digs_pos h0, List.length_cons]
      apply Nat.succ_le_succ
      apply ih
      rw [Nat.pow_succ, Nat.mul_comm] at h
      exact Nat.div_lt_of_lt_mul h

end Go.Proofs.Ytpdenhmkpiafiaa.Ref

/-! RefTrim: The reference of chapter 01: slices of 32-bit digits; trim (197). -/
namespace Go.Proofs.Ytpdenhmkpiafiaa
open Go Go.RowKit Ref

/-- digit i of a row, nought behind its end -/
def dg (xs : List Nat) (i : Nat) : Nat := xs.getD i 0
theorem dg_some {xs : List Nat} {i : Nat} (h : i < xs.length) : xs[i]? = some (dg xs i) := by
  unfold dg
  rw [List.getD_eq_getElem?_getD, List.getElem?_eq_getElem h, Option.getD_some]
theorem dg_take {xs : List Nat} {n i : Nat} (h : i < n) : dg (xs.take n) i = dg xs i := by
  unfold dg
  rw [List.getD_eq_getElem?_getD, List.getD_eq_getElem?_getD, List.getElem?_take, if_pos h]

/-- a slice value reads as these digits -/
def Sl (w : World) (v : Value) (xs : List Nat) : Prop :=
  ∃ r c, v = .slice r xs.length c ∧ xs.length ≤ c ∧ (r = none → c = 0) ∧ ∀ a, r = some a → ∃ g o, a = ⟨g, o, none⟩ ∧ g < w.heap.size ∧ ∀ i, i < xs.length → w.cell? ⟨g, o + i, none⟩ = some (.int .u32 ((dg xs i : Nat) : Int))
theorem Sl.below {w w' : World} {v : Value} {xs : List Nat} (h : Sl w v xs) (hb : Below w.heap.size w w') : Sl w' v xs := by
  obtain ⟨r, c, e, hc, h0, h1⟩ := h
  refine ⟨r, c, e, hc, h0, fun a ha => ?_⟩
  obtain ⟨g, o, e, hg, hi⟩ := h1 a ha
  exact ⟨g, o, e, Nat.lt_of_lt_of_le hg hb.size, fun i h => ((bcell hb).1 g (o + i) hg).trans (hi i h)⟩
/-- the slice cut short -/
theorem Sl.cut {w : World} {r : Option Addr} {n c k : Nat} {xs : List Nat} (h : Sl w (.slice r n c) xs) (hk : k ≤ n) : Sl w (.slice r k c) (xs.take k) := by
  obtain ⟨r', c', e, hc, h0, h1⟩ := h
  cases e
  have hl : (xs.take k).length = k := by rw [List.length_take]; omega
  refine ⟨r, c, by rw [hl], by omega, h0, fun a ha => ?_⟩
  obtain ⟨g, o, e, hg, hi⟩ := h1 a ha
  refine ⟨g, o, e, hg, fun i hi' => ?_⟩
  rw [hl] at hi'
  rw [dg_take hi']
  exact hi i (by omega)

set_option maxRecDepth 100000 in
set_option maxHeartbeats 2000000 in
theorem trim_any (v : Value) (xs : List Nat) (w : World) (hD : Dig xs) (hs : Sl w v xs) (hL : xs.length < 1099511627776) :
    Calls Try.prog 197 #[v] w fun e w' => w' = w ∧ ∃ u, e = .returned u ∧ Sl w u (digs (val xs)) := by
  have hs' := hs
  obtain ⟨r, c, rfl, hc, hr0, hr⟩ := hs'
  obtain ⟨n, hn⟩ : ∃ n, xs.length = n := ⟨_, rfl⟩
  rw [hn] at hc hr hL hs ⊢
  have HS := Lib.hid hs
  clear hs
  go_enter Try.func197, Try.ntmps197
  go_wp2_with fail
  go_loopg [3] n (fun gg s3 wr => gg ≤ n ∧ s3 = .int .i64 (gg : Int) ∧ wr = w ∧ val (xs.take gg) = val xs)
  case atStart => exact ⟨Nat.le_refl _, rfl, rfl, by rw [← hn, List.take_length]⟩
  case round =>
    obtain ⟨hk, rfl, rfl, hv⟩ := hrel
    rcases Nat.eq_zero_or_pos gk with h0 | h0
    · subst h0
      have HV := Lib.hid hv
      clear hv hr
      go_wp2_with fail
      go_ret
      refine ⟨rfl, _, rfl, ?_⟩
      rw [← trim_end hD (by omega) HV.out (Or.inl rfl)]
      exact HS.out.cut (Nat.zero_le _)
    · obtain ⟨g, o, ha, hg, hcell⟩ : ∃ g o, r = some ⟨g, o, none⟩ ∧ g < wr.heap.size ∧ ∀ i, i < n → wr.cell? ⟨g, o + i, none⟩ = some (.int .u32 ((dg xs i : Nat) : Int)) := by
        cases r with
        | none => exfalso; have := hr0 rfl; omega
        | some a => obtain ⟨g, o, e, h⟩ := hr a rfl; exact ⟨g, o, by rw [e], h⟩
      subst ha
      obtain ⟨j, rfl⟩ : ∃ j, gk = j + 1 := ⟨gk - 1, by omega⟩
      have cj := hcell j (by omega)
      have e1 : ((j : Int) + 1) - 1 = (j : Int) := by omega
      clear hr hcell hr0
      have hds := dg_some (xs := xs) (i := j) (by omega)
      obtain ⟨y, hy⟩ : ∃ y, dg xs j = y := ⟨_, rfl⟩
      rw [hy] at cj hds
      have HV := Lib.hid hv
      clear hv hy
      by_cases hz : y = 0
      · subst hz
        have HY := Lib.hid hds
        clear hds
        go_wp2_with fail
        go_roundg j
        case measure => omega
        case rel => exact ⟨by omega, rfl, rfl, by rw [← HV.out]; exact (take_val HY.out).symm⟩
      · have hz' : ((y : Int) == 0) = false := by simp; omega
        have HZ := Lib.hid hz
        have HY := Lib.hid hds
        clear hds hz
        go_wp2_with fail
        go_ret
        refine ⟨rfl, _, rfl, ?_⟩
        rw [← trim_end hD (by omega) HV.out (Or.inr (by rw [show j + 1 - 1 = j by omega, HY.out]; intro h; exact HZ.out (Option.some.inj h)))]
        exact HS.out.cut hk
end Go.Proofs.Ytpdenhmkpiafiaa

/-! R6W: THE LAW K6 MADE READY, ITS SECOND PART: what the calls over numbers of four words yield. -/
namespace Go.Proofs.Ytpdenhmkpiafiaa
open Go Go.RowKit K6

def PairV (n : Nat) (ok : Bool) (v : Value) : Prop := ∃ x0 x1 x2 x3 : Int, v = .tuple #[.agg #[.int .u64 x0, .int .u64 x1, .int .u64 x2, .int .u64 x3], .bool ok] ∧ IsW x0 x1 x2 x3 n
def OneV (n : Nat) (v : Value) : Prop := ∃ x0 x1 x2 x3 : Int, v = .agg #[.int .u64 x0, .int .u64 x1, .int .u64 x2, .int .u64 x3] ∧ IsW x0 x1 x2 x3 n
def TripV (q r : Nat) (ok : Bool) (v : Value) : Prop := ∃ x0 x1 x2 x3 y0 y1 y2 y3 : Int, v = .tuple #[.agg #[.int .u64 x0, .int .u64 x1, .int .u64 x2, .int .u64 x3], .agg #[.int .u64 y0, .int .u64 y1, .int .u64 y2, .int .u64 y3], .bool ok] ∧ IsW x0 x1 x2 x3 q ∧ IsW y0 y1 y2 y3 r
theorem pairV_some {n : Nat} (h : n < M) (ok : Bool) : ∃ v, PairV n ok v := ⟨_, _, _, _, _, rfl, wordsOf_isW n h⟩
theorem oneV_some {n : Nat} (h : n < M) : ∃ v, OneV n v := ⟨_, _, _, _, _, rfl, wordsOf_isW n h⟩
theorem tripV_some {q r : Nat} (h : q < M) (h' : r < M) (ok : Bool) : ∃ v, TripV q r ok v := ⟨_, _, _, _, _, _, _, _, _, rfl, wordsOf_isW q h, wordsOf_isW r h'⟩
theorem M_pos : 0 < M := by unfold M; omega
theorem add_lt (a b : Nat) : addN a b < M := by
  unfold addN; split
  · assumption
  · exact M_pos
theorem mul_lt (a b : Nat) : mulN a b < M := by
  unfold mulN; split
  · assumption
  · exact M_pos
theorem any_some (w1 : World) : ∃ x : GV, w1.heap.size ≤ x.lo ∧ x.lo ≤ x.hi ∧ True := ⟨⟨undef, w1.heap.size, w1.heap.size⟩, Nat.le_refl _, Nat.le_refl _, trivial⟩
/-- the cells of a whole value -/
def aggOf (g : Ghost) (k : Nat) : Array Value := match (g k).v with | .agg cs => cs | _ => #[]
theorem aggOf_congr {k : Nat} (g g' : Ghost) (h : ∀ x ∈ [k], g' x = g x) : aggOf g' k = aggOf g k := by unfold aggOf; rw [h k (by simp)]
/-- the cells of a whole value behind a number -/
theorem Row.four4' {w : World} {g t : Nat} {x0 x1 x2 x3 : Int} (h : Row w g t #[.int .u64 x0, .int .u64 x1, .int .u64 x2, .int .u64 x3]) : Row w g t (arr .u64 (sel4 x0 x1 x2 x3) 4) := h
/-- what is written below is as it was -/
theorem Mem.of {w wc w' : World} {L : List (Nat × Nat × Array Value)} {X : Nat → Prop} (h : Mem w [] wc) (hT : Tr X wc w') (hx : ∀ c, X c → w.heap.size ≤ c) (hr : RowL L w') : Mem w L w' := ⟨h.1.trans (hT.below_of h.1.size hx), hr⟩
end Go.Proofs.Ytpdenhmkpiafiaa

/-! RefApp: append onto a slice of the call's own, as a listed operation of the region law K6. -/
namespace Go.Proofs.Ytpdenhmkpiafiaa.K6
open Go Go.RowKit

theorem own_tr {X : Nat → Prop} {w w' : World} {base e size n : Nat} {v : Value} {zs : List Value} (h : w.ownsRow base e size v n zs) (hT : Tr X w w') (hx : ∀ b, v.ownBlock = some b → ¬ X b) : w'.ownsRow base e size v n zs := by
  refine ⟨h.1, ?_⟩
  rcases h.2 with hn | ⟨g, cap, cur, rfl, hb, hgg, rest⟩
  · exact .inl hn
  · refine .inr ⟨g, cap, cur, rfl, hb, ?_, rest⟩
    rw [hT.block g (Array.getElem?_eq_some_iff.1 hgg).1 (hx g rfl)]
    exact hgg

/-- where the grown slice lies: in the old one's block, or in a new one -/
def Grew (v : Value) (x : GV) : Prop := x.v.ownBlock = v.ownBlock ∨ (x.v.ownBlock = some x.lo ∧ x.lo < x.hi)
/-- append onto the slice v of the call's own: it then holds zs -/
def sP (i : Nat) (D use : List Nat) (base e : Nat) (v : Value) (n : Nat) (zs : List Value) : Sp :=
  (⟨i, D, use, [], [], [i], false, true, true⟩, ⟨fun _ x => Grew v x, fun g w => Grew v (g i) ∧ w.ownsRow base e 1 (g i).v n zs, fun b => v.ownBlock = some b, fun b => v.ownBlock = some b⟩)
theorem ok_P {w1 : World} {Z : Nat → Prop} {i : Nat} {D use : List Nat} {base e : Nat} {v : Value} {n : Nat} {zs : List Value} (hv : ∀ b, v.ownBlock = some b → Z b ∧ b < w1.heap.size) : OpOk w1 Z (sP i D use base e v n zs) where
  some_ := fun _ => ⟨⟨v, w1.heap.size, w1.heap.size⟩, Nat.le_refl _, Nat.le_refl _, .inl rfl⟩
  depV := fun _ _ _ _ h => h
  depF := fun g g' hg w h => by
    show Grew v (g' i) ∧ w.ownsRow base e 1 (g' i).v n zs
    rw [hg i (.inl rfl)]; exact h
  loc := fun g w w' h hT => by
    refine ⟨h.1, own_tr h.2 hT fun b hb hn => hn ?_⟩
    rcases h.1 with h1 | ⟨h1, h2⟩
    · rw [h1] at hb; exact .inr (.inl hb)
    · rw [h1] at hb
      cases hb
      exact .inr (.inr ⟨i, by simp [sP], Nat.le_refl _, h2⟩)
  xo := fun b hb => ⟨rfl, hv b hb⟩
  lo := fun b hb => ⟨rfl, (hv b hb).2⟩
theorem left_P {l : List Sp} {i : Nat} {D use : List Nat} {base e : Nat} {v : Value} {n : Nat} {zs : List Value} {s : Sh} (hl : look6 l s.i = (sP i D use base e v n zs).2) (hs : s = (sP i D use base e v n zs).1) {g : Ghost} {w w' : World} {v' : Value}
    (hg : w.grownBy w' v.ownBlock) (ho : w'.ownsRow base e 1 v' n zs) (hw : v'.ownBlock = v.ownBlock ∨ v'.ownBlock = some w.heap.size) : Left (look6 l) s g w v' w' := by
  have hG : Grew v ⟨v', w.heap.size, w'.heap.size⟩ := by
    rcases hw with h | h
    · exact .inl h
    · exact .inr ⟨h, (ho.lt _ h).2⟩
  unfold Left
  rw [hl]
  subst hs
  refine ⟨hG, ⟨hg.os, hg.tape, hg.output, hg.size, fun b hb hx => hg.block b hb fun hn => hx (.inl (by rw [hl]; exact hn.symm))⟩, ?_⟩
  show Grew v (gput g i _ i) ∧ w'.ownsRow base e 1 (gput g i _ i).v n zs
  rw [gput_self]
  exact ⟨hG, ho⟩
theorem run_append_op {P : Program} {o : Oper} {a : Act} {x y : Operand} {t : TypeId} {v u v2 : Value} {w w2 : World} (ho : o.op = .call { callee := .builtin .append, args := #[x, y], argTypes := #[t, t] }) (hx : a.eval x = v) (hy : a.eval y = u)
    (hrun : (Builtin.append_ #[t, t] o.type #[v, u]).run P w = .ok v2 w2) : (execOp a.eval o).run P w = .ok (.value v2) w2 := by
  unfold execOp
  simp only [ho, resolve, invoke, builtin, Sem.run_bind, Sem.run_pure, Result.andThen_ok, List.map_toArray, List.map_cons, List.map_nil, hx, hy, hrun]
end Go.Proofs.Ytpdenhmkpiafiaa.K6

/-! OctK: Slices of bytes of the call's own, as listed operations of the region law K6: a call that returns one, and append onto one that an operation of the same region returned. -/
namespace Go.Proofs.Ytpdenhmkpiafiaa
open Go Go.RowKit K6

/-- bytes as values -/
def bv (xs : List Int) : List Value := xs.map (Value.int .u8)
theorem bv_len (xs : List Int) : (bv xs).length = xs.length := List.length_map ..
theorem bv_app (xs ys : List Int) : bv (xs ++ ys) = bv xs ++ bv ys := List.map_append ..
/-- a slice of the call's own holds these bytes -/
def Ob (w : World) (base : Nat) (v : Value) (xs : List Int) : Prop := w.ownsRow base 5 1 v xs.length (bv xs)
/-- a slice value reads as these bytes -/
def Bs (w : World) (u : Value) (xs : List Int) : Prop := ∃ q c, u = .slice q xs.length c ∧ (q = none → c = 0 ∧ xs = []) ∧ ∀ a, q = some a → ∀ j v, (bv xs)[j]? = some v → w.cell? (a.add j) = some v
theorem Ob.base {w : World} {b b' : Nat} {v : Value} {xs : List Int} (h : Ob w b v xs) (hb : b' ≤ b) : Ob w b' v xs := by
  refine ⟨h.1, ?_⟩
  rcases h.2 with h0 | ⟨g, cap, cur, rfl, h1, rest⟩
  · exact .inl h0
  · exact .inr ⟨g, cap, cur, rfl, Nat.le_trans hb h1, rest⟩
theorem Ob.nil (w : World) (b : Nat) : Ob w b (.slice none 0 0) [] := ⟨rfl, .inl ⟨rfl, rfl⟩⟩
theorem Bs.nil (w : World) : Bs w (.slice none 0 0) [] := ⟨none, 0, rfl, fun _ => ⟨rfl, rfl⟩, fun _ ha => (by cases ha)⟩
theorem add_at (g i : Nat) : (⟨g, 0, none⟩ : Addr).add i = ⟨g, 0 + i, none⟩ := by unfold Addr.add; split <;> simp_all
theorem add_off (g o i : Nat) : (⟨g, o, none⟩ : Addr).add i = ⟨g, o + i, none⟩ := by unfold Addr.add; split <;> simp_all
theorem Ob.bs {w : World} {b : Nat} {v : Value} {xs : List Int} (h : Ob w b v xs) : Bs w v xs := by
  rcases h.2 with ⟨rfl, h0⟩ | ⟨g, cap, cur, rfl, h1, hg, h2, h3, h4, h5⟩
  · obtain rfl : xs = [] := List.eq_nil_of_length_eq_zero h0
    exact Bs.nil w
  · refine ⟨some ⟨g, 0, none⟩, cap, rfl, (fun h => (by cases h)), fun a ha j u hj => ?_⟩
    cases ha
    exact World.ownsRow.cells h (g := g) rfl j u hj
theorem cell_lt {w : World} {a : Addr} {v : Value} (h : w.cell? a = some v) : a.block < w.heap.size := by
  unfold World.cell? at h
  split at h
  · rename_i c e f hc
    exact (Array.getElem?_eq_some_iff.1 hc).1
  · cases h
theorem add_block (a : Addr) (j : Nat) : (a.add j).block = a.block := by unfold Addr.add; split <;> rfl
theorem Bs.keep {X : Nat → Prop} {w w' : World} {u : Value} {xs : List Int} (h : Bs w u xs) (hT : Tr X w w') (hx : ∀ b, u.ownBlock = some b → ¬ X b) : Bs w' u xs := by
  obtain ⟨q, c, rfl, h0, h1⟩ := h
  refine ⟨q, c, rfl, h0, fun a ha j v hj => ?_⟩
  subst ha
  have h2 := h1 a rfl j v hj
  rw [← h2]
  refine World.cell?_of_block ?_
  rw [add_block]
  have h3 := cell_lt h2
  rw [add_block] at h3
  exact hT.block _ h3 (hx _ rfl)
theorem Bs.below {w w' : World} {u : Value} {xs : List Int} (h : Bs w u xs) (hb : Below w.heap.size w w') : Bs w' u xs := h.keep (X := None_) (Tr.of hb) (fun _ _ => id)
theorem Ob.keep {X : Nat → Prop} {w w' : World} {b : Nat} {v : Value} {xs : List Int} (h : Ob w b v xs) (hT : Tr X w w') (hx : ∀ b, v.ownBlock = some b → ¬ X b) : Ob w' b v xs := own_tr h hT hx
theorem Ob.below {w w' : World} {b : Nat} {v : Value} {xs : List Int} (h : Ob w b v xs) (hb : Below w.heap.size w w') : Ob w' b v xs := own_tr h (X := None_) (Tr.of hb) (fun _ _ => id)
theorem Bs.conv {w : World} {u : Value} {xs : List Int} (h : Bs w u xs) (h0 : xs ≠ []) : (convert 33 9 u).run Try.prog w = .ok (.string (strOfNums xs)) w := by
  obtain ⟨q, c, rfl, hn, h1⟩ := h
  cases q with
  | none => exact absurd (hn rfl).2 h0
  | some a =>
    have hl : 0 < xs.length := List.length_pos_iff.2 h0
    have hc : ∀ i, i < xs.length → w.cell? (a.add i) = some (.int .u8 (xs.getD i 0)) := fun i hi => h1 a rfl i _ (by unfold bv; rw [List.getElem?_map, List.getElem?_eq_getElem hi]; simp [List.getD_eq_getElem?_getD, hi])
    have hs : a.spot = none := by
      have h2 := hc 0 hl
      rw [show a.add 0 = a from by unfold Addr.add; rfl] at h2
      unfold World.cell? at h2
      split at h2
      · cases hs : a.spot with
        | none => rfl
        | some k => rw [hs] at h2; simp at h2
      · cases h2
    obtain ⟨g, o, s⟩ := a
    simp only at hs
    subst hs
    exact run_convert_bytes_arg (P := Try.prog) w 33 5 Try.underlying33 Try.underlying5 g o xs.length c xs rfl (fun i hi => by rw [← add_off]; exact hc i hi) 9 Try.underlying9
set_option maxRecDepth 100000 in
theorem append_nil {w : World} {base : Nat} {v : Value} {xs : List Int} (h : Ob w base v xs) : (Builtin.append_ #[33, 33] 33 #[v, .slice none 0 0]).run Try.prog w = .ok v w := by
  obtain ⟨i, hi⟩ : ∃ i, Try.prog.info? 5 = some i := ⟨_, rfl⟩
  rcases h.2 with ⟨rfl, h0⟩ | ⟨g, cap, cur, rfl, hb, hg, h2, h3, h4, h5⟩
  · simp [Builtin.append_, run_underlying Try.underlying33, sizeOf, typeInfo, hi, Builtin.lenOf, Builtin.firstCells]
  · simp [Builtin.append_, run_underlying Try.underlying33, sizeOf, typeInfo, hi, Builtin.lenOf, Builtin.firstCells, h2, storeCells]
set_option maxRecDepth 100000 in
set_option maxHeartbeats 4000000 in
/-- append, as it runs -/
theorem append_run {w : World} {base : Nat} {v u : Value} {xs ys : List Int} (h : Ob w base v xs) (hu : Bs w u ys) (hL : xs.length + ys.length ≤ 1000000000) (hb : base ≤ w.heap.size) :
    ∃ v' w', (Builtin.append_ #[33, 33] 33 #[v, u]).run Try.prog w = .ok v' w' ∧ Ob w' base v' (xs ++ ys) ∧ w.grownBy w' v.ownBlock ∧ (v'.ownBlock = v.ownBlock ∨ v'.ownBlock = some w.heap.size) := by
  obtain ⟨q, c, rfl, hn, h1⟩ := hu
  cases q with
  | none =>
    obtain ⟨rfl, rfl⟩ := hn rfl
    refine ⟨v, w, append_nil h, by rw [List.append_nil]; exact h, ⟨rfl, rfl, rfl, Nat.le_refl _, fun _ _ _ => rfl⟩, .inl rfl⟩
  | some a =>
    obtain ⟨v', w', hrun, ho, hg, -, hw⟩ := run_append_own_at (P := Try.prog) w base 33 33 5 _ _ 1 1 rfl rfl rfl rfl rfl rfl (by decide) v xs.length (bv xs) h a ys.length c (bv ys) (by rw [bv_len, Nat.mul_one]) (h1 a rfl) (fun u hu => by obtain ⟨x, _, rfl⟩ := List.mem_map.1 hu; rfl) (by simp only [maxLen]; omega) (by omega) hb
    refine ⟨v', w', hrun, ?_, hg, hw⟩
    unfold Ob
    rw [List.length_append, bv_app]
    exact ho
namespace K6
def InB (ks : List Nat) (g : Ghost) (b : Nat) : Prop := ∃ k ∈ ks, (g k).lo ≤ b ∧ b < (g k).hi
/-- what stands of a slice of the region's own -/
def OwnF (i : Nat) (ks : List Nat) (base : Nat) (zs : List Int) (g : Ghost) (w : World) : Prop := Ob w base (g i).v zs ∧ ∀ b, (g i).v.ownBlock = some b → InB (i :: ks) g b
/-- a slice of the region's own: of a call (ks empty), or by append onto the one of an operation of ks -/
def sQ (i : Nat) (ks D use kill : List Nat) (base : Nat) (zs : List Int) (p : Value → Prop) : Sp := (⟨i, D, use, kill, ks, i :: ks, false, false, false⟩, ⟨fun _ x => p x.v, OwnF i ks base zs, None_, None_⟩)
theorem ok_Q {w1 : World} {Z : Nat → Prop} {i : Nat} {ks D use kill : List Nat} {base : Nat} {zs : List Int} {p : Value → Prop} (hp : ∃ v, p v) (hks : ∀ k ∈ ks, k ∈ D) : OpOk w1 Z (sQ i ks D use kill base zs p) where
  some_ := fun _ => by obtain ⟨v, hv⟩ := hp; exact ⟨⟨v, w1.heap.size, w1.heap.size⟩, Nat.le_refl _, Nat.le_refl _, hv⟩
  depV := fun _ _ _ _ h => h
  depF := fun g g' hg w h => by
    have e : g' i = g i := hg i (.inl rfl)
    refine ⟨by rw [e]; exact h.1, fun b hb => ?_⟩
    rw [e] at hb
    obtain ⟨k, hk, h1⟩ := h.2 b hb
    refine ⟨k, hk, ?_⟩
    rcases List.mem_cons.1 hk with rfl | hk'
    · rw [e]; exact h1
    · rw [hg k (.inr (hks k hk'))]; exact h1
  loc := fun g w w' h hT => ⟨h.1.keep hT fun b hb hn => hn (.inr (.inr (h.2 b hb))), h.2⟩
  xo := fun _ h => h.elim
  lo := fun _ h => h.elim
/-- a call that returns a slice of its own -/
theorem left_Qc {l : List Sp} {i : Nat} {D use kill : List Nat} {base : Nat} {zs : List Int} {p : Value → Prop} {s : Sh} (hl : look6 l s.i = (sQ i [] D use kill base zs p).2) (hs : s = (sQ i [] D use kill base zs p).1) {g : Ghost} {w w' : World} {v : Value}
    (ho : Ob w' w.heap.size v zs) (hb : Below w.heap.size w w') (hbase : base ≤ w.heap.size) (hp : p v) : Left (look6 l) s g w v w' := by
  unfold Left
  rw [hl]
  subst hs
  refine ⟨hp, Tr.of hb, ?_⟩
  show Ob w' base (gput g i _ i).v zs ∧ ∀ b, (gput g i _ i).v.ownBlock = some b → InB [i] (gput g i _) b
  rw [gput_self]
  refine ⟨ho.base hbase, fun b h => ⟨i, by simp, ?_⟩⟩
  rw [gput_self]
  exact ho.lt b h
/-- append onto such a slice -/
theorem left_Qa {l : List Sp} {i : Nat} {ks D use kill : List Nat} {base : Nat} {zs : List Int} {p : Value → Prop} {s : Sh} (hl : look6 l s.i = (sQ i ks D use kill base zs p).2) (hs : s = (sQ i ks D use kill base zs p).1) (hik : i ∉ ks) {g : Ghost} {w w' : World} {v v' : Value}
    (hv : ∀ b, v.ownBlock = some b → InB ks g b) (hg : w.grownBy w' v.ownBlock) (ho : Ob w' base v' zs) (hw : v'.ownBlock = v.ownBlock ∨ v'.ownBlock = some w.heap.size) (hp : p v') : Left (look6 l) s g w v' w' := by
  unfold Left
  rw [hl]
  subst hs
  refine ⟨hp, ⟨hg.os, hg.tape, hg.output, hg.size, fun b hb hx => hg.block b hb fun hn => hx ?_⟩, ?_⟩
  · obtain ⟨k, hk, h1⟩ := hv b hn.symm
    exact .inr ⟨k, hk, h1⟩
  · show Ob w' base (gput g i _ i).v zs ∧ ∀ b, (gput g i _ i).v.ownBlock = some b → InB (i :: ks) (gput g i _) b
    rw [gput_self]
    refine ⟨ho, fun b h => ?_⟩
    rcases hw with h1 | h1
    · obtain ⟨k, hk, h2⟩ := hv b (h1 ▸ h)
      refine ⟨k, List.mem_cons_of_mem _ hk, ?_⟩
      rw [gput_ne (fun e : k = i => hik (e ▸ hk))]
      exact h2
    · have e : w.heap.size = b := Option.some.inj (h1.symm.trans h)
      refine ⟨i, List.mem_cons_self .., ?_⟩
      rw [gput_self]
      exact ⟨Nat.le_of_eq e, by subst e; exact (ho.lt _ h).2⟩
end K6
end Go.Proofs.Ytpdenhmkpiafiaa
