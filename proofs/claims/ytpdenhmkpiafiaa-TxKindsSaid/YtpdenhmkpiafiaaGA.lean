/-
  Words and package u256, as far as Div.
-/
import Derived.WalkKit
import Derived.Lib.Hide
import Derived.Deep.Draws
import Derived.Test.YtpdenhmkpiafiaaProg
import Derived.WalkLawsBesides
import Derived.Deep.LoopGhost
import Derived.Deep.RegionWith
import Derived.Handy
import Derived.Deep.QuietTactic
import Derived.BigQuiet
import Derived.BigRegion
import Derived.ChangeKeysEq
import Derived.Deep.DeepCutAuto

/-! Base: WORDS FOR ALL TEXTS OF THIS SEAT: a block of words in memory ('Row'), what a function gives for a prefix of it ('psum'), four words that are a number ('IsW'). No function of the program is named here. -/
namespace Go.Proofs.Ytpdenhmkpiafiaa
open Go Go.RowKit

/-! ### a block of memory that is known whole -/
def Row (w : World) (g t : Nat) (cs : Array Value) : Prop := w.heap[g]? = some (.cells cs t (0, 0))

section
variable {w w' : World} {g t : Nat} {cs : Array Value}
theorem Row.lt (h : Row w g t cs) : g < w.heap.size := by
  rcases Nat.lt_or_ge g w.heap.size with hlt | hge
  · exact hlt
  · unfold Row at h; rw [Array.getElem?_eq_none hge] at h; cases h
theorem Row.cell (h : Row w g t cs) (i : Nat) : w.cell? ⟨g, i, none⟩ = cs[i]? := cell_of_row w g i cs t (0, 0) h
theorem Row.frozen (h : Row w g t cs) (i : Nat) : w.frozen? ⟨g, i, none⟩ = false := by
  unfold Row at h
  simp [World.frozen?, h]
theorem Row.new_at (hg : w.heap.size = g) : Row (w.alloc (.cells cs t)) g t cs := by subst hg; exact heap_alloc_new w _
theorem Row.alloc (h : Row w g t cs) (o : Obj) : Row (w.alloc o) g t cs := (Below.heap_alloc w o g h.lt).trans h
theorem Row.drew (h : Row w g t cs) : Row w.drew g t cs := h
theorem Row.drewN (h : Row w g t cs) (n : Nat) : Row (w.drewN n) g t cs := h
theorem belowDN {B : Nat} {a w : World} (h : Below B a w) (n : Nat) : Below B a (w.drewN n) := ⟨h.os, h.tape, h.output, h.size, h.block⟩
theorem Row.far (h : Row w g t cs) {p : Addr} (hp : g ≠ p.block) (u : Value) : Row (w.setCell p u) g t cs := (Below.heap_setCell w p u g hp).trans h
theorem Row.set (h : Row w g t cs) (i : Nat) (u : Value) : Row (w.setCell ⟨g, i, none⟩ u) g t (cs.setIfInBounds i u) := by
  unfold Row at h ⊢
  simp [World.setCell, Array.getElem?_modify, h]
theorem Row.below {B : Nat} (h : Row w g t cs) (hb : Below B w w') (hg : g < B) : Row w' g t cs := (hb.block g hg).trans h
theorem Row.congr {cs' : Array Value} (h : Row w g t cs) (e : cs = cs') : Row w g t cs' := e ▸ h
end

theorem Row.store4 {w : World} {g t : Nat} {cs : Array Value} (h : Row w g t cs) (hs : cs.size = 4) (v0 v1 v2 v3 : Value) :
    Row ((((w.setCell ⟨g, 0, none⟩ v0).setCell ⟨g, 1, none⟩ v1).setCell ⟨g, 2, none⟩ v2).setCell ⟨g, 3, none⟩ v3) g t #[v0, v1, v2, v3] := by
  refine ((((h.set 0 v0).set 1 v1).set 2 v2).set 3 v3).congr ?_
  obtain ⟨l⟩ := cs
  match l, hs with
  | [a, b, c, d], _ => rfl

theorem bcell {B : Nat} {w w1 : World} (hb : Below B w w1) : (∀ b o, b < B → w1.cell? ⟨b, o, none⟩ = w.cell? ⟨b, o, none⟩) ∧ (∀ b o, b < B → w1.frozen? ⟨b, o, none⟩ = w.frozen? ⟨b, o, none⟩) :=
  ⟨fun b o h => hb.cell (p := ⟨b, o, none⟩) h, fun b o h => hb.frozen (p := ⟨b, o, none⟩) h⟩

/-- WHAT IS KNOWN OF THE MEMORY BEHIND SOME STEPS: below the call's own blocks it is as it was; these rows stand. Behind a name: nothing of it is a rule for the walk. -/
def Kept (w : World) (L : List (Nat × Nat × Array Value)) (wc : World) : Prop := Below w.heap.size w wc ∧ ∀ x ∈ L, Row wc x.1 x.2.1 x.2.2
theorem Kept.step {w wc w' : World} {L : List (Nat × Nat × Array Value)} {B : Nat} (h : Kept w L wc) (hb : Below B wc w') (hB : wc.heap.size ≤ B) : Kept w L w' :=
  ⟨h.1.trans (hb.mono (Nat.le_trans h.1.size hB)), fun x hx => (h.2 x hx).below hb (Nat.lt_of_lt_of_le (h.2 x hx).lt hB)⟩
theorem Kept.one {w wc : World} (h : Below w.heap.size w wc) : Kept w [] wc := ⟨h, fun _ hx => by simp at hx⟩
theorem Kept.more {w wc : World} {L : List (Nat × Nat × Array Value)} (h : Kept w L wc) {g t : Nat} {cs : Array Value} (hr : Row wc g t cs) : Kept w ((g, t, cs) :: L) wc :=
  ⟨h.1, fun x hx => by
    rcases List.mem_cons.1 hx with e | hx
    · rw [e]; exact hr
    · exact h.2 x hx⟩
theorem Kept.head {w wc : World} {L : List (Nat × Nat × Array Value)} {g t : Nat} {cs : Array Value} (h : Kept w ((g, t, cs) :: L) wc) : Row wc g t cs := h.2 (g, t, cs) (List.mem_cons_self ..)
theorem Kept.tail {w wc : World} {L : List (Nat × Nat × Array Value)} {x : Nat × Nat × Array Value} (h : Kept w (x :: L) wc) : Kept w L wc := ⟨h.1, fun y hy => h.2 y (List.mem_cons_of_mem _ hy)⟩
theorem Kept.drew {w wc : World} {L : List (Nat × Nat × Array Value)} (h : Kept w L wc) : Kept w L wc.drew := ⟨h.1.drew, h.2⟩

/-! ### results that lie in memory -/
def aggB : TypeDesc → Bool
  | .struct _ => true
  | .array _ _ => true
  | _ => false
def AggT (P : Program) (ty n : Nat) : Prop := (∃ d, P.underlying ty = some d ∧ aggB d = true) ∧ (P.info? ty).map (·.size) = some n
section
variable {P : Program} {w : World} {g t ty ty' g' t' n n' : Nat} {cs cs' : Array Value} {tmps : Array Value} {fn : Func} {p p' q : Tmp}
theorem AggT.load (T : AggT P ty n) (hr : Row w g t cs) (hs : cs.size = n) : (loadVar ty ⟨g, 0, none⟩).run P w = .ok (.agg cs) w := by
  subst hs
  obtain ⟨⟨d, hu, hd⟩, hi⟩ := T
  cases d
  case struct => exact run_loadVar_row w g t ty cs (0, 0) _ hr hu rfl hi
  case array => exact run_loadVar_row w g t ty cs (0, 0) _ hr hu rfl hi
  all_goals exact Bool.noConfusion hd
theorem results_c (h : fn.results = #[.cell p ty]) (T : AggT P ty n) (hp : tmps.getD p undef = .pointer (some ⟨g, 0, none⟩)) (hr : Row w g t cs) (hs : cs.size = n) :
    (results fn tmps).run P w = .ok (.agg cs) w := by
  have hp' : tmps[p]?.getD undef = .pointer (some ⟨g, 0, none⟩) := by simpa using hp
  simp [results, h, hp', asAddr, T.load hr hs]
theorem results_ct (h : fn.results = #[.cell p ty, .tmp q]) (T : AggT P ty n) (hp : tmps.getD p undef = .pointer (some ⟨g, 0, none⟩)) (hr : Row w g t cs) (hs : cs.size = n) :
    (results fn tmps).run P w = .ok (.tuple #[.agg cs, tmps.getD q undef]) w := by
  have hp' : tmps[p]?.getD undef = .pointer (some ⟨g, 0, none⟩) := by simpa using hp
  simp [results, h, hp', asAddr, T.load hr hs]
theorem results_cct (h : fn.results = #[.cell p ty, .cell p' ty', .tmp q]) (T : AggT P ty n) (T' : AggT P ty' n') (hp : tmps.getD p undef = .pointer (some ⟨g, 0, none⟩)) (hp2 : tmps.getD p' undef = .pointer (some ⟨g', 0, none⟩)) (hr : Row w g t cs) (hr' : Row w g' t' cs') (hs : cs.size = n) (hs' : cs'.size = n') :
    (results fn tmps).run P w = .ok (.tuple #[.agg cs, .agg cs', tmps.getD q undef]) w := by
  have hp' : tmps[p]?.getD undef = .pointer (some ⟨g, 0, none⟩) := by simpa using hp
  have hp2' : tmps[p']?.getD undef = .pointer (some ⟨g', 0, none⟩) := by simpa using hp2
  simp [results, h, hp', hp2', asAddr, T.load hr hs, T'.load hr' hs']
end

/-! ### a row of numbers of one kind, by a function -/
def arr (k : IntKind) (f : Nat → Int) (L : Nat) : Array Value := ((List.range L).map fun i => Value.int k (f i)).toArray
def upd (f : Nat → Int) (i : Nat) (x : Int) : Nat → Int := fun j => if j = i then x else f j
theorem upd_same (f : Nat → Int) (i : Nat) (x : Int) : upd f i x i = x := by simp [upd]
theorem upd_ne (f : Nat → Int) (i j : Nat) (x : Int) (h : j ≠ i) : upd f i x j = f j := by simp [upd, h]
theorem arr_get (k : IntKind) (f : Nat → Int) (L i : Nat) (h : i < L) : (arr k f L)[i]? = some (.int k (f i)) := by simp [arr, h]
theorem arr_size (k : IntKind) (f : Nat → Int) (L : Nat) : (arr k f L).size = L := by simp [arr]
theorem arr_set (k : IntKind) (f : Nat → Int) (L i : Nat) (x : Int) (h : i < L) : (arr k f L).setIfInBounds i (.int k x) = arr k (upd f i x) L := by
  apply Array.ext
  · simp [arr]
  · intro j h1 h2
    have hj : j < L := by simpa [arr] using h2
    by_cases e : j = i
    · subst e; simp [arr, upd]
    · simp [arr, upd, e, Ne.symm e]
theorem Row.at_ {w : World} {g t L : Nat} {k : IntKind} {f : Nat → Int} (h : Row w g t (arr k f L)) (i : Nat) (hi : i < L) : w.cell? ⟨g, i, none⟩ = some (.int k (f i)) := by
  rw [h.cell, arr_get _ _ _ _ hi]
theorem Row.put {w : World} {g t L : Nat} {k : IntKind} {f : Nat → Int} (h : Row w g t (arr k f L)) (i : Nat) (hi : i < L) (x : Int) : Row (w.setCell ⟨g, i, none⟩ (.int k x)) g t (arr k (upd f i x) L) :=
  (h.set i _).congr (arr_set k f L i x hi)
def sel4 (x0 x1 x2 x3 : Int) : Nat → Int := fun i => if i = 0 then x0 else if i = 1 then x1 else if i = 2 then x2 else x3
theorem arr_sel4 (k : IntKind) (x0 x1 x2 x3 : Int) : #[Value.int k x0, Value.int k x1, Value.int k x2, Value.int k x3] = arr k (sel4 x0 x1 x2 x3) 4 := rfl
theorem arr4 (k : IntKind) (f : Nat → Int) : arr k f 4 = #[Value.int k (f 0), Value.int k (f 1), Value.int k (f 2), Value.int k (f 3)] := rfl

/-! ### the number that a row of words is -/
def W : Int := 18446744073709551616
def psum (f : Nat → Int) : Nat → Int
  | 0 => 0
  | n + 1 => psum f n + f n * W ^ n
theorem psum_congr {f g : Nat → Int} : ∀ {n : Nat}, (∀ i, i < n → f i = g i) → psum f n = psum g n
  | 0, _ => rfl
  | n + 1, h => by
    unfold psum
    rw [psum_congr fun i hi => h i (by omega), h n (by omega)]
theorem psum_upd_ge (f : Nat → Int) (i : Nat) (x : Int) {n : Nat} (h : n ≤ i) : psum (upd f i x) n = psum f n :=
  psum_congr fun j hj => upd_ne _ _ _ _ (by omega)
/-- every cell is a word -/
def Wordy (f : Nat → Int) : Prop := ∀ i, 0 ≤ f i ∧ f i < W
theorem Wordy.upd {f : Nat → Int} (h : Wordy f) (i : Nat) {x : Int} (hx : 0 ≤ x ∧ x < W) : Wordy (upd f i x) := fun j => by
  by_cases e : j = i
  · rw [e, upd_same]; exact hx
  · rw [upd_ne _ _ _ _ e]; exact h j
theorem wordy_zero : Wordy fun _ => 0 := fun _ => ⟨Int.le_refl _, by show (0 : Int) < W; unfold W; decide⟩
theorem W_pos : (0 : Int) < W := by unfold W; omega
theorem Wpow_pos (n : Nat) : (0 : Int) < W ^ n := Int.pow_pos W_pos
theorem psum_bd {f : Nat → Int} (h : Wordy f) : ∀ n, 0 ≤ psum f n ∧ psum f n < W ^ n
  | 0 => ⟨Int.le_refl _, by simp [psum]⟩
  | n + 1 => by
    have ih := psum_bd h n
    have hn := h n
    have hp := Wpow_pos n
    unfold psum
    rw [Int.pow_succ]
    have h1 : 0 ≤ f n * W ^ n := Int.mul_nonneg hn.1 (by omega)
    have h2 : f n * W ^ n ≤ (W - 1) * W ^ n := Int.mul_le_mul_of_nonneg_right (by omega) (by omega)
    have h3 : (W - 1) * W ^ n = W ^ n * W - W ^ n := by rw [Int.sub_mul, Int.one_mul, Int.mul_comm]
    omega
theorem psum_zero : ∀ n, psum (fun _ => 0) n = 0
  | 0 => rfl
  | n + 1 => by unfold psum; rw [psum_zero n]; simp

/-- four words that are the number n -/
structure IsW (x0 x1 x2 x3 : Int) (n : Nat) : Prop where
  wordy : Wordy (sel4 x0 x1 x2 x3)
  val : (n : Int) = psum (sel4 x0 x1 x2 x3) 4
theorem Wordy.four {f : Nat → Int} (h : Wordy f) : Wordy (sel4 (f 0) (f 1) (f 2) (f 3)) := fun i => by
  unfold sel4; split
  · exact h 0
  · split
    · exact h 1
    · split
      · exact h 2
      · exact h 3
theorem psum_four (f : Nat → Int) : psum (sel4 (f 0) (f 1) (f 2) (f 3)) 4 = psum f 4 := by
  apply psum_congr
  intro i hi
  have : i = 0 ∨ i = 1 ∨ i = 2 ∨ i = 3 := by omega
  rcases this with rfl | rfl | rfl | rfl <;> rfl
theorem IsW.of {f : Nat → Int} (h : Wordy f) {n : Nat} (hn : (n : Int) = psum f 4) : IsW (f 0) (f 1) (f 2) (f 3) n := ⟨h.four, by rw [psum_four]; exact hn⟩
theorem IsW.lt {x0 x1 x2 x3 : Int} {n : Nat} (h : IsW x0 x1 x2 x3 n) : (n : Int) < W ^ 4 := h.val ▸ (psum_bd h.wordy 4).2

end Go.Proofs.Ytpdenhmkpiafiaa

/-! WordPlain: THE PLAIN LAWS OF ONE WORD: what Carry, Borrow, Product and the shifts of u256 compute. No program in sight. -/
namespace Go.Proofs.Ytpdenhmkpiafiaa
open Go Go.RowKit

/-- a sum's word, and what is carried -/
def cS (a b c : Int) : Int := (a + b + c) % 18446744073709551616
def cC (a b c : Int) : Int := (a + b + c) / 18446744073709551616
/-- a difference's word, and what is borrowed -/
def bS (a b c : Int) : Int := (a - b - c) % 18446744073709551616
def bC (a b c : Int) : Int := -((a - b - c) / 18446744073709551616)
/-- a product's words -/
def pH (a b : Int) : Int := a * b / 18446744073709551616
def pL (a b : Int) : Int := a * b % 18446744073709551616

theorem top_bit (X : Nat) (h : X < 18446744073709551616) : X / 9223372036854775808 = 0 ∨ X / 9223372036854775808 = 1 := by omega

theorem carry_nat (A B S : Nat) (hA : A < 18446744073709551616) (hB : B < 18446744073709551616) (hS : S < 18446744073709551616) :
    ((A &&& B) ||| ((A ||| B) &&& (18446744073709551615 - S))) / 9223372036854775808 =
      (if A / 9223372036854775808 + B / 9223372036854775808 = 2 ∨ (A / 9223372036854775808 + B / 9223372036854775808 = 1 ∧ S / 9223372036854775808 = 0) then 1 else 0) := by
  rw [show (9223372036854775808 : Nat) = 2 ^ 63 from rfl, Nat.or_div_two_pow, Nat.and_div_two_pow, Nat.and_div_two_pow, Nat.or_div_two_pow]
  have e : (18446744073709551615 - S) / 2 ^ 63 = 1 - S / 2 ^ 63 := by omega
  rw [e]
  rcases (show A / 2 ^ 63 = 0 ∨ A / 2 ^ 63 = 1 by omega) with h1 | h1 <;> rcases (show B / 2 ^ 63 = 0 ∨ B / 2 ^ 63 = 1 by omega) with h2 | h2 <;>
    rcases (show S / 2 ^ 63 = 0 ∨ S / 2 ^ 63 = 1 by omega) with h3 | h3 <;> rw [h1, h2, h3] <;> decide

theorem carry_eq (a b c : Int) (ha : 0 ≤ a ∧ a < 18446744073709551616) (hb : 0 ≤ b ∧ b < 18446744073709551616) (hc : 0 ≤ c ∧ c ≤ 1) :
    bits .or .u64 (bits .and .u64 a b) (bits .andNot .u64 (bits .or .u64 a b) (IntKind.u64.wrap (IntKind.u64.wrap (a + b) + c))) / 9223372036854775808 = cC a b c := by
  obtain ⟨A, rfl⟩ := Int.eq_ofNat_of_zero_le ha.1
  obtain ⟨B, rfl⟩ := Int.eq_ofNat_of_zero_le hb.1
  obtain ⟨C, rfl⟩ := Int.eq_ofNat_of_zero_le hc.1
  have hA : A < 18446744073709551616 := by omega
  have hB : B < 18446744073709551616 := by omega
  have e : IntKind.u64.wrap (IntKind.u64.wrap ((A : Int) + (B : Int)) + (C : Int)) = (((A + B + C) % 18446744073709551616 : Nat) : Int) := by
    rw [IntKind.wrap_u64, IntKind.wrap_u64]; omega
  have hS : (A + B + C) % 18446744073709551616 < 18446744073709551616 := Nat.mod_lt _ (by decide)
  have hor : A ||| B < 18446744073709551616 := Nat.or_lt_two_pow (n := 64) hA hB
  have hand : A &&& B < 18446744073709551616 := Nat.and_lt_two_pow (n := 64) _ hB
  rw [e, u64_and_nat A B hA hB, u64_or_nat A B hA hB, u64_andNot_nat _ _ hor hS, u64_or_nat _ _ hand (Nat.lt_of_le_of_lt Nat.and_le_left hor)]
  have h := carry_nat A B _ hA hB hS
  rw [show ((((A &&& B) ||| ((A ||| B) &&& (18446744073709551615 - (A + B + C) % 18446744073709551616)) : Nat) : Int) / 9223372036854775808) = ((((A &&& B) ||| ((A ||| B) &&& (18446744073709551615 - (A + B + C) % 18446744073709551616))) / 9223372036854775808 : Nat) : Int) from by omega, h]
  unfold cC
  split <;> omega
theorem sum_eq (a b c : Int) : IntKind.u64.wrap (IntKind.u64.wrap (a + b) + c) = cS a b c := by
  rw [IntKind.wrap_u64, IntKind.wrap_u64]; unfold cS; omega
theorem cC_bd (a b c : Int) (ha : 0 ≤ a ∧ a < 18446744073709551616) (hb : 0 ≤ b ∧ b < 18446744073709551616) (hc : 0 ≤ c ∧ c ≤ 1) : 0 ≤ cC a b c ∧ cC a b c ≤ 1 := by
  unfold cC; omega
theorem cS_bd (a b c : Int) : 0 ≤ cS a b c ∧ cS a b c < W := by unfold cS W; omega
theorem carry_val (a b c : Int) : cS a b c + W * cC a b c = a + b + c := by unfold cS cC W; omega

theorem borrow_nat (A B S : Nat) (hA : A < 18446744073709551616) (hB : B < 18446744073709551616) (hS : S < 18446744073709551616) :
    (((18446744073709551615 - A) &&& B) ||| (((18446744073709551615 - A) ||| B) &&& S)) / 9223372036854775808 =
      (if (1 - A / 9223372036854775808) + B / 9223372036854775808 = 2 ∨ ((1 - A / 9223372036854775808) + B / 9223372036854775808 = 1 ∧ S / 9223372036854775808 = 1) then 1 else 0) := by
  rw [show (9223372036854775808 : Nat) = 2 ^ 63 from rfl, Nat.or_div_two_pow, Nat.and_div_two_pow, Nat.and_div_two_pow, Nat.or_div_two_pow]
  have e : (18446744073709551615 - A) / 2 ^ 63 = 1 - A / 2 ^ 63 := by omega
  rw [e]
  rcases (show A / 2 ^ 63 = 0 ∨ A / 2 ^ 63 = 1 by omega) with h1 | h1 <;> rcases (show B / 2 ^ 63 = 0 ∨ B / 2 ^ 63 = 1 by omega) with h2 | h2 <;>
    rcases (show S / 2 ^ 63 = 0 ∨ S / 2 ^ 63 = 1 by omega) with h3 | h3 <;> rw [h1, h2, h3] <;> decide

theorem xor_max (a : Int) (ha : 0 ≤ a ∧ a < 18446744073709551616) : bits .xor .u64 IntKind.u64.max a = 18446744073709551615 - a := by
  obtain ⟨A, rfl⟩ := Int.eq_ofNat_of_zero_le ha.1
  have e : IntKind.u64.max = ((18446744073709551615 : Nat) : Int) := by decide
  rw [e, u64_xor_nat _ _ (by decide) (by omega)]
  have h : 18446744073709551615 ^^^ A = 18446744073709551615 - A := by
    have h1 := BitVec.toNat_not (x := BitVec.ofNat 64 A)
    have h2 : (~~~BitVec.ofNat 64 A) = BitVec.allOnes 64 ^^^ BitVec.ofNat 64 A := (BitVec.allOnes_xor).symm
    rw [h2, BitVec.toNat_xor, BitVec.toNat_allOnes, BitVec.toNat_ofNat, Nat.mod_eq_of_lt (by omega)] at h1
    exact h1
  rw [h]; omega

theorem borrow_eq (a b c : Int) (ha : 0 ≤ a ∧ a < 18446744073709551616) (hb : 0 ≤ b ∧ b < 18446744073709551616) (hc : 0 ≤ c ∧ c ≤ 1) :
    bits .or .u64 (bits .and .u64 (bits .xor .u64 IntKind.u64.max a) b) (bits .and .u64 (bits .or .u64 (bits .xor .u64 IntKind.u64.max a) b) (IntKind.u64.wrap (IntKind.u64.wrap (a - b) - c))) / 9223372036854775808 = bC a b c := by
  rw [xor_max a ha]
  obtain ⟨A, rfl⟩ := Int.eq_ofNat_of_zero_le ha.1
  obtain ⟨B, rfl⟩ := Int.eq_ofNat_of_zero_le hb.1
  obtain ⟨C, rfl⟩ := Int.eq_ofNat_of_zero_le hc.1
  have hA : A < 18446744073709551616 := by omega
  have hB : B < 18446744073709551616 := by omega
  have e0 : (18446744073709551615 : Int) - (A : Int) = ((18446744073709551615 - A : Nat) : Int) := by omega
  have e : IntKind.u64.wrap (IntKind.u64.wrap ((A : Int) - (B : Int)) - (C : Int)) = (((A + 2 * 18446744073709551616 - B - C) % 18446744073709551616 : Nat) : Int) := by
    rw [IntKind.wrap_u64, IntKind.wrap_u64]; omega
  have hA' : 18446744073709551615 - A < 18446744073709551616 := by omega
  have hS : (A + 2 * 18446744073709551616 - B - C) % 18446744073709551616 < 18446744073709551616 := Nat.mod_lt _ (by decide)
  have hor : (18446744073709551615 - A) ||| B < 18446744073709551616 := Nat.or_lt_two_pow (n := 64) hA' hB
  have hand : (18446744073709551615 - A) &&& B < 18446744073709551616 := Nat.and_lt_two_pow (n := 64) _ hB
  rw [e0, e, u64_and_nat _ B hA' hB, u64_or_nat _ B hA' hB, u64_and_nat _ _ hor hS, u64_or_nat _ _ hand (Nat.lt_of_le_of_lt Nat.and_le_left hor)]
  have h := borrow_nat A B _ hA hB hS
  have e1 : ∀ X : Nat, ((X : Int) / 9223372036854775808) = ((X / 9223372036854775808 : Nat) : Int) := fun X => by omega
  rw [e1, h]
  unfold bC
  split <;> omega
theorem diff_eq (a b c : Int) : IntKind.u64.wrap (IntKind.u64.wrap (a - b) - c) = bS a b c := by
  rw [IntKind.wrap_u64, IntKind.wrap_u64]; unfold bS; omega
theorem bC_bd (a b c : Int) (ha : 0 ≤ a ∧ a < 18446744073709551616) (hb : 0 ≤ b ∧ b < 18446744073709551616) (hc : 0 ≤ c ∧ c ≤ 1) : 0 ≤ bC a b c ∧ bC a b c ≤ 1 := by
  unfold bC; omega
theorem bS_bd (a b c : Int) : 0 ≤ bS a b c ∧ bS a b c < W := by unfold bS W; omega
theorem borrow_val (a b c : Int) : bS a b c - W * bC a b c = a - b - c := by unfold bS bC W; omega

theorem and_low (a : Int) (ha : 0 ≤ a ∧ a < 18446744073709551616) : bits .and .u64 a 4294967295 = a % 4294967296 := by
  obtain ⟨A, rfl⟩ := Int.eq_ofNat_of_zero_le ha.1
  have h := u64_and_nat A 4294967295 (by omega) (by decide)
  rw [show (4294967295 : Int) = ((4294967295 : Nat) : Int) from rfl, h]
  have := Nat.and_two_pow_sub_one_eq_mod A 32
  rw [show (4294967295 : Nat) = 2 ^ 32 - 1 from rfl, this]; omega
theorem or_add (a b : Int) (ha : 0 ≤ a ∧ a < 4294967296) (hb : 0 ≤ b ∧ b < 4294967296) : bits .or .u64 (a * 4294967296) b = a * 4294967296 + b := by
  obtain ⟨A, rfl⟩ := Int.eq_ofNat_of_zero_le ha.1
  obtain ⟨B, rfl⟩ := Int.eq_ofNat_of_zero_le hb.1
  rw [show (A : Int) * 4294967296 = ((A * 4294967296 : Nat) : Int) from by omega, u64_or_nat _ _ (by omega) (by omega)]
  have := Nat.two_pow_add_eq_or_of_lt (i := 32) (b := B) (by omega) A
  rw [Nat.mul_comm A, show (4294967296 : Nat) = 2 ^ 32 from rfl, ← this]; omega
theorem mul_bd (x y : Int) (hx : 0 ≤ x ∧ x < 4294967296) (hy : 0 ≤ y ∧ y < 4294967296) : 0 ≤ x * y ∧ x * y ≤ 18446744065119617025 := by
  refine ⟨Int.mul_nonneg hx.1 hy.1, ?_⟩
  have h1 : x * y ≤ 4294967295 * y := Int.mul_le_mul_of_nonneg_right (by omega) hy.1
  omega
theorem prod_parts (aH aL bH bL : Int) (h1 : 0 ≤ aH ∧ aH < 4294967296) (h2 : 0 ≤ aL ∧ aL < 4294967296) (h3 : 0 ≤ bH ∧ bH < 4294967296) (h4 : 0 ≤ bL ∧ bL < 4294967296) :
    let bottom := aL * bL
    let one := aH * bL + bottom / 4294967296
    let two := aL * bH + one % 4294967296
    (aH * bH + one / 4294967296 + two / 4294967296) * 18446744073709551616 + ((two % 4294967296) * 4294967296 + bottom % 4294967296) = (aH * 4294967296 + aL) * (bH * 4294967296 + bL) ∧
    0 ≤ bottom ∧ bottom < 18446744073709551616 ∧ 0 ≤ one ∧ one < 18446744073709551616 ∧ 0 ≤ two ∧ two < 18446744073709551616 ∧ 0 ≤ aH * bH + one / 4294967296 + two / 4294967296 ∧ aH * bH + one / 4294967296 + two / 4294967296 < 18446744073709551616 := by
  intro bottom one two
  have p1 := mul_bd aL bL h2 h4
  have p2 := mul_bd aH bL h1 h4
  have p3 := mul_bd aL bH h2 h3
  have p4 := mul_bd aH bH h1 h3
  have e : (aH * 4294967296 + aL) * (bH * 4294967296 + bL) = (aH * bH) * 18446744073709551616 + (aH * bL) * 4294967296 + (aL * bH) * 4294967296 + aL * bL := by grind
  rw [e]
  omega
theorem product_eq (a b : Int) (ha : 0 ≤ a ∧ a < 18446744073709551616) (hb : 0 ≤ b ∧ b < 18446744073709551616) :
    IntKind.u64.wrap (IntKind.u64.wrap (IntKind.u64.wrap (a / 4294967296 * (b / 4294967296)) + IntKind.u64.wrap (IntKind.u64.wrap (a / 4294967296 * bits .and .u64 b 4294967295) + IntKind.u64.wrap (bits .and .u64 a 4294967295 * bits .and .u64 b 4294967295) / 4294967296) / 4294967296) +
      IntKind.u64.wrap (IntKind.u64.wrap (bits .and .u64 a 4294967295 * (b / 4294967296)) + bits .and .u64 (IntKind.u64.wrap (IntKind.u64.wrap (a / 4294967296 * bits .and .u64 b 4294967295) + IntKind.u64.wrap (bits .and .u64 a 4294967295 * bits .and .u64 b 4294967295) / 4294967296)) 4294967295) / 4294967296) = pH a b ∧
    bits .or .u64 (IntKind.u64.wrap (IntKind.u64.wrap (IntKind.u64.wrap (bits .and .u64 a 4294967295 * (b / 4294967296)) + bits .and .u64 (IntKind.u64.wrap (IntKind.u64.wrap (a / 4294967296 * bits .and .u64 b 4294967295) + IntKind.u64.wrap (bits .and .u64 a 4294967295 * bits .and .u64 b 4294967295) / 4294967296)) 4294967295) * 4294967296))
      (bits .and .u64 (IntKind.u64.wrap (bits .and .u64 a 4294967295 * bits .and .u64 b 4294967295)) 4294967295) = pL a b := by
  rw [and_low a ha, and_low b hb]
  have hm := prod_parts (a / 4294967296) (a % 4294967296) (b / 4294967296) (b % 4294967296) (by omega) (by omega) (by omega) (by omega)
  have ea : a / 4294967296 * 4294967296 + a % 4294967296 = a := by omega
  have eb : b / 4294967296 * 4294967296 + b % 4294967296 = b := by omega
  rw [ea, eb] at hm
  have p1 := mul_bd (a % 4294967296) (b % 4294967296) (by omega) (by omega)
  have p2 := mul_bd (a / 4294967296) (b % 4294967296) (by omega) (by omega)
  have p3 := mul_bd (a % 4294967296) (b / 4294967296) (by omega) (by omega)
  have p4 := mul_bd (a / 4294967296) (b / 4294967296) (by omega) (by omega)
  unfold pH pL
  generalize a % 4294967296 * (b % 4294967296) = q1 at *
  generalize a / 4294967296 * (b % 4294967296) = q2 at *
  generalize a % 4294967296 * (b / 4294967296) = q3 at *
  generalize a / 4294967296 * (b / 4294967296) = q4 at *
  generalize a * b = t at *
  have u : ∀ x : Int, 0 ≤ x → x < 18446744073709551616 → IntKind.u64.wrap x = x := fun x h1 h2 => by rw [IntKind.wrap_u64]; omega
  dsimp only at hm
  obtain ⟨hv, _, _, h1, h2, h3, h4, h5, h6⟩ := hm
  rw [u q1 (by omega) (by omega), u q2 (by omega) (by omega), u (q2 + q1 / 4294967296) h1 h2, u q3 (by omega) (by omega), and_low _ ⟨h1, h2⟩, u (q3 + (q2 + q1 / 4294967296) % 4294967296) h3 h4, u q4 (by omega) (by omega), and_low q1 (by omega)]
  have e : IntKind.u64.wrap ((q3 + (q2 + q1 / 4294967296) % 4294967296) * 4294967296) = (q3 + (q2 + q1 / 4294967296) % 4294967296) % 4294967296 * 4294967296 := by
    rw [IntKind.wrap_u64]; omega
  rw [e, or_add _ _ (by omega) (by omega), u (q4 + (q2 + q1 / 4294967296) / 4294967296) (by omega) (by omega), u _ h5 h6]
  omega
theorem prod_val (a b : Int) : pL a b + W * pH a b = a * b := by unfold pL pH W; omega
theorem pL_bd (a b : Int) : 0 ≤ pL a b ∧ pL a b < W := by unfold pL W; omega
theorem pH_bd (a b : Int) (ha : 0 ≤ a ∧ a < 18446744073709551616) (hb : 0 ≤ b ∧ b < 18446744073709551616) : 0 ≤ pH a b ∧ pH a b ≤ 18446744073709551614 := by
  unfold pH
  have h0 : 0 ≤ a * b := Int.mul_nonneg ha.1 hb.1
  have h1 : a * b ≤ 18446744073709551615 * b := Int.mul_le_mul_of_nonneg_right (by omega) hb.1
  omega
end Go.Proofs.Ytpdenhmkpiafiaa

/-! WordWalk: THE WALKS OVER ONE WORD: u256.Carry, Borrow, Product: each gives what WordPlain names, and leaves the world alone. -/
namespace Go.Proofs.Ytpdenhmkpiafiaa
open Go Go.RowKit
theorem tuple2 {k : IntKind} {a b c d : Int} (h : a = c) (h' : b = d) : Ending.returned (.tuple #[.int k a, .int k b]) = .returned (.tuple #[.int k c, .int k d]) := by rw [h, h']

theorem carry_any (a b c : Int) (w : World) (ha : 0 ≤ a ∧ a < 18446744073709551616) (hb : 0 ≤ b ∧ b < 18446744073709551616) (hc : 0 ≤ c ∧ c ≤ 1) :
    Calls Try.prog 158 #[.int .u64 a, .int .u64 b, .int .u64 c] w fun e w' => e = .returned (.tuple #[.int .u64 (cS a b c), .int .u64 (cC a b c)]) ∧ w = w' := by
  go_enter Try.func158, Try.ntmps158
  go_wp2
  go_ret2
  exact ⟨tuple2 (sum_eq a b c) (carry_eq a b c ha hb hc), rfl⟩
theorem borrow_any (a b c : Int) (w : World) (ha : 0 ≤ a ∧ a < 18446744073709551616) (hb : 0 ≤ b ∧ b < 18446744073709551616) (hc : 0 ≤ c ∧ c ≤ 1) :
    Calls Try.prog 165 #[.int .u64 a, .int .u64 b, .int .u64 c] w fun e w' => e = .returned (.tuple #[.int .u64 (bS a b c), .int .u64 (bC a b c)]) ∧ w = w' := by
  have hs : IntKind.u64.signed = false := rfl
  go_enter Try.func165, Try.ntmps165
  go_wp2
  go_ret2
  exact ⟨tuple2 (diff_eq a b c) (borrow_eq a b c ha hb hc), rfl⟩
theorem product_any (a b : Int) (w : World) (ha : 0 ≤ a ∧ a < 18446744073709551616) (hb : 0 ≤ b ∧ b < 18446744073709551616) :
    Calls Try.prog 160 #[.int .u64 a, .int .u64 b] w fun e w' => e = .returned (.tuple #[.int .u64 (pH a b), .int .u64 (pL a b)]) ∧ w = w' := by
  go_enter Try.func160, Try.ntmps160
  go_wp2
  go_ret2
  exact ⟨tuple2 (product_eq a b ha hb).1 (product_eq a b ha hb).2, rfl⟩
end Go.Proofs.Ytpdenhmkpiafiaa

/-! Add: u256.Add AND u256.Sub: the sum and the difference of two numbers of four words, or that there is none. -/
namespace Go.Proofs.Ytpdenhmkpiafiaa
open Go Go.RowKit

def M : Nat := 115792089237316195423570985008687907853269984665640564039457584007913129639936
theorem M_W : (M : Int) = W ^ 4 := by unfold M W; decide
theorem IsW.ltM {x0 x1 x2 x3 : Int} {n : Nat} (h : IsW x0 x1 x2 x3 n) : n < M := by have := h.lt; rw [← M_W] at this; omega
theorem isW_zero : IsW 0 0 0 0 0 := ⟨fun i => by unfold sel4; (repeat' split) <;> exact ⟨Int.le_refl _, W_pos⟩, by simp [psum, sel4]⟩
def addN (a b : Nat) : Nat := if a + b < M then a + b else 0
def addB (a b : Nat) : Bool := decide (a + b < M)
def subB (a b : Nat) : Bool := decide (b ≤ a)

theorem aggT31 : AggT Try.prog 31 4 := ⟨⟨_, Try.underlying31, rfl⟩, by kernel_rfl⟩
/-- a number, and whether it is one -/
def Pair (w : World) (n : Nat) (ok : Bool) (e : Ending) (w' : World) : Prop :=
  ∃ x0 x1 x2 x3 : Int, e = .returned (.tuple #[.agg #[.int .u64 x0, .int .u64 x1, .int .u64 x2, .int .u64 x3], .bool ok]) ∧ IsW x0 x1 x2 x3 n ∧ Below w.heap.size w w'

/-- a number -/
def One (w : World) (n : Nat) (e : Ending) (w' : World) : Prop :=
  ∃ x0 x1 x2 x3 : Int, e = .returned (.agg #[.int .u64 x0, .int .u64 x1, .int .u64 x2, .int .u64 x3]) ∧ IsW x0 x1 x2 x3 n ∧ Below w.heap.size w w'

/-- what holds of the words that are done -/
def AddInv (f : Nat → Int) (C : Int) (a b : Nat → Int) (k : Nat) : Prop := Wordy f ∧ psum f k + C * W ^ k = psum a k + psum b k
theorem AddInv.step {f a b : Nat → Int} {C : Int} {k : Nat} (h : AddInv f C a b k) : AddInv (upd f k (cS (a k) (b k) C)) (cC (a k) (b k) C) a b (k + 1) := by
  refine ⟨h.1.upd k (cS_bd _ _ _), ?_⟩
  have h2 := h.2
  have hv := carry_val (a k) (b k) C
  simp only [psum]
  rw [psum_upd_ge _ _ _ (Nat.le_refl k), upd_same, Int.pow_succ]
  generalize W ^ k = X at *
  generalize cS (a k) (b k) C = s at *
  generalize cC (a k) (b k) C = t at *
  grind
def SubInv (f : Nat → Int) (C : Int) (a b : Nat → Int) (k : Nat) : Prop := Wordy f ∧ psum f k - C * W ^ k = psum a k - psum b k
theorem SubInv.step {f a b : Nat → Int} {C : Int} {k : Nat} (h : SubInv f C a b k) : SubInv (upd f k (bS (a k) (b k) C)) (bC (a k) (b k) C) a b (k + 1) := by
  refine ⟨h.1.upd k (bS_bd _ _ _), ?_⟩
  have h2 := h.2
  have hv := borrow_val (a k) (b k) C
  simp only [psum]
  rw [psum_upd_ge _ _ _ (Nat.le_refl k), upd_same, Int.pow_succ]
  generalize W ^ k = X at *
  generalize bS (a k) (b k) C = s at *
  generalize bC (a k) (b k) C = t at *
  grind

theorem AddInv.none {f : Nat → Int} {C a0 a1 a2 a3 b0 b1 b2 b3 : Int} {a b : Nat} (h : AddInv f C (sel4 a0 a1 a2 a3) (sel4 b0 b1 b2 b3) 4) (ha : IsW a0 a1 a2 a3 a) (hb : IsW b0 b1 b2 b3 b) (hC : C = 0) :
    IsW (f 0) (f 1) (f 2) (f 3) (addN a b) ∧ addB a b = true := by
  have h2 := h.2
  rw [hC, Int.zero_mul, Int.add_zero, ← ha.val, ← hb.val] at h2
  have hl := (psum_bd h.1 4).2
  rw [← M_W] at hl
  have hlt : a + b < M := by omega
  exact ⟨IsW.of h.1 (by unfold addN; rw [if_pos hlt, h2]; omega), by simp [addB, hlt]⟩
theorem AddInv.some_ {f : Nat → Int} {C a0 a1 a2 a3 b0 b1 b2 b3 : Int} {a b : Nat} (h : AddInv f C (sel4 a0 a1 a2 a3) (sel4 b0 b1 b2 b3) 4) (ha : IsW a0 a1 a2 a3 a) (hb : IsW b0 b1 b2 b3 b) (hC : C = 1) :
    addN a b = 0 ∧ addB a b = false := by
  have h2 := h.2
  rw [hC, Int.one_mul, ← M_W, ← ha.val, ← hb.val] at h2
  have hl := (psum_bd h.1 4).1
  have hge : ¬ a + b < M := by omega
  exact ⟨by unfold addN; rw [if_neg hge], by simp [addB, hge]⟩
theorem SubInv.none {f : Nat → Int} {C a0 a1 a2 a3 b0 b1 b2 b3 : Int} {a b : Nat} (h : SubInv f C (sel4 a0 a1 a2 a3) (sel4 b0 b1 b2 b3) 4) (ha : IsW a0 a1 a2 a3 a) (hb : IsW b0 b1 b2 b3 b) (hC : C = 0) :
    IsW (f 0) (f 1) (f 2) (f 3) (a - b) ∧ subB a b = true := by
  have h2 := h.2
  rw [hC, Int.zero_mul, Int.sub_zero, ← ha.val, ← hb.val] at h2
  have hl := (psum_bd h.1 4).1
  have hle : b ≤ a := by omega
  exact ⟨IsW.of h.1 (by rw [h2]; omega), by simp [subB, hle]⟩
theorem SubInv.some_ {f : Nat → Int} {C a0 a1 a2 a3 b0 b1 b2 b3 : Int} {a b : Nat} (h : SubInv f C (sel4 a0 a1 a2 a3) (sel4 b0 b1 b2 b3) 4) (ha : IsW a0 a1 a2 a3 a) (hb : IsW b0 b1 b2 b3 b) (hC : C = 1) :
    a - b = 0 ∧ subB a b = false := by
  have h2 := h.2
  rw [hC, Int.one_mul, ← M_W, ← ha.val, ← hb.val] at h2
  have hl := (psum_bd h.1 4).2
  rw [← M_W] at hl
  have hge : ¬ b ≤ a := by omega
  exact ⟨by omega, by simp [subB, hge]⟩

set_option maxHeartbeats 1000000 in
theorem add_any (a0 a1 a2 a3 b0 b1 b2 b3 : Int) (a b : Nat) (ha : IsW a0 a1 a2 a3 a) (hb : IsW b0 b1 b2 b3 b) (w : World) :
    Calls Try.prog 46 #[.agg #[.int .u64 a0, .int .u64 a1, .int .u64 a2, .int .u64 a3], .agg #[.int .u64 b0, .int .u64 b1, .int .u64 b2, .int .u64 b3]] w (Pair w (addN a b) (addB a b)) := by
  go_enter Try.func46, Try.ntmps46
  go_wp2
  go_loopg [7, 9] 4 (fun g c i wr => ∃ (k : Nat) (f : Nat → Int) (C : Int), k + g = 4 ∧ i = .int .i64 (k : Int) ∧ c = .int .u64 C ∧ 0 ≤ C ∧ C ≤ 1 ∧ w.heap.size + 1 + 1 + 1 < wr.heap.size ∧
     Below w.heap.size w wr ∧ Row wr w.heap.size 31 (arr .u64 (sel4 a0 a1 a2 a3) 4) ∧ Row wr (w.heap.size + 1) 31 (arr .u64 (sel4 b0 b1 b2 b3) 4) ∧ Row wr (w.heap.size + 1 + 1) 31 (arr .u64 (fun _ => 0) 4) ∧ Row wr (w.heap.size + 1 + 1 + 1) 31 (arr .u64 f 4) ∧ AddInv f C (sel4 a0 a1 a2 a3) (sel4 b0 b1 b2 b3) k)
  case atStart =>
    refine ⟨0, fun _ => 0, 0, rfl, rfl, rfl, by omega, by omega, by simp, by go_grown, ?_, ?_, ?_, ?_, wordy_zero, by simp [psum]⟩ <;> repeat (first | (refine Row.new_at ?_; simp; done) | refine Row.alloc ?_ _)
  case round =>
    obtain ⟨k, f, C, hk, rfl, rfl, hC0, hC1, hsz, hbl, ra, rb, rr, ro, inv⟩ := hrel
    by_cases hlt : k < 4
    · have ca := ra.at_ k hlt
      have cb := rb.at_ k hlt
      have co := ro.at_ k hlt
      have fo := ro.frozen k
      have wa := ha.wordy k
      have wb := hb.wordy k
      have H := Lib.hid (show _ ∧ _ ∧ _ ∧ _ from ⟨ra, rb, rr, ro⟩)
      clear ra rb rr ro
      go_wp2_with fail
      go_region_with (go_at_call 158; refine (carry_any _ _ _ _ wa wb ⟨hC0, hC1⟩).mono ?_; rintro e w' ⟨rfl, rfl⟩)
      all_goals
        go_wp2_with fail
        go_roundg (gk - 1)
        case measure => omega
        case rel =>
          obtain ⟨ra, rb, rr, ro⟩ := H.out
          have hc := cC_bd _ _ _ wa wb ⟨hC0, hC1⟩
          exact ⟨k + 1, _, _, by omega, by go_num, rfl, hc.1, hc.2, by simpa using hsz, by go_grown, (ra.far (by dsimp only; omega) _).drew, (rb.far (by dsimp only; omega) _).drew, (rr.far (by dsimp only; omega) _).drew, (ro.put k hlt _).drew, inv.step⟩
    · obtain rfl : k = 4 := by omega
      have c0 := ro.at_ 0 (by omega)
      have c1 := ro.at_ 1 (by omega)
      have c2 := ro.at_ 2 (by omega)
      have c3 := ro.at_ 3 (by omega)
      have d0 := rr.at_ 0 (by omega)
      have d1 := rr.at_ 1 (by omega)
      have d2 := rr.at_ 2 (by omega)
      have d3 := rr.at_ 3 (by omega)
      have f0 := rr.frozen 0
      have f1 := rr.frozen 1
      have f2 := rr.frozen 2
      have f3 := rr.frozen 3
      have H := Lib.hid (show _ ∧ _ from ⟨rr, hsz⟩)
      clear ra rb rr ro hlt
      by_cases hC : C = 0
      · have e : ((C : Int) != 0) = false := by simp [hC]
        have fin := inv.none ha hb hC
        clear hC inv
        have fin := Lib.hid fin
        go_wp2
        refine bodyPost_ret (results_ct rfl aggT31 rfl (H.out.1.store4 rfl _ _ _ _) rfl) rfl ?_
        exact ⟨_, _, _, _, by rw [fin.out.2]; rfl, fin.out.1, by go_grown⟩
      · have e : ((C : Int) != 0) = true := by simp [hC]
        have fin := inv.some_ ha hb (by omega)
        clear hC inv
        have fin := Lib.hid fin
        go_wp2
        refine bodyPost_ret (results_ct rfl aggT31 rfl (H.out.1.store4 rfl _ _ _ _) rfl) rfl ?_
        exact ⟨_, _, _, _, by rw [fin.out.2]; rfl, by rw [fin.out.1]; exact isW_zero, by go_grown⟩

set_option maxHeartbeats 1000000 in
theorem sub_any (a0 a1 a2 a3 b0 b1 b2 b3 : Int) (a b : Nat) (ha : IsW a0 a1 a2 a3 a) (hb : IsW b0 b1 b2 b3 b) (w : World) :
    Calls Try.prog 52 #[.agg #[.int .u64 a0, .int .u64 a1, .int .u64 a2, .int .u64 a3], .agg #[.int .u64 b0, .int .u64 b1, .int .u64 b2, .int .u64 b3]] w (Pair w (a - b) (subB a b)) := by
  go_enter Try.func52, Try.ntmps52
  go_wp2
  go_loopg [7, 9] 4 (fun g c i wr => ∃ (k : Nat) (f : Nat → Int) (C : Int), k + g = 4 ∧ i = .int .i64 (k : Int) ∧ c = .int .u64 C ∧ 0 ≤ C ∧ C ≤ 1 ∧ w.heap.size + 1 + 1 + 1 < wr.heap.size ∧
     Below w.heap.size w wr ∧ Row wr w.heap.size 31 (arr .u64 (sel4 a0 a1 a2 a3) 4) ∧ Row wr (w.heap.size + 1) 31 (arr .u64 (sel4 b0 b1 b2 b3) 4) ∧ Row wr (w.heap.size + 1 + 1) 31 (arr .u64 (fun _ => 0) 4) ∧ Row wr (w.heap.size + 1 + 1 + 1) 31 (arr .u64 f 4) ∧ SubInv f C (sel4 a0 a1 a2 a3) (sel4 b0 b1 b2 b3) k)
  case atStart =>
    refine ⟨0, fun _ => 0, 0, rfl, rfl, rfl, by omega, by omega, by simp, by go_grown, ?_, ?_, ?_, ?_, wordy_zero, by simp [psum]⟩ <;> repeat (first | (refine Row.new_at ?_; simp; done) | refine Row.alloc ?_ _)
  case round =>
    obtain ⟨k, f, C, hk, rfl, rfl, hC0, hC1, hsz, hbl, ra, rb, rr, ro, inv⟩ := hrel
    by_cases hlt : k < 4
    · have ca := ra.at_ k hlt
      have cb := rb.at_ k hlt
      have co := ro.at_ k hlt
      have fo := ro.frozen k
      have wa := ha.wordy k
      have wb := hb.wordy k
      have H := Lib.hid (show _ ∧ _ ∧ _ ∧ _ from ⟨ra, rb, rr, ro⟩)
      clear ra rb rr ro
      go_wp2_with fail
      go_region_with (go_at_call 165; refine (borrow_any _ _ _ _ wa wb ⟨hC0, hC1⟩).mono ?_; rintro e w' ⟨rfl, rfl⟩)
      all_goals
        go_wp2_with fail
        go_roundg (gk - 1)
        case measure => omega
        case rel =>
          obtain ⟨ra, rb, rr, ro⟩ := H.out
          have hc := bC_bd _ _ _ wa wb ⟨hC0, hC1⟩
          exact ⟨k + 1, _, _, by omega, by go_num, rfl, hc.1, hc.2, by simpa using hsz, by go_grown, (ra.far (by dsimp only; omega) _).drew, (rb.far (by dsimp only; omega) _).drew, (rr.far (by dsimp only; omega) _).drew, (ro.put k hlt _).drew, inv.step⟩
    · obtain rfl : k = 4 := by omega
      have c0 := ro.at_ 0 (by omega)
      have c1 := ro.at_ 1 (by omega)
      have c2 := ro.at_ 2 (by omega)
      have c3 := ro.at_ 3 (by omega)
      have d0 := rr.at_ 0 (by omega)
      have d1 := rr.at_ 1 (by omega)
      have d2 := rr.at_ 2 (by omega)
      have d3 := rr.at_ 3 (by omega)
      have f0 := rr.frozen 0
      have f1 := rr.frozen 1
      have f2 := rr.frozen 2
      have f3 := rr.frozen 3
      have H := Lib.hid (show _ ∧ _ from ⟨rr, hsz⟩)
      clear ra rb rr ro hlt
      by_cases hC : C = 0
      · have e : ((C : Int) != 0) = false := by simp [hC]
        have fin := inv.none ha hb hC
        clear hC inv
        have fin := Lib.hid fin
        go_wp2
        refine bodyPost_ret (results_ct rfl aggT31 rfl (H.out.1.store4 rfl _ _ _ _) rfl) rfl ?_
        exact ⟨_, _, _, _, by rw [fin.out.2]; rfl, fin.out.1, by go_grown⟩
      · have e : ((C : Int) != 0) = true := by simp [hC]
        have fin := inv.some_ ha hb (by omega)
        clear hC inv
        have fin := Lib.hid fin
        go_wp2
        refine bodyPost_ret (results_ct rfl aggT31 rfl (H.out.1.store4 rfl _ _ _ _) rfl) rfl ?_
        exact ⟨_, _, _, _, by rw [fin.out.2]; rfl, by rw [fin.out.1]; exact isW_zero, by go_grown⟩
end Go.Proofs.Ytpdenhmkpiafiaa

/-! Used: u256.used AND u256.Cmp, Min: how many words a number has; which of two is less. -/
namespace Go.Proofs.Ytpdenhmkpiafiaa
open Go Go.RowKit

/-- how many words are not noughts above -/
def wlen (n : Nat) : Nat := if n = 0 then 0 else if n < 18446744073709551616 then 1 else if n < 340282366920938463463374607431768211456 then 2 else if n < 6277101735386680763835789423207666416102355444464034512896 then 3 else 4
theorem wlen_le (n : Nat) : wlen n ≤ 4 := by unfold wlen; (repeat' split) <;> omega
theorem psum_top {f : Nat → Int} (h : Wordy f) (k : Nat) (hk : f k ≠ 0) : W ^ k ≤ psum f (k + 1) := by
  have h1 := (psum_bd h k).1
  have h2 := h k
  have h3 := Wpow_pos k
  have h4 : 1 * W ^ k ≤ f k * W ^ k := Int.mul_le_mul_of_nonneg_right (by omega) (by omega)
  unfold psum; omega
theorem wlen_eq {n k : Nat} {f : Nat → Int} (h : Wordy f) (hk : f k ≠ 0) (hlt : k < 4) (hn : (n : Int) = psum f (k + 1)) : wlen n = k + 1 := by
  have h1 := psum_top h k hk
  have h2 := (psum_bd h (k + 1)).2
  rw [← hn] at h1 h2
  have : k = 0 ∨ k = 1 ∨ k = 2 ∨ k = 3 := by omega
  rcases this with rfl | rfl | rfl | rfl <;> simp [W] at h1 h2 <;> unfold wlen <;> (repeat' split) <;> omega

set_option maxHeartbeats 400000 in
theorem used_any (a0 a1 a2 a3 : Int) (a : Nat) (ha : IsW a0 a1 a2 a3 a) (w : World) :
    Calls Try.prog 159 #[.agg #[.int .u64 a0, .int .u64 a1, .int .u64 a2, .int .u64 a3]] w fun e w' => e = .returned (.int .i64 (wlen a)) ∧ Below w.heap.size w w' := by
  go_enter Try.func159, Try.ntmps159
  go_wp2
  go_loopg [3] 4 (fun g i wr => ∃ (k : Nat), k = g ∧ k ≤ 4 ∧ i = .int .i64 (k : Int) ∧ Below w.heap.size w wr ∧ Row wr w.heap.size 31 (arr .u64 (sel4 a0 a1 a2 a3) 4) ∧ Hid ((a : Int) = psum (sel4 a0 a1 a2 a3) k))
  case atStart =>
    refine ⟨4, rfl, by omega, rfl, by go_grown, ?_, ha.val⟩ <;> repeat (first | (refine Row.new_at ?_; simp; done) | refine Row.alloc ?_ _)
  case round =>
    obtain ⟨k, rfl, hk, rfl, hbl, ra, hv⟩ := hrel
    by_cases h0 : 0 < k
    · obtain ⟨j, rfl⟩ : ∃ j, k = j + 1 := ⟨k - 1, by omega⟩
      have ca := ra.at_ j (by omega)
      have wa := ha.wordy j
      have H := Lib.hid (show _ ∧ _ from ⟨ra, hv⟩)
      clear ra hv
      have e1 : ((j + 1 : Nat) : Int) - 1 = (j : Int) := by omega
      have e2 : ((j + 1 : Nat) : Int).toNat - 1 = j := by omega
      by_cases hz : sel4 a0 a1 a2 a3 j = 0
      · have hz' : (sel4 a0 a1 a2 a3 j != 0) = false := by simp [hz]
        have HZ := Lib.hid hz
        clear hz
        go_wp2
        go_roundg j
        case measure => omega
        case rel =>
          obtain ⟨ra, hv⟩ := H.out
          refine ⟨j, rfl, by omega, rfl, by go_grown, ra, ?_⟩
          have h := hv.out
          simp only [psum] at h
          rw [HZ.out] at h
          show (a : Int) = _
          rw [h]; simp
      · have hz' : (sel4 a0 a1 a2 a3 j != 0) = true := by simp [hz]
        have fin := Lib.hid (wlen_eq ha.wordy hz (by omega) H.out.2.out)
        clear hz
        go_wp2
        go_ret
        exact ⟨by rw [fin.out]; rfl, by go_grown⟩
    · obtain rfl : k = 0 := by omega
      have hz : a = 0 := by have := hv.out; simp [psum] at this; exact this
      have fin := Lib.hid hz
      clear hv hz h0
      go_wp2
      go_ret
      exact ⟨by rw [fin.out]; rfl, by go_grown⟩

/-- which of two is less -/
def cmpN (a b : Nat) : Int := if a < b then -1 else if b < a then 1 else 0
theorem psum_lt {f g : Nat → Int} (hf : Wordy f) (hg : Wordy g) {k : Nat} (h : f k < g k) : psum f (k + 1) < psum g (k + 1) := by
  have h1 := (psum_bd hf k).2
  have h2 := (psum_bd hg k).1
  have h3 := Wpow_pos k
  have h4 : (f k + 1) * W ^ k ≤ g k * W ^ k := Int.mul_le_mul_of_nonneg_right (by omega) (by omega)
  rw [Int.add_mul, Int.one_mul] at h4
  simp only [psum]; omega
/-- what holds of the words above: they are alike -/
def CmpInv (a b : Nat) (f g : Nat → Int) (k : Nat) : Prop := (a : Int) - b = psum f k - psum g k
theorem CmpInv.lt {a b : Nat} {f g : Nat → Int} {k : Nat} (h : CmpInv a b f g (k + 1)) (hf : Wordy f) (hg : Wordy g) (hl : f k < g k) : cmpN a b = -1 := by
  have := psum_lt hf hg hl
  unfold CmpInv at h
  unfold cmpN; rw [if_pos (by omega)]
theorem CmpInv.gt {a b : Nat} {f g : Nat → Int} {k : Nat} (h : CmpInv a b f g (k + 1)) (hf : Wordy f) (hg : Wordy g) (hl : g k < f k) : cmpN a b = 1 := by
  have := psum_lt hg hf hl
  unfold CmpInv at h
  unfold cmpN; rw [if_neg (by omega), if_pos (by omega)]
theorem CmpInv.eq {a b : Nat} {f g : Nat → Int} {k : Nat} (h : CmpInv a b f g (k + 1)) (hl : f k = g k) : CmpInv a b f g k := by
  unfold CmpInv at h ⊢
  simp only [psum] at h
  rw [hl] at h; omega

set_option maxHeartbeats 1000000 in
theorem cmp_any (a0 a1 a2 a3 b0 b1 b2 b3 : Int) (a b : Nat) (ha : IsW a0 a1 a2 a3 a) (hb : IsW b0 b1 b2 b3 b) (w : World) :
    Calls Try.prog 48 #[.agg #[.int .u64 a0, .int .u64 a1, .int .u64 a2, .int .u64 a3], .agg #[.int .u64 b0, .int .u64 b1, .int .u64 b2, .int .u64 b3]] w fun e w' => e = .returned (.int .i64 (cmpN a b)) ∧ Below w.heap.size w w' := by
  go_enter Try.func48, Try.ntmps48
  go_wp2
  go_loopg [5] 4 (fun g i wr => g ≤ 4 ∧ i = .int .i64 ((g : Int) - 1) ∧ Below w.heap.size w wr ∧ Row wr w.heap.size 31 (arr .u64 (sel4 a0 a1 a2 a3) 4) ∧ Row wr (w.heap.size + 1) 31 (arr .u64 (sel4 b0 b1 b2 b3) 4) ∧ Hid (CmpInv a b (sel4 a0 a1 a2 a3) (sel4 b0 b1 b2 b3) g))
  case atStart =>
    refine ⟨by omega, rfl, by go_grown, ?_, ?_, show (a : Int) - b = _ by rw [ha.val, hb.val]⟩ <;> repeat (first | (refine Row.new_at ?_; simp; done) | refine Row.alloc ?_ _)
  case round =>
    obtain ⟨hk, rfl, hbl, ra, rb, hv⟩ := hrel
    by_cases h0 : 0 < gk
    · obtain ⟨j, rfl⟩ : ∃ j, gk = j + 1 := ⟨gk - 1, by omega⟩
      have ca := ra.at_ j (by omega)
      have cb := rb.at_ j (by omega)
      have H := Lib.hid (show _ ∧ _ ∧ _ from ⟨ra, rb, hv⟩)
      clear ra rb hv h0
      rw [show (((j + 1 : Nat) : Int) - 1) = (j : Int) from by omega]
      have wa := ha.wordy j
      have wb := hb.wordy j
      rcases Int.lt_trichotomy (sel4 a0 a1 a2 a3 j) (sel4 b0 b1 b2 b3 j) with hl | hl | hl
      · have fin := Lib.hid (H.out.2.2.out.lt ha.wordy hb.wordy hl)
        have d1 : decide (sel4 a0 a1 a2 a3 j < sel4 b0 b1 b2 b3 j) = true := by simpa using hl
        clear hl
        go_wp2_with fail
        go_quiet (fail)
        go_wp2
        go_ret
        exact ⟨by rw [fin.out]; rfl, belowDN hbl _⟩
      · have fin := Lib.hid (H.out.2.2.out.eq hl)
        have d1 : decide (sel4 a0 a1 a2 a3 j < sel4 b0 b1 b2 b3 j) = false := by simp [hl]
        have d2 : decide (sel4 b0 b1 b2 b3 j < sel4 a0 a1 a2 a3 j) = false := by simp [hl]
        clear hl
        go_wp2_with fail
        go_quiet (fail)
        go_wp2_with fail
        go_quiet (fail)
        go_wp2
        go_roundg j
        case measure => omega
        case rel => exact ⟨by omega, rfl, belowDN hbl _, H.out.1, H.out.2.1, fin⟩
      · have fin := Lib.hid (H.out.2.2.out.gt ha.wordy hb.wordy hl)
        have d1 : decide (sel4 a0 a1 a2 a3 j < sel4 b0 b1 b2 b3 j) = false := by simp; omega
        have d2 : decide (sel4 b0 b1 b2 b3 j < sel4 a0 a1 a2 a3 j) = true := by simpa using hl
        clear hl
        go_wp2_with fail
        go_quiet (fail)
        go_wp2_with fail
        go_quiet (fail)
        go_wp2
        go_ret
        exact ⟨by rw [fin.out]; rfl, belowDN (belowDN hbl _) _⟩
    · obtain rfl : gk = 0 := by omega
      have hz : cmpN a b = 0 := by
        have h := hv.out
        simp [CmpInv, psum] at h
        unfold cmpN; rw [if_neg (by omega), if_neg (by omega)]
      have fin := Lib.hid hz
      clear hv hz h0
      go_wp2
      go_ret
      exact ⟨by rw [fin.out]; rfl, by go_grown⟩

set_option maxHeartbeats 400000 in
theorem min_any (a0 a1 a2 a3 b0 b1 b2 b3 : Int) (a b : Nat) (ha : IsW a0 a1 a2 a3 a) (hb : IsW b0 b1 b2 b3 b) (w : World) :
    Calls Try.prog 58 #[.agg #[.int .u64 a0, .int .u64 a1, .int .u64 a2, .int .u64 a3], .agg #[.int .u64 b0, .int .u64 b1, .int .u64 b2, .int .u64 b3]] w (One w (if a ≤ b then a else b)) := by
  by_cases h : a ≤ b
  · have hc : cmpN a b ≤ 0 := by unfold cmpN; (repeat' split) <;> omega
    rw [if_pos h]
    clear h
    go_enter Try.func58, Try.ntmps58
    go_wp2_with fail
    refine (cmp_any _ _ _ _ _ _ _ _ a b ha hb _).mono ?_
    rintro e w1 ⟨rfl, hb1⟩
    obtain ⟨hc1, hf1⟩ := bcell hb1
    have hl1 : Below w.heap.size w w1 := Below.trans (by go_grown) (hb1.mono (by go_size))
    have rr : Row w1 (w.heap.size + 1 + 1) 31 (arr .u64 (fun _ => 0) 4) := Row.below (by repeat (first | (refine Row.new_at ?_; simp; done) | refine Row.alloc ?_ _)) hb1 (by go_size)
    go_wp2
    refine bodyPost_ret (results_c rfl aggT31 rfl (rr.store4 rfl _ _ _ _) rfl) rfl ?_
    exact ⟨_, _, _, _, rfl, ha, by go_grown⟩
  · have hc : ¬ cmpN a b ≤ 0 := by unfold cmpN; (repeat' split) <;> omega
    rw [if_neg h]
    clear h
    go_enter Try.func58, Try.ntmps58
    go_wp2_with fail
    refine (cmp_any _ _ _ _ _ _ _ _ a b ha hb _).mono ?_
    rintro e w1 ⟨rfl, hb1⟩
    obtain ⟨hc1, hf1⟩ := bcell hb1
    have hl1 : Below w.heap.size w w1 := Below.trans (by go_grown) (hb1.mono (by go_size))
    have rr : Row w1 (w.heap.size + 1 + 1) 31 (arr .u64 (fun _ => 0) 4) := Row.below (by repeat (first | (refine Row.new_at ?_; simp; done) | refine Row.alloc ?_ _)) hb1 (by go_size)
    go_wp2
    refine bodyPost_ret (results_c rfl aggT31 rfl (rr.store4 rfl _ _ _ _) rfl) rfl ?_
    exact ⟨_, _, _, _, rfl, hb, by go_grown⟩
end Go.Proofs.Ytpdenhmkpiafiaa

/-! Dbl: u256.double AND u256.wrap: twice a number and a bit; a number and 2^256, less another. -/
namespace Go.Proofs.Ytpdenhmkpiafiaa
open Go Go.RowKit

theorem shl_or (x c : Int) (hx : 0 ≤ x ∧ x < 18446744073709551616) (hc : 0 ≤ c ∧ c ≤ 1) : bits .or .u64 (IntKind.u64.wrap (x * 2)) c = (2 * x) % 18446744073709551616 + c := by
  obtain ⟨X, rfl⟩ := Int.eq_ofNat_of_zero_le hx.1
  obtain ⟨C, rfl⟩ := Int.eq_ofNat_of_zero_le hc.1
  have e : IntKind.u64.wrap ((X : Int) * 2) = (((X % 9223372036854775808) * 2 : Nat) : Int) := by rw [IntKind.wrap_u64]; omega
  rw [e, u64_or_nat _ _ (by omega) (by omega)]
  have := Nat.two_pow_add_eq_or_of_lt (i := 1) (b := C) (by omega) (X % 9223372036854775808)
  rw [Nat.mul_comm (X % 9223372036854775808), show (2 : Nat) = 2 ^ 1 from rfl, ← this]; omega
/-- twice a number and a bit, what stays and what falls out above -/
def dblN (a b : Nat) : Nat := (2 * a + b) % M
def dblC (a b : Nat) : Nat := (2 * a + b) / M
def DblInv (f : Nat → Int) (C : Int) (a : Nat → Int) (b : Int) (k : Nat) : Prop := Wordy f ∧ 0 ≤ C ∧ C ≤ 1 ∧ (∀ i, k ≤ i → f i = a i) ∧ psum f k + C * W ^ k = 2 * psum a k + b
theorem DblInv.step {f a : Nat → Int} {C b : Int} {k : Nat} (h : DblInv f C a b k) : DblInv (upd f k ((2 * f k) % 18446744073709551616 + C)) (f k / 9223372036854775808) a b (k + 1) := by
  obtain ⟨h1, h2, h3, h4, h5⟩ := h
  have hk := h4 k (Nat.le_refl k)
  have hw := h1 k
  unfold W at hw
  refine ⟨h1.upd k (by unfold W; omega), by omega, by omega, fun i hi => ?_, ?_⟩
  · rw [upd_ne _ _ _ _ (by omega)]; exact h4 i (by omega)
  · simp only [psum]
    rw [psum_upd_ge _ _ _ (Nat.le_refl k), upd_same, Int.pow_succ, ← hk]
    have hv : (2 * f k) % 18446744073709551616 + W * (f k / 9223372036854775808) = 2 * f k := by unfold W; omega
    generalize W ^ k = X at *
    generalize (2 * f k) % 18446744073709551616 = s at *
    generalize f k / 9223372036854775808 = t at *
    grind
theorem DblInv.fin {f : Nat → Int} {C a0 a1 a2 a3 : Int} {a b : Nat} (h : DblInv f C (sel4 a0 a1 a2 a3) b 4) (ha : IsW a0 a1 a2 a3 a) : IsW (f 0) (f 1) (f 2) (f 3) (dblN a b) ∧ (dblC a b : Int) = C := by
  obtain ⟨h1, h2, h3, h4, h5⟩ := h
  rw [← ha.val, ← M_W] at h5
  have hb := psum_bd h1 4
  rw [← M_W] at hb
  have hM : (0 : Int) < M := by rw [M_W]; exact Wpow_pos 4
  obtain ⟨F, hF⟩ := Int.eq_ofNat_of_zero_le hb.1
  obtain ⟨c, rfl⟩ := Int.eq_ofNat_of_zero_le h2
  rw [hF] at h5 hb
  have h6 : F + c * M = 2 * a + b := by
    have : ((F + c * M : Nat) : Int) = ((2 * a + b : Nat) : Int) := by rw [Int.natCast_add, Int.natCast_mul]; omega
    exact Int.ofNat_inj.1 this
  have hFM : F < M := by omega
  refine ⟨IsW.of h1 ?_, ?_⟩
  · unfold dblN; rw [hF, ← h6, Nat.add_mul_mod_self_right, Nat.mod_eq_of_lt hFM]
  · unfold dblC; rw [← h6, Nat.add_mul_div_right _ _ (by omega), Nat.div_eq_of_lt hFM, Nat.zero_add]

/-- a number and a word -/
def Two (w : World) (n : Nat) (c : Int) (e : Ending) (w' : World) : Prop :=
  ∃ x0 x1 x2 x3 : Int, e = .returned (.tuple #[.agg #[.int .u64 x0, .int .u64 x1, .int .u64 x2, .int .u64 x3], .int .u64 c]) ∧ IsW x0 x1 x2 x3 n ∧ Below w.heap.size w w'

set_option maxHeartbeats 1000000 in
theorem double_any (a0 a1 a2 a3 b : Int) (a : Nat) (B : Nat) (ha : IsW a0 a1 a2 a3 a) (hb : b = B) (hB : B ≤ 1) (w : World) :
    Calls Try.prog 169 #[.agg #[.int .u64 a0, .int .u64 a1, .int .u64 a2, .int .u64 a3], .int .u64 b] w (Two w (dblN a B) (dblC a B)) := by
  subst hb
  go_enter Try.func169, Try.ntmps169
  go_wp2
  go_loopg [1, 8] 4 (fun g c i wr => ∃ (k : Nat) (f : Nat → Int) (C : Int), k + g = 4 ∧ i = .int .i64 (k : Int) ∧ c = .int .u64 C ∧
     Below w.heap.size w wr ∧ Row wr w.heap.size 31 (arr .u64 f 4) ∧ Row wr (w.heap.size + 1) 31 (arr .u64 (fun _ => 0) 4) ∧ DblInv f C (sel4 a0 a1 a2 a3) B k)
  case atStart =>
    refine ⟨0, sel4 a0 a1 a2 a3, B, rfl, rfl, rfl, by go_grown, ?_, ?_, ha.wordy, by omega, by omega, fun _ _ => rfl, by simp [psum]⟩ <;> repeat (first | (refine Row.new_at ?_; simp; done) | refine Row.alloc ?_ _)
  case round =>
    obtain ⟨k, f, C, hk, rfl, rfl, hbl, ra, rr, inv⟩ := hrel
    by_cases hlt : k < 4
    · have ca := ra.at_ k hlt
      have fa := ra.frozen k
      have wa := inv.1 k
      have e1 := shl_or (f k) C wa ⟨inv.2.1, inv.2.2.1⟩
      have H := Lib.hid (show _ ∧ _ ∧ _ from ⟨ra, rr, inv⟩)
      clear ra rr inv
      go_wp2
      go_roundg (gk - 1)
      case measure => omega
      case rel =>
        obtain ⟨ra, rr, inv⟩ := H.out
        exact ⟨k + 1, _, _, by omega, by go_num, rfl, by go_grown, ra.put k hlt _, rr.far (by dsimp only; omega) _, inv.step⟩
    · obtain rfl : k = 4 := by omega
      have c0 := ra.at_ 0 (by omega)
      have c1 := ra.at_ 1 (by omega)
      have c2 := ra.at_ 2 (by omega)
      have c3 := ra.at_ 3 (by omega)
      have d0 := rr.at_ 0 (by omega)
      have d1 := rr.at_ 1 (by omega)
      have d2 := rr.at_ 2 (by omega)
      have d3 := rr.at_ 3 (by omega)
      have f0 := rr.frozen 0
      have f1 := rr.frozen 1
      have f2 := rr.frozen 2
      have f3 := rr.frozen 3
      have fin := Lib.hid (inv.fin ha)
      have H := Lib.hid rr
      clear ra rr hlt inv
      go_wp2
      refine bodyPost_ret (results_ct rfl aggT31 rfl (H.out.store4 rfl _ _ _ _) rfl) rfl ?_
      exact ⟨_, _, _, _, by rw [fin.out.2]; rfl, fin.out.1, by go_grown⟩

def wrapN (a b : Nat) : Nat := (a + M - b) % M
def WrapInv (f : Nat → Int) (C : Int) (a b : Nat → Int) (k : Nat) : Prop := (∀ i, k ≤ i → f i = a i) ∧ 0 ≤ C ∧ C ≤ 1 ∧ SubInv f C a b k
theorem WrapInv.step {f a b : Nat → Int} {C : Int} {k : Nat} (h : WrapInv f C a b k) (ha : Wordy a) (hb : Wordy b) : WrapInv (upd f k (bS (f k) (b k) C)) (bC (f k) (b k) C) a b (k + 1) := by
  obtain ⟨h1, h2, h3, h4⟩ := h
  have hk := h1 k (Nat.le_refl k)
  have hc := bC_bd (a k) (b k) C (ha k) (hb k) ⟨h2, h3⟩
  rw [hk]
  exact ⟨fun i hi => by rw [upd_ne _ _ _ _ (by omega)]; exact h1 i (by omega), hc.1, hc.2, h4.step⟩
theorem WrapInv.fin {f : Nat → Int} {C a0 a1 a2 a3 b0 b1 b2 b3 : Int} {a b : Nat} (h : WrapInv f C (sel4 a0 a1 a2 a3) (sel4 b0 b1 b2 b3) 4) (ha : IsW a0 a1 a2 a3 a) (hb : IsW b0 b1 b2 b3 b) : IsW (f 0) (f 1) (f 2) (f 3) (wrapN a b) := by
  obtain ⟨h1, h2, h3, h4, h5⟩ := h
  rw [← ha.val, ← hb.val, ← M_W] at h5
  have hp := psum_bd h4 4
  rw [← M_W] at hp
  have la := ha.ltM
  have lb := hb.ltM
  refine IsW.of h4 ?_
  unfold wrapN
  rcases (show C = 0 ∨ C = 1 by omega) with rfl | rfl
  · rw [Int.zero_mul] at h5
    have e : a + M - b = (a - b) + M := by omega
    rw [e, Nat.add_mod_right, Nat.mod_eq_of_lt (by omega)]; omega
  · rw [Int.one_mul] at h5
    rw [Nat.mod_eq_of_lt (by omega)]; omega

set_option maxHeartbeats 1000000 in
theorem wrap_any (a0 a1 a2 a3 b0 b1 b2 b3 : Int) (a b : Nat) (ha : IsW a0 a1 a2 a3 a) (hb : IsW b0 b1 b2 b3 b) (w : World) :
    Calls Try.prog 170 #[.agg #[.int .u64 a0, .int .u64 a1, .int .u64 a2, .int .u64 a3], .agg #[.int .u64 b0, .int .u64 b1, .int .u64 b2, .int .u64 b3]] w (One w (wrapN a b)) := by
  go_enter Try.func170, Try.ntmps170
  go_wp2
  go_loopg [5, 7] 4 (fun g c i wr => ∃ (k : Nat) (f : Nat → Int) (C : Int), k + g = 4 ∧ i = .int .i64 (k : Int) ∧ c = .int .u64 C ∧
     Below w.heap.size w wr ∧ Row wr w.heap.size 31 (arr .u64 f 4) ∧ Row wr (w.heap.size + 1) 31 (arr .u64 (sel4 b0 b1 b2 b3) 4) ∧ Row wr (w.heap.size + 1 + 1) 31 (arr .u64 (fun _ => 0) 4) ∧ WrapInv f C (sel4 a0 a1 a2 a3) (sel4 b0 b1 b2 b3) k)
  case atStart =>
    refine ⟨0, sel4 a0 a1 a2 a3, 0, rfl, rfl, rfl, by go_grown, ?_, ?_, ?_, fun _ _ => rfl, by omega, by omega, ha.wordy, by simp [psum]⟩ <;> repeat (first | (refine Row.new_at ?_; simp; done) | refine Row.alloc ?_ _)
  case round =>
    obtain ⟨k, f, C, hk, rfl, rfl, hbl, ra, rb, rr, inv⟩ := hrel
    by_cases hlt : k < 4
    · have ca := ra.at_ k hlt
      have fa := ra.frozen k
      have cb := rb.at_ k hlt
      have wa := inv.2.2.2.1 k
      have wb := hb.wordy k
      have hC0 := inv.2.1
      have hC1 := inv.2.2.1
      have H := Lib.hid (show _ ∧ _ ∧ _ ∧ _ from ⟨ra, rb, rr, inv⟩)
      clear ra rb rr inv
      go_wp2_with fail
      go_region_with (go_at_call 165; refine (borrow_any _ _ _ _ wa wb ⟨hC0, hC1⟩).mono ?_; rintro e w' ⟨rfl, rfl⟩)
      all_goals
        go_wp2_with fail
        go_roundg (gk - 1)
        case measure => omega
        case rel =>
          obtain ⟨ra, rb, rr, inv⟩ := H.out
          exact ⟨k + 1, _, _, by omega, by go_num, rfl, by go_grown, (ra.put k hlt _).drew, (rb.far (by dsimp only; omega) _).drew, (rr.far (by dsimp only; omega) _).drew, inv.step ha.wordy hb.wordy⟩
    · obtain rfl : k = 4 := by omega
      have c0 := ra.at_ 0 (by omega)
      have c1 := ra.at_ 1 (by omega)
      have c2 := ra.at_ 2 (by omega)
      have c3 := ra.at_ 3 (by omega)
      have d0 := rr.at_ 0 (by omega)
      have d1 := rr.at_ 1 (by omega)
      have d2 := rr.at_ 2 (by omega)
      have d3 := rr.at_ 3 (by omega)
      have f0 := rr.frozen 0
      have f1 := rr.frozen 1
      have f2 := rr.frozen 2
      have f3 := rr.frozen 3
      have fin := Lib.hid (inv.fin ha hb)
      have H := Lib.hid rr
      clear ra rb rr hlt inv
      go_wp2
      refine bodyPost_ret (results_c rfl aggT31 rfl (H.out.store4 rfl _ _ _ _) rfl) rfl ?_
      exact ⟨_, _, _, _, rfl, fin.out, by go_grown⟩
end Go.Proofs.Ytpdenhmkpiafiaa

/-! Small: u256.small: a number divided by a half word: how often, and what is left. -/
namespace Go.Proofs.Ytpdenhmkpiafiaa
open Go Go.RowKit

theorem psum_succ (f : Nat → Int) (n : Nat) : psum f (n + 1) = psum f n + f n * W ^ n := rfl
theorem psum_upd {f : Nat → Int} {k : Nat} (x : Int) : ∀ {n : Nat}, k < n → psum (upd f k x) n = psum f n + (x - f k) * W ^ k
  | 0, h => absurd h (by omega)
  | n + 1, h => by
    unfold psum
    by_cases e : k = n
    · subst e
      rw [psum_upd_ge _ _ _ (Nat.le_refl k), upd_same, Int.sub_mul]; omega
    · rw [psum_upd x (by omega), upd_ne _ _ _ _ (by omega)]; omega

def smQ (r x d : Int) : Int := (r * 18446744073709551616 + x) / d
def smR (r x d : Int) : Int := (r * 18446744073709551616 + x) % d
theorem quo_rem_of {n d q r : Int} (h0 : 0 ≤ r) (h1 : r < d) (h : n = d * q + r) : n / d = q ∧ n % d = r := by
  subst h
  have hd : d ≠ 0 := by omega
  exact ⟨by rw [Int.add_comm, Int.add_mul_ediv_left _ _ hd, Int.ediv_eq_zero_of_lt h0 h1, Int.zero_add], by rw [Int.add_comm, Int.add_mul_emod_self_left, Int.emod_eq_of_lt h0 h1]⟩
theorem small_eq (R x D : Int) (hD : 1 ≤ D ∧ D ≤ 4294967295) (hR : 0 ≤ R ∧ R < D) (hx : 0 ≤ x ∧ x < 18446744073709551616) :
    bits .or .u64 (IntKind.u64.wrap (IntKind.u64.wrap ((bits .or .u64 (R * 4294967296) (x / 4294967296)).tdiv D) * 4294967296))
      (IntKind.u64.wrap ((bits .or .u64 (IntKind.u64.wrap ((bits .or .u64 (R * 4294967296) (x / 4294967296)).tmod D * 4294967296)) (bits .and .u64 x 4294967295)).tdiv D)) = smQ R x D ∧
    (bits .or .u64 (IntKind.u64.wrap ((bits .or .u64 (R * 4294967296) (x / 4294967296)).tmod D * 4294967296)) (bits .and .u64 x 4294967295)).tmod D = smR R x D := by
  have u : ∀ y : Int, 0 ≤ y → y < 18446744073709551616 → IntKind.u64.wrap y = y := fun y h1 h2 => by rw [IntKind.wrap_u64]; omega
  rw [or_add R (x / 4294967296) (by omega) (by omega), and_low x hx]
  have hH0 : 0 ≤ R * 4294967296 + x / 4294967296 := by omega
  rw [Int.tmod_eq_emod_of_nonneg hH0, Int.tdiv_eq_ediv_of_nonneg hH0]
  have hH1 : R * 4294967296 + x / 4294967296 < D * 4294967296 := by omega
  have r1 := Int.emod_nonneg (R * 4294967296 + x / 4294967296) (show D ≠ 0 by omega)
  have r2 := Int.emod_lt_of_pos (R * 4294967296 + x / 4294967296) (show 0 < D by omega)
  have q1 : 0 ≤ (R * 4294967296 + x / 4294967296) / D := Int.ediv_nonneg hH0 (by omega)
  have q2 : (R * 4294967296 + x / 4294967296) / D < 4294967296 := Int.ediv_lt_of_lt_mul (by omega) (by omega)
  have e1 := Int.emod_add_mul_ediv (R * 4294967296 + x / 4294967296) D
  generalize (R * 4294967296 + x / 4294967296) % D = rh at *
  generalize (R * 4294967296 + x / 4294967296) / D = qh at *
  rw [u (rh * 4294967296) (by omega) (by omega), or_add rh (x % 4294967296) (by omega) (by omega)]
  have hB0 : 0 ≤ rh * 4294967296 + x % 4294967296 := by omega
  have hB1 : rh * 4294967296 + x % 4294967296 < D * 4294967296 := by omega
  rw [Int.tmod_eq_emod_of_nonneg hB0, Int.tdiv_eq_ediv_of_nonneg hB0]
  have r3 := Int.emod_nonneg (rh * 4294967296 + x % 4294967296) (show D ≠ 0 by omega)
  have r4 := Int.emod_lt_of_pos (rh * 4294967296 + x % 4294967296) (show 0 < D by omega)
  have q3 : 0 ≤ (rh * 4294967296 + x % 4294967296) / D := Int.ediv_nonneg hB0 (by omega)
  have q4 : (rh * 4294967296 + x % 4294967296) / D < 4294967296 := Int.ediv_lt_of_lt_mul (by omega) (by omega)
  have e2 := Int.emod_add_mul_ediv (rh * 4294967296 + x % 4294967296) D
  generalize (rh * 4294967296 + x % 4294967296) % D = rb at *
  generalize (rh * 4294967296 + x % 4294967296) / D = qb at *
  rw [u qh (by omega) (by omega), u (qh * 4294967296) (by omega) (by omega), u qb (by omega) (by omega), or_add qh qb ⟨q1, q2⟩ ⟨q3, q4⟩]
  have hn : R * 18446744073709551616 + x = D * (qh * 4294967296 + qb) + rb := by
    rw [Int.mul_add, ← Int.mul_assoc]
    generalize D * qh = t at *
    generalize D * qb = v at *
    omega
  have h := quo_rem_of r3 r4 hn
  unfold smQ smR
  exact ⟨h.1.symm, h.2.symm⟩

def SmInv (f : Nat → Int) (R : Int) (a : Nat → Int) (D : Int) (k : Nat) : Prop := Wordy f ∧ 0 ≤ R ∧ R < D ∧ (∀ i, i < k → f i = a i) ∧ D * (psum f 4 - psum f k) + R * W ^ k = psum a 4 - psum a k
theorem sm_ring {D F G y X R A B r q V : Int} (h5 : D * (F - (G + y * X)) + R * (X * V) = A - (B + y * X)) (h : (r + D * q) * X = (R * V + y) * X) : D * (F + (q - y) * X - G) + r * X = A - B := by
  grind
theorem SmInv.step {f a : Nat → Int} {R D : Int} {k : Nat} (h : SmInv f R a D (k + 1)) (hk : k < 4) : SmInv (upd f k (smQ R (f k) D)) (smR R (f k) D) a D k := by
  obtain ⟨h1, h2, h3, h4, h5⟩ := h
  have wk := h1 k
  have hD : 0 < D := by omega
  have e := Int.emod_add_mul_ediv (R * 18446744073709551616 + f k) D
  have q0 : 0 ≤ smQ R (f k) D := Int.ediv_nonneg (by omega) (by omega)
  have q1 : smQ R (f k) D < W := Int.ediv_lt_of_lt_mul hD (by unfold W at *; have : (R + 1) * 18446744073709551616 ≤ D * 18446744073709551616 := Int.mul_le_mul_of_nonneg_right (by omega) (by omega); rw [Int.mul_comm]; omega)
  refine ⟨h1.upd k ⟨q0, q1⟩, Int.emod_nonneg _ (by omega), Int.emod_lt_of_pos _ hD, fun i hi => ?_, ?_⟩
  · rw [upd_ne _ _ _ _ (by omega)]; exact h4 i (by omega)
  · rw [psum_upd _ hk, psum_upd_ge _ _ _ (Nat.le_refl k)]
    have ha := h4 k (by omega)
    rw [psum_succ f k, psum_succ a k, Int.pow_succ] at h5
    unfold smQ smR
    rw [← ha] at h5
    rw [show (18446744073709551616 : Int) = W from rfl] at *
    generalize (R * W + f k) % D = r at *
    generalize (R * W + f k) / D = q at *
    generalize psum f 4 = F at *
    generalize psum f k = G at *
    generalize W ^ k = X at *
    generalize psum a 4 = A at *
    generalize psum a k = B at *
    generalize f k = y at *
    have : (r + D * q) * X = (R * W + y) * X := by rw [e]
    exact sm_ring h5 this
theorem SmInv.fin {f : Nat → Int} {R a0 a1 a2 a3 : Int} {a D : Nat} (h : SmInv f R (sel4 a0 a1 a2 a3) D 0) (ha : IsW a0 a1 a2 a3 a) : IsW (f 0) (f 1) (f 2) (f 3) (a / D) ∧ ((a % D : Nat) : Int) = R := by
  obtain ⟨h1, h2, h3, h4, h5⟩ := h
  rw [← ha.val] at h5
  rw [show psum f 0 = 0 from rfl, show psum (sel4 a0 a1 a2 a3) 0 = 0 from rfl, Int.pow_zero, Int.mul_one, Int.sub_zero, Int.sub_zero] at h5
  have := quo_rem_of h2 h3 h5.symm
  refine ⟨IsW.of h1 ?_, ?_⟩
  · rw [Int.natCast_ediv]; exact this.1
  · rw [Int.natCast_emod]; exact this.2

set_option maxHeartbeats 1000000 in
theorem small_any (a0 a1 a2 a3 d : Int) (a D : Nat) (ha : IsW a0 a1 a2 a3 a) (hd : d = D) (h1 : 1 ≤ D) (h2 : D ≤ 4294967295) (w : World) :
    Calls Try.prog 168 #[.agg #[.int .u64 a0, .int .u64 a1, .int .u64 a2, .int .u64 a3], .int .u64 d] w (Two w (a / D) ((a % D : Nat) : Int)) := by
  subst hd
  go_enter Try.func168, Try.ntmps168
  go_wp2
  go_loopg [6, 7] 4 (fun g r i wr => ∃ (f : Nat → Int) (R : Int), g ≤ 4 ∧ i = .int .i64 ((g : Int) - 1) ∧ r = .int .u64 R ∧
     Below w.heap.size w wr ∧ Row wr w.heap.size 31 (arr .u64 f 4) ∧ Row wr (w.heap.size + 1) 31 (arr .u64 (fun _ => 0) 4) ∧ SmInv f R (sel4 a0 a1 a2 a3) D g)
  case atStart =>
    refine ⟨sel4 a0 a1 a2 a3, 0, by omega, rfl, rfl, by go_grown, ?_, ?_, ha.wordy, by omega, by omega, fun _ _ => rfl, by simp⟩ <;> repeat (first | (refine Row.new_at ?_; simp; done) | refine Row.alloc ?_ _)
  case round =>
    obtain ⟨f, R, hk, rfl, rfl, hbl, ra, rr, inv⟩ := hrel
    have hR0 := inv.2.1
    have hR1 := inv.2.2.1
    by_cases h0 : 0 < gk
    · obtain ⟨j, rfl⟩ : ∃ j, gk = j + 1 := ⟨gk - 1, by omega⟩
      rw [show (((j + 1 : Nat) : Int) - 1) = (j : Int) from by omega]
      have ca := ra.at_ j (by omega)
      have fa := ra.frozen j
      have wa := inv.1 j
      have hd0 : ¬ ((D : Int) = 0) := by omega
      have hd0' : ((D : Int) == 0) = false := by simp; omega
      have H := Lib.hid (show _ ∧ _ ∧ _ from ⟨ra, rr, inv⟩)
      clear ra rr inv h0
      go_wp2_with fail
      go_quiet (fail)
      go_wp2_with fail
      go_region
      go_wp2_with fail
      go_roundg j
      case measure => omega
      case rel =>
        obtain ⟨ra, rr, inv⟩ := H.out
        have he := small_eq R (f j) D ⟨by omega, by omega⟩ ⟨hR0, hR1⟩ wa
        rw [he.1, he.2]
        exact ⟨_, _, by omega, rfl, rfl, (belowDN hbl _).setCell (Nat.le_refl _) _, Row.put (w := wr.drewN _) (ra.drewN _) j (by omega) _, Row.far (w := wr.drewN _) (rr.drewN _) (by dsimp only; omega) _, inv.step (by omega)⟩
    · obtain rfl : gk = 0 := by omega
      have c0 := ra.at_ 0 (by omega)
      have c1 := ra.at_ 1 (by omega)
      have c2 := ra.at_ 2 (by omega)
      have c3 := ra.at_ 3 (by omega)
      have d0 := rr.at_ 0 (by omega)
      have d1 := rr.at_ 1 (by omega)
      have d2 := rr.at_ 2 (by omega)
      have d3 := rr.at_ 3 (by omega)
      have f0 := rr.frozen 0
      have f1 := rr.frozen 1
      have f2 := rr.frozen 2
      have f3 := rr.frozen 3
      have fin := Lib.hid (inv.fin ha)
      have H := Lib.hid rr
      clear ra rr h0 inv
      go_wp2
      refine bodyPost_ret (results_ct rfl aggT31 rfl (H.out.store4 rfl _ _ _ _) rfl) rfl ?_
      exact ⟨_, _, _, _, by rw [fin.out.2]; rfl, fin.out.1, by go_grown⟩
end Go.Proofs.Ytpdenhmkpiafiaa

/-! MulPlain: THE PLAIN LAW OF LONG MULTIPLICATION, word by word. No program in sight. -/
namespace Go.Proofs.Ytpdenhmkpiafiaa
open Go Go.RowKit

def mS (x y f c : Int) : Int := (x * y + f + c) % 18446744073709551616
def mC (x y f c : Int) : Int := (x * y + f + c) / 18446744073709551616
theorem mul_step (x y f c : Int) (hx : 0 ≤ x ∧ x < 18446744073709551616) (hy : 0 ≤ y ∧ y < 18446744073709551616) (hf : 0 ≤ f ∧ f < 18446744073709551616) (hc : 0 ≤ c ∧ c < 18446744073709551616) :
    cS (cS (pL x y) f 0) c 0 = mS x y f c ∧ IntKind.u64.wrap (IntKind.u64.wrap (pH x y + cC (pL x y) f 0) + cC (cS (pL x y) f 0) c 0) = mC x y f c ∧ 0 ≤ mC x y f c ∧ mC x y f c < 18446744073709551616 ∧ 0 ≤ mS x y f c ∧ mS x y f c < 18446744073709551616 := by
  have h0 : 0 ≤ x * y := Int.mul_nonneg hx.1 hy.1
  have h1 : x * y ≤ 18446744073709551615 * y := Int.mul_le_mul_of_nonneg_right (by omega) hy.1
  rw [IntKind.wrap_u64, IntKind.wrap_u64]
  unfold cS cC pL pH mS mC
  generalize x * y = t at *
  omega
theorem mul_step_val (x y f c : Int) : mS x y f c + W * mC x y f c = x * y + f + c := by unfold mS mC W; omega

/-- after i words of a: what out holds -/
def MulInv (f a b : Nat → Int) (i : Nat) : Prop := Wordy f ∧ (∀ m, i + 4 ≤ m → f m = 0) ∧ psum f (i + 4) = psum a i * psum b 4
/-- .. and of the next word's products j are added, c is carried -/
def MulMid (f : Nat → Int) (c : Int) (a b : Nat → Int) (i j : Nat) : Prop :=
  Wordy f ∧ (∀ m, i + 4 ≤ m → f m = 0) ∧ 0 ≤ c ∧ c < 18446744073709551616 ∧ psum f (i + 4) + c * W ^ (i + j) = psum a i * psum b 4 + a i * psum b j * W ^ i
theorem MulInv.zero (a b : Nat → Int) : MulInv (fun _ => 0) a b 0 := ⟨wordy_zero, fun _ _ => rfl, by rw [psum_zero]; simp [psum]⟩
theorem MulInv.mid {f a b : Nat → Int} {i : Nat} (h : MulInv f a b i) : MulMid f 0 a b i 0 :=
  ⟨h.1, h.2.1, by omega, by omega, by rw [h.2.2]; simp [psum]⟩
theorem mid_ring {F f c A x B y X s t V P Q : Int} (h : F + c * (P * Q) = A * X + x * B * P) (hv : s + V * t = x * y + f + c) : F + (s - f) * (P * Q) + t * (P * (Q * V)) = A * X + x * (B + y * Q) * P := by
  have : (s + V * t) * (P * Q) = (x * y + f + c) * (P * Q) := by rw [hv]
  grind
theorem MulMid.step {f a b : Nat → Int} {c : Int} {i j : Nat} (h : MulMid f c a b i j) (ha : Wordy a) (hb : Wordy b) (hj : j < 4) :
    MulMid (upd f (i + j) (mS (a i) (b j) (f (i + j)) c)) (mC (a i) (b j) (f (i + j)) c) a b i (j + 1) := by
  obtain ⟨h1, h2, h3, h4, h5⟩ := h
  have hs := mul_step (a i) (b j) (f (i + j)) c (ha i) (hb j) (h1 _) ⟨h3, h4⟩
  have hv := mul_step_val (a i) (b j) (f (i + j)) c
  refine ⟨h1.upd _ hs.2.2.2.2, fun m hm => ?_, hs.2.2.1, hs.2.2.2.1, ?_⟩
  · rw [upd_ne _ _ _ _ (by omega)]; exact h2 m hm
  · rw [psum_upd _ (by omega), psum_succ b j, ← Nat.add_assoc, Int.pow_succ (W) (i + j), Int.pow_add, Int.mul_assoc (W ^ i)]
    rw [Int.pow_add] at h5
    exact mid_ring h5 hv
theorem MulMid.done {f a b : Nat → Int} {c : Int} {i : Nat} (h : MulMid f c a b i 4) : MulInv (upd f (i + 4) c) a b (i + 1) := by
  obtain ⟨h1, h2, h3, h4, h5⟩ := h
  refine ⟨h1.upd _ ⟨h3, h4⟩, fun m hm => ?_, ?_⟩
  · rw [upd_ne _ _ _ _ (by omega)]; exact h2 m (by omega)
  · rw [show i + 1 + 4 = (i + 4) + 1 by omega, psum_succ, psum_upd_ge _ _ _ (Nat.le_refl _), upd_same, psum_succ a i, h5]
    grind
theorem psum_tail {f : Nat → Int} {k : Nat} (h : ∀ m, k ≤ m → f m = 0) : ∀ n, k ≤ n → psum f n = psum f k := by
  intro n
  induction n with
  | zero => intro hn; rw [show k = 0 by omega]
  | succ n ih =>
    intro hn
    by_cases e : k = n + 1
    · rw [e]
    · rw [psum_succ, ih (by omega), h n (by omega)]; simp
theorem psum_wlen {a0 a1 a2 a3 : Int} {a : Nat} (h : IsW a0 a1 a2 a3 a) : psum (sel4 a0 a1 a2 a3) (wlen a) = a := by
  by_cases h0 : wlen a = 0
  · rw [h0]
    have : a = 0 := by unfold wlen at h0; (repeat' split at h0) <;> omega
    rw [this]; rfl
  · obtain ⟨j, hj⟩ : ∃ j, wlen a = j + 1 := ⟨wlen a - 1, by omega⟩
    have hv := h.val
    have w0 := h.wordy 0
    have w1 := h.wordy 1
    have w2 := h.wordy 2
    have w3 := h.wordy 3
    simp [sel4, W, psum] at w0 w1 w2 w3 hv
    unfold wlen at hj ⊢
    (repeat' split) <;> simp [sel4, psum, W] <;> omega
theorem mul_fin {f : Nat → Int} {a0 a1 a2 a3 b0 b1 b2 b3 : Int} {a b : Nat} (ha : IsW a0 a1 a2 a3 a) (hb : IsW b0 b1 b2 b3 b) (h : MulInv f (sel4 a0 a1 a2 a3) (sel4 b0 b1 b2 b3) (wlen a)) : psum f 8 = ((a * b : Nat) : Int) := by
  have hl := wlen_le a
  rw [psum_tail h.2.1 8 (by omega), h.2.2, psum_wlen ha, ← hb.val, Int.natCast_mul]
def mulN (a b : Nat) : Nat := if a * b < M then a * b else 0
def mulB (a b : Nat) : Bool := decide (a * b < M)
theorem psum8 (f : Nat → Int) : psum f 8 = psum f 4 + W ^ 4 * (f 4 + f 5 * W + f 6 * W ^ 2 + f 7 * W ^ 3) := by
  simp only [psum]
  grind
/-- the upper half is nought -/
def Low (f : Nat → Int) : Prop := f 4 = 0 ∧ f 5 = 0 ∧ f 6 = 0 ∧ f 7 = 0
theorem low_iff {f : Nat → Int} (h : Wordy f) {n : Nat} (hn : psum f 8 = (n : Int)) : (Low f → IsW (f 0) (f 1) (f 2) (f 3) n ∧ n < M) ∧ (¬ Low f → ¬ n < M) := by
  rw [psum8, ← M_W] at hn
  have hb := psum_bd h 4
  rw [← M_W] at hb
  have h4 := h 4
  have h5 := h 5
  have h6 := h 6
  have h7 := h 7
  constructor
  · rintro ⟨e4, e5, e6, e7⟩
    rw [e4, e5, e6, e7] at hn
    simp at hn
    exact ⟨IsW.of h hn.symm, by omega⟩
  · intro hl hlt
    have hT : 1 ≤ f 4 + f 5 * W + f 6 * W ^ 2 + f 7 * W ^ 3 := by
      rcases (show 0 < (f 4 + f 5 * W + f 6 * W ^ 2 + f 7 * W ^ 3) ∨ (f 4 + f 5 * W + f 6 * W ^ 2 + f 7 * W ^ 3) ≤ 0 by omega) with h0 | h0
      · omega
      · exfalso
        apply hl
        unfold W at *
        simp only [Int.reducePow] at h0
        refine ⟨?_, ?_, ?_, ?_⟩ <;> omega
    generalize f 4 + f 5 * W + f 6 * W ^ 2 + f 7 * W ^ 3 = T at *
    have h8 : (M : Int) * 1 ≤ M * T := Int.mul_le_mul_of_nonneg_left hT (by omega)
    omega
theorem wlen_ge {n : Nat} (h : wlen n ≠ 0) : W ^ (wlen n - 1) ≤ (n : Int) := by
  unfold wlen at *
  (repeat' split at h) <;> (repeat' split) <;> simp [W] at * <;> omega
theorem big_mul {a b : Nat} (h : 5 < wlen a + wlen b) : ¬ a * b < M := by
  have la := wlen_le a
  have lb := wlen_le b
  have h1 := wlen_ge (n := a) (by omega)
  have h2 := wlen_ge (n := b) (by omega)
  have h3 : W ^ (wlen a - 1) * W ^ (wlen b - 1) ≤ (a : Int) * b := Int.mul_le_mul h1 h2 (Int.le_of_lt (Wpow_pos _)) (by omega)
  rw [← Int.pow_add] at h3
  have h4 : W ^ 4 ≤ W ^ (wlen a - 1 + (wlen b - 1)) := by
    rw [show wlen a - 1 + (wlen b - 1) = 4 + (wlen a - 1 + (wlen b - 1) - 4) by omega, Int.pow_add]
    have h5 := Wpow_pos (wlen a - 1 + (wlen b - 1) - 4)
    have h6 : W ^ 4 * 1 ≤ W ^ 4 * W ^ (wlen a - 1 + (wlen b - 1) - 4) := Int.mul_le_mul_of_nonneg_left (by omega) (Int.le_of_lt (Wpow_pos 4))
    omega
  rw [← M_W] at h4
  intro hlt
  have : ((a * b : Nat) : Int) < M := Int.ofNat_lt.2 hlt
  rw [Int.natCast_mul] at this
  omega
end Go.Proofs.Ytpdenhmkpiafiaa

/-! Eq: WHETHER TWO NUMBERS OF FOUR WORDS ARE THE SAME: Go's '==' on [4]uint64. -/
namespace Go.Proofs.Ytpdenhmkpiafiaa
open Go Go.RowKit

theorem run_eq4 {P : Program} {t e : TypeId} {i : TypeInfo} (d : Nat) (ht : P.underlying t = some (.array 4 e)) (he : P.underlying e = some (.int .u64)) (hi : P.info? e = some i) (hc : P.cellsOf e = 1)
    (x0 x1 x2 x3 y0 y1 y2 y3 : Int) (w : World) :
    (Op.equalIn (d + 2) t (.agg #[.int .u64 x0, .int .u64 x1, .int .u64 x2, .int .u64 x3]) (.agg #[.int .u64 y0, .int .u64 y1, .int .u64 y2, .int .u64 y3])).run P w = .ok (x0 == y0 && (x1 == y1 && (x2 == y2 && x3 == y3))) w := by
  rw [run_equalIn_array w (d + 1) _ _ ht hi, hc]
  have r4 : List.range 4 = [0, 1, 2, 3] := rfl
  rw [r4]
  have e1 : ∀ (a b : Int) (wx : World), (Op.equalIn (d + 1) e (.int .u64 a) (.int .u64 b)).run P wx = .ok (a == b) wx := fun a b wx => by
    simp [Op.equalIn, run_underlying he]
  simp [Op.eqItems, part, isAgg, run_underlying he, e1]
  by_cases h0 : x0 = y0 <;> by_cases h1 : x1 = y1 <;> by_cases h2 : x2 = y2 <;> by_cases h3 : x3 = y3 <;> simp [h0, h1, h2, h3]
theorem cells29 : Try.prog.cellsOf 29 = 1 := by kernel_rfl
theorem some29 : (Try.prog.info? 29).isSome = true := by kernel_rfl
theorem eq30 (x0 x1 x2 x3 y0 y1 y2 y3 : Int) (w : World) :
    (Op.equalIn 10000 30 (.agg #[.int .u64 x0, .int .u64 x1, .int .u64 x2, .int .u64 x3]) (.agg #[.int .u64 y0, .int .u64 y1, .int .u64 y2, .int .u64 y3])).run Try.prog w = .ok (x0 == y0 && (x1 == y1 && (x2 == y2 && x3 == y3))) w := by
  obtain ⟨i, hi⟩ := Option.isSome_iff_exists.1 some29
  exact run_eq4 9998 Try.underlying30 Try.underlying29 hi cells29 x0 x1 x2 x3 y0 y1 y2 y3 w
theorem eq31 (x0 x1 x2 x3 y0 y1 y2 y3 : Int) (w : World) :
    (Op.equalIn 10000 31 (.agg #[.int .u64 x0, .int .u64 x1, .int .u64 x2, .int .u64 x3]) (.agg #[.int .u64 y0, .int .u64 y1, .int .u64 y2, .int .u64 y3])).run Try.prog w = .ok (x0 == y0 && (x1 == y1 && (x2 == y2 && x3 == y3))) w := by
  obtain ⟨i, hi⟩ := Option.isSome_iff_exists.1 some29
  exact run_eq4 9998 Try.underlying31 Try.underlying29 hi cells29 x0 x1 x2 x3 y0 y1 y2 y3 w
end Go.Proofs.Ytpdenhmkpiafiaa

/-! Mul: u256.Mul: the product of two numbers of four words, or that there is none. -/
namespace Go.Proofs.Ytpdenhmkpiafiaa
open Go Go.RowKit

theorem Row.four {w : World} {g t : Nat} {k : IntKind} {f : Nat → Int} (h : Row w g t (arr k f 4)) :
    (w.cell? ⟨g, 0, none⟩ = some (.int k (f 0)) ∧ w.cell? ⟨g, 1, none⟩ = some (.int k (f 1)) ∧ w.cell? ⟨g, 2, none⟩ = some (.int k (f 2)) ∧ w.cell? ⟨g, 3, none⟩ = some (.int k (f 3))) ∧
    w.frozen? ⟨g, 0, none⟩ = false ∧ w.frozen? ⟨g, 1, none⟩ = false ∧ w.frozen? ⟨g, 2, none⟩ = false ∧ w.frozen? ⟨g, 3, none⟩ = false :=
  ⟨⟨h.at_ 0 (by omega), h.at_ 1 (by omega), h.at_ 2 (by omega), h.at_ 3 (by omega)⟩, h.frozen 0, h.frozen 1, h.frozen 2, h.frozen 3⟩

theorem run_arrayAt {P : Program} {t n e : Nat} (ht : P.underlying t = some (.array n e)) (p : Addr) (c : Nat) (w : World) : (Instr.arrayAt t (.slice (some p) n c)).run P w = .ok (.pointer (some p)) w := by
  simp [Instr.arrayAt, run_underlying ht]
def bigB (a b : Nat) : Bool := decide ((5 : Int) < ((wlen a : Nat) : Int) + (wlen b : Nat))
set_option maxRecDepth 100000 in
set_option maxHeartbeats 4000000 in
theorem mul_any (a0 a1 a2 a3 b0 b1 b2 b3 : Int) (a b : Nat) (ha : IsW a0 a1 a2 a3 a) (hb : IsW b0 b1 b2 b3 b) (w : World) :
    Calls Try.prog 47 #[.agg #[.int .u64 a0, .int .u64 a1, .int .u64 a2, .int .u64 a3], .agg #[.int .u64 b0, .int .u64 b1, .int .u64 b2, .int .u64 b3]] w (Pair w (mulN a b) (mulB a b)) := by
  have at30 := fun p c wx => run_arrayAt (t := 30) Try.underlying30 p c wx
  have at31 := fun p c wx => run_arrayAt (t := 31) Try.underlying31 p c wx
  have q30 := eq30
  go_enter Try.func47, Try.ntmps47
  have la := wlen_le a
  have lb := wlen_le b
  have ew := Lib.hid (IntWalk.i64_in ((wlen a : Nat) + (wlen b : Nat) : Int) (by omega))
  go_wp2_with fail
  have hk0 : Kept w [(w.heap.size, 31, arr .u64 (sel4 a0 a1 a2 a3) 4), (w.heap.size + 1, 31, arr .u64 (sel4 b0 b1 b2 b3) 4), (w.heap.size + 1 + 1, 31, arr .u64 (fun _ => 0) 4)] (((w.alloc (.cells #[.int .u64 a0, .int .u64 a1, .int .u64 a2, .int .u64 a3] 31)).alloc (.cells #[.int .u64 b0, .int .u64 b1, .int .u64 b2, .int .u64 b3] 31)).alloc (.cells #[.int .u64 0, .int .u64 0, .int .u64 0, .int .u64 0] 31)) := by
    refine ((Kept.one ?_).more ?_ |>.more ?_).more ?_
    · go_grown
    all_goals repeat (first | (refine Row.new_at ?_; simp; done) | refine Row.alloc ?_ _)
  go_cut [18] (fun v wc => v = .bool (bigB a b) ∧ Kept w [(w.heap.size, 31, arr .u64 (sel4 a0 a1 a2 a3) 4), (w.heap.size + 1, 31, arr .u64 (sel4 b0 b1 b2 b3) 4), (w.heap.size + 1 + 1, 31, arr .u64 (fun _ => 0) 4)] wc)
  case first =>
    have hk0d := hk0.drew
    go_region_with (first | (go_at_call 159; (with_reducible refine (used_any a0 a1 a2 a3 a ha _).mono ?_); rintro e w' ⟨rfl, hb1⟩; obtain ⟨hc1, hf1⟩ := bcell hb1; have hk1 := Kept.step ‹Kept w _ _› hb1 (Nat.le_refl _)) | (go_at_call 159; (with_reducible refine (used_any b0 b1 b2 b3 b hb _).mono ?_); rintro e w' ⟨rfl, hb1⟩; obtain ⟨hc1, hf1⟩ := bcell hb1; have hk1 := Kept.step ‹Kept w _ _› hb1 (Nat.le_refl _)))
    all_goals
      go_wp2_with fail
      go_meet
      case rel => exact ⟨by rw [ew.out]; rfl, ‹Kept w _ _›⟩
  case rest =>
    obtain ⟨rfl, hkc⟩ := hcut
    clear hk0
    cases hB : bigB a b with
    | true =>
      have hbig := Lib.hid (big_mul (a := a) (b := b) (by have := of_decide_eq_true hB; omega))
      have rr := hkc.tail.tail.head
      have hl := hkc.1
      obtain ⟨⟨d0, d1, d2, d3⟩, f0, f1, f2, f3⟩ := rr.four
      have RR := Lib.hid rr
      clear rr hkc hB
      go_wp2
      refine bodyPost_ret (results_ct rfl aggT31 rfl (RR.out.store4 rfl _ _ _ _) rfl) rfl ?_
      exact ⟨_, _, _, _, by rw [show mulB a b = false from decide_eq_false hbig.out]; rfl, by rw [show mulN a b = 0 from if_neg hbig.out]; exact isW_zero, by go_grown⟩
    | false =>
      clear hB
      have ra := hkc.head
      have rb := hkc.tail.head
      have rr := hkc.tail.tail.head
      have hl := hkc.1
      have z0 := ra.lt
      have z1 := rb.lt
      have z2 := rr.lt
      obtain ⟨⟨c0, c1, c2, c3⟩, _⟩ := ra.four
      have RR := Lib.hid (show _ ∧ _ ∧ _ from ⟨ra, rb, rr⟩)
      clear ra rb rr hkc
      go_wp2_with fail
      refine (used_any a0 a1 a2 a3 a ha _).mono ?_
      rintro e w1 ⟨rfl, hb1⟩
      obtain ⟨ra, rb, rr⟩ := RR.out
      have ra1 := (ra.alloc (.cells #[.int .u64 0, .int .u64 0, .int .u64 0, .int .u64 0, .int .u64 0, .int .u64 0, .int .u64 0, .int .u64 0] 147)).below hb1 (by go_size)
      have rb1 := (rb.alloc (.cells #[.int .u64 0, .int .u64 0, .int .u64 0, .int .u64 0, .int .u64 0, .int .u64 0, .int .u64 0, .int .u64 0] 147)).below hb1 (by go_size)
      have rr1 := (rr.alloc (.cells #[.int .u64 0, .int .u64 0, .int .u64 0, .int .u64 0, .int .u64 0, .int .u64 0, .int .u64 0, .int .u64 0] 147)).below hb1 (by go_size)
      have ro1 : Row w1 wc.heap.size 147 (arr .u64 (fun _ => 0) 8) := Row.below (Row.new_at rfl) hb1 (by go_size)
      have hl1 : Below w.heap.size w w1 := (hl.alloc (by omega) _).trans (hb1.mono (by simp; omega))
      clear ra rb rr RR hb1 c0 c1 c2 c3 hl
      go_wp2_with fail
      go_loopg [22] (wlen a) (fun g c wr => ∃ (i : Nat) (f : Nat → Int), i + g = wlen a ∧ c = .int .i64 (i : Int) ∧ Below w.heap.size w wr ∧ Row wr w.heap.size 31 (arr .u64 (sel4 a0 a1 a2 a3) 4) ∧ Row wr (w.heap.size + 1) 31 (arr .u64 (sel4 b0 b1 b2 b3) 4) ∧ Row wr (w.heap.size + 1 + 1) 31 (arr .u64 (fun _ => 0) 4) ∧ Row wr wc.heap.size 147 (arr .u64 f 8) ∧ MulInv f (sel4 a0 a1 a2 a3) (sel4 b0 b1 b2 b3) i)
      case atStart => exact ⟨0, _, by omega, rfl, hl1, ra1, rb1, rr1, ro1, MulInv.zero _ _⟩
      case round =>
        obtain ⟨i, f, hi, rfl, hl2, ra2, rb2, rr2, ro2, inv⟩ := hrel
        obtain ⟨wo, rfl⟩ : ∃ wo : World, wo = wr := ⟨_, rfl⟩
        obtain ⟨g1, rfl⟩ : ∃ g1 : Nat, g1 = gk := ⟨_, rfl⟩
        clear ra1 rb1 rr1 ro1 hl1
        by_cases hlt : i < wlen a
        · have H2 := Lib.hid (show _ ∧ _ ∧ _ ∧ _ ∧ _ from ⟨ra2, rb2, rr2, ro2, inv⟩)
          clear ra2 rb2 rr2 ro2 inv
          go_wp2_with fail
          go_loopg [8, 25] 4 (fun g c jv wi => ∃ (j : Nat) (f : Nat → Int) (C : Int), j + g = 4 ∧ jv = .int .i64 (j : Int) ∧ c = .int .u64 C ∧ Below w.heap.size w wi ∧ Row wi w.heap.size 31 (arr .u64 (sel4 a0 a1 a2 a3) 4) ∧ Row wi (w.heap.size + 1) 31 (arr .u64 (sel4 b0 b1 b2 b3) 4) ∧ Row wi (w.heap.size + 1 + 1) 31 (arr .u64 (fun _ => 0) 4) ∧ Row wi wc.heap.size 147 (arr .u64 f 8) ∧ MulMid f C (sel4 a0 a1 a2 a3) (sel4 b0 b1 b2 b3) i j)
          case atStart =>
            obtain ⟨ra2, rb2, rr2, ro2, inv⟩ := H2.out
            exact ⟨0, f, 0, by omega, rfl, rfl, hl2, ra2, rb2, rr2, ro2, inv.mid⟩
          case round =>
            obtain ⟨j, f', C, hj, rfl, rfl, hl3, ra3, rb3, rr3, ro3, mid⟩ := hrel
            by_cases hlj : j < 4
            · have ca := ra3.at_ i (by omega)
              have cb := rb3.at_ j hlj
              have co := ro3.at_ (i + j) (by omega)
              have fo := ro3.frozen (i + j)
              have wa := ha.wordy i
              have wb := hb.wordy j
              have wf := mid.1 (i + j)
              have hC0 := mid.2.2.1
              have hC1 := mid.2.2.2.1
              have st := Lib.hid (mul_step _ _ _ _ wa wb wf ⟨hC0, hC1⟩)
              have H3 := Lib.hid (show _ ∧ _ ∧ _ ∧ _ ∧ _ from ⟨ra3, rb3, rr3, ro3, mid⟩)
              clear ra3 rb3 rr3 ro3 mid
              go_wp2_with fail
              go_quiet ((go_at_call 160; exact Calls.quiet_of_same ((product_any _ _ _ wa wb).mono fun e w' h => ⟨h.1, h.2.symm⟩)))
              go_wp2_with fail
              refine (carry_any _ _ _ _ (pL_bd _ _) wf (by omega)).mono ?_
              rintro e w' ⟨rfl, rfl⟩
              go_wp2_with fail
              refine (carry_any _ _ _ _ (cS_bd _ _ _) ⟨hC0, hC1⟩ (by omega)).mono ?_
              rintro e w' ⟨rfl, rfl⟩
              go_wp2_with fail
              go_roundg (gk - 1)
              case measure => omega
              case rel =>
                obtain ⟨ra3, rb3, rr3, ro3, mid⟩ := H3.out
                have hs := st.out
                rw [hs.1, hs.2.1]
                refine ⟨j + 1, _, _, by omega, by go_num, rfl, (belowDN hl3 _).setCell (by dsimp only; omega) _, Row.far (w := wr.drewN _) (ra3.drewN _) (by dsimp only; omega) _, Row.far (w := wr.drewN _) (rb3.drewN _) (by dsimp only; omega) _, Row.far (w := wr.drewN _) (rr3.drewN _) (by dsimp only; omega) _, Row.put (w := wr.drewN _) (ro3.drewN _) (i + j) (by omega) _, mid.step ha.wordy hb.wordy hlj⟩
            · obtain rfl : j = 4 := by omega
              have ci := ro3.at_ (i + 4) (by omega)
              have fi := ro3.frozen (i + 4)
              have H3 := Lib.hid (show _ ∧ _ ∧ _ ∧ _ ∧ _ from ⟨ra3, rb3, rr3, ro3, mid⟩)
              clear ra3 rb3 rr3 ro3 mid hlj
              go_wp2_with fail
              go_roundg (g1 - 1)
              case measure => omega
              case rel =>
                obtain ⟨ra3, rb3, rr3, ro3, mid⟩ := H3.out
                exact ⟨i + 1, _, by omega, by go_num, hl3.setCell (by dsimp only; omega) _, ra3.far (by dsimp only; omega) _, rb3.far (by dsimp only; omega) _, rr3.far (by dsimp only; omega) _, ro3.put (i + 4) (by omega) _, mid.done⟩
        · obtain rfl : i = wlen a := by omega
          have lo := low_iff inv.1 (mul_fin ha hb inv)
          have o0 := ro2.at_ 0 (by omega)
          have o1 := ro2.at_ 1 (by omega)
          have o2 := ro2.at_ 2 (by omega)
          have o3 := ro2.at_ 3 (by omega)
          have o4 := ro2.at_ 4 (by omega)
          have o5 := ro2.at_ 5 (by omega)
          have o6 := ro2.at_ 6 (by omega)
          have o7 := ro2.at_ 7 (by omega)
          obtain ⟨⟨d0, d1, d2, d3⟩, f0, f1, f2, f3⟩ := rr2.four
          have RR := Lib.hid rr2
          clear ra2 rb2 rr2 ro2 inv hlt
          by_cases hlow : Low f
          · have fin := Lib.hid (lo.1 hlow)
            obtain ⟨e4, e5, e6, e7⟩ := hlow
            rw [e4] at o4
            rw [e5] at o5
            rw [e6] at o6
            rw [e7] at o7
            clear lo e4 e5 e6 e7
            go_wp2_with fail
            refine bodyPost_ret (results_ct rfl aggT31 rfl (RR.out.store4 rfl _ _ _ _) rfl) rfl ?_
            exact ⟨_, _, _, _, by rw [show mulB a b = true from decide_eq_true fin.out.2]; rfl, by rw [show mulN a b = a * b from if_pos fin.out.2]; exact fin.out.1, by go_grown⟩
          · have fin := Lib.hid (lo.2 hlow)
            have hno : (f 4 == 0 && (f 5 == 0 && (f 6 == 0 && f 7 == 0))) = false := by
              cases hb : (f 4 == 0 && (f 5 == 0 && (f 6 == 0 && f 7 == 0))) with
              | false => rfl
              | true => simp at hb; exact absurd hb hlow
            clear lo hlow
            go_wp2_with fail
            refine bodyPost_ret (results_ct rfl aggT31 rfl (RR.out.store4 rfl _ _ _ _) rfl) rfl ?_
            exact ⟨_, _, _, _, by rw [show mulB a b = false from decide_eq_false fin.out]; rfl, by rw [show mulN a b = 0 from if_neg fin.out]; exact isW_zero, by go_grown⟩
end Go.Proofs.Ytpdenhmkpiafiaa

/-! Len: u256.length AND u256.Bits: how many bits a word, and a number, has. -/
namespace Go.Proofs.Ytpdenhmkpiafiaa
open Go Go.RowKit

def blen (n : Nat) : Nat := if n = 0 then 0 else Nat.log2 n + 1
theorem blen_shift {n s : Nat} (h : n / 2 ^ s ≠ 0) : blen n = s + blen (n / 2 ^ s) := by
  have hn : n ≠ 0 := by rintro rfl; simp at h
  unfold blen
  rw [if_neg hn, if_neg h]
  have h1 := (Nat.log2_eq_iff h).1 rfl
  have h2 : n.log2 = (n / 2 ^ s).log2 + s := by
    refine (Nat.log2_eq_iff hn).2 ⟨?_, ?_⟩
    · rw [Nat.pow_add]
      exact Nat.le_trans (Nat.mul_le_mul_right _ h1.1) (Nat.div_mul_le_self _ _)
    · rw [show (n / 2 ^ s).log2 + s + 1 = (n / 2 ^ s).log2 + 1 + s by omega, Nat.pow_add]
      exact (Nat.div_lt_iff_lt_mul (Nat.two_pow_pos s)).1 h1.2
  omega
theorem blen_le {n k : Nat} (h : n < 2 ^ k) : blen n ≤ k := by
  unfold blen
  split
  · omega
  · rename_i h0
    have := (Nat.log2_lt h0).2 h
    omega
theorem blen_one {n : Nat} (h : n < 2) : blen n = n := by
  have : n = 0 ∨ n = 1 := by omega
  rcases this with rfl | rfl <;> decide
/-- the step with so many rounds to come -/
def stp : Nat → Int
  | 0 => 0
  | 1 => 1
  | 2 => 2
  | 3 => 4
  | 4 => 8
  | 5 => 16
  | _ => 32
def bnd : Nat → Int
  | 0 => 2
  | 1 => 4
  | 2 => 16
  | 3 => 256
  | 4 => 65536
  | 5 => 4294967296
  | _ => 18446744073709551616

def LenInv (x N X : Int) (g : Nat) : Prop := g ≤ 6 ∧ 0 ≤ X ∧ X < bnd g ∧ 0 ≤ N ∧ N ≤ 64 ∧ (blen x.toNat : Int) = N + blen X.toNat
theorem LenInv.low {x N X : Int} {g : Nat} (h : LenInv x N X (g + 1)) (p : Int) (hp : 0 < p) (hb : bnd g = p) (hz : X / p = 0) : LenInv x N X g := by
  obtain ⟨h1, h2, h3, h4, h5, h6⟩ := h
  refine ⟨by omega, h2, ?_, h4, h5, h6⟩
  rw [hb]
  have h7 := Int.emod_add_mul_ediv X p
  have h8 := Int.emod_lt_of_pos X hp
  rw [hz, Int.mul_zero] at h7
  omega
theorem LenInv.big {x N X : Int} {g : Nat} (h : LenInv x N X (g + 1)) (hx : x < 18446744073709551616) (p : Nat) (s : Nat) (hp : p = 2 ^ s) (hb : bnd g = p) (hb2 : bnd (g + 1) = p * p) (hz : ¬ X / (p : Int) = 0) : LenInv x (N + s) (X / p) g := by
  obtain ⟨h1, h2, h3, h4, h5, h6⟩ := h
  obtain ⟨Y, rfl⟩ := Int.eq_ofNat_of_zero_le h2
  have hp0 : 0 < p := by rw [hp]; exact Nat.two_pow_pos s
  have e : (Y : Int) / (p : Int) = ((Y / p : Nat) : Int) := (Int.natCast_ediv _ _).symm
  rw [e] at hz ⊢
  rw [hb2] at h3
  have h3' : Y < p * p := by have : (Y : Int) < ((p * p : Nat) : Int) := by rw [Int.natCast_mul]; exact h3
                             exact Int.ofNat_lt.1 this
  have hq : Y / p < p := (Nat.div_lt_iff_lt_mul hp0).2 h3'
  have hs : blen Y = s + blen (Y / p) := by
    rw [hp] at hz ⊢
    exact blen_shift (by omega)
  have h64 : blen x.toNat ≤ 64 := blen_le (by omega)
  rw [Int.toNat_natCast] at h6
  refine ⟨by omega, Int.natCast_nonneg _, by rw [hb]; exact Int.ofNat_lt.2 hq, by omega, by omega, ?_⟩
  rw [Int.toNat_natCast]
  omega
theorem LenInv.last {x N X : Int} (h : LenInv x N X 0) : (blen x.toNat : Int) = N + X := by
  obtain ⟨h1, h2, h3, h4, h5, h6⟩ := h
  rw [blen_one (n := X.toNat) (by have : X < 2 := h3; omega)] at h6
  omega

set_option maxHeartbeats 2000000 in
theorem length_any (x : Int) (hx : 0 ≤ x ∧ x < 18446744073709551616) (w : World) :
    Calls Try.prog 161 #[.int .u64 x] w fun e w' => e = .returned (.int .i64 (blen x.toNat)) ∧ ∃ n, w' = w.drewN n := by
  go_enter Try.func161, Try.ntmps161
  go_wp2
  go_loopg [0, 3, 4] 6 (fun g s0 s3 s4 wr => ∃ N X : Int, s0 = .int .u64 X ∧ s3 = .int .i64 N ∧ s4 = .int .i64 (stp g) ∧ (∃ n, wr = w.drewN n) ∧ LenInv x N X g)
  case atStart => exact ⟨0, x, rfl, rfl, rfl, ⟨0, rfl⟩, by omega, hx.1, hx.2, by omega, by omega, by omega⟩
  case round =>
    obtain ⟨N, X, rfl, rfl, rfl, ⟨n, rfl⟩, inv⟩ := hrel
    have h6 := inv.1
    have hX := inv.2.1
    have hXb := inv.2.2.1
    have hN := inv.2.2.2.1
    have hN' := inv.2.2.2.2.1
    rcases (show gk = 0 ∨ gk = 1 ∨ gk = 2 ∨ gk = 3 ∨ gk = 4 ∨ gk = 5 ∨ gk = 6 by omega) with rfl | rfl | rfl | rfl | rfl | rfl | rfl
    · simp only [stp, bnd] at hXb ⊢
      clear h6
      go_wp2
      go_ret
      refine ⟨?_, _, rfl⟩
      rw [inv.last]; rfl
    · simp only [stp, bnd] at hXb ⊢
      clear h6
      by_cases hz : X / 2 = 0
      · have hz' : (X / 2 != 0) = false := by simp [hz]
        have HZ := Lib.hid (inv.low 2 (by omega) rfl hz)
        clear hz
        go_wp2
        go_roundg 0
        case measure => omega
        case rel => exact ⟨N, X, rfl, rfl, rfl, ⟨_, rfl⟩, HZ.out⟩
      · have hz' : (X / 2 != 0) = true := by simp [hz]
        have HZ := Lib.hid (inv.big hx.2 2 1 (by decide) rfl rfl hz)
        clear hz
        go_wp2_with fail
        go_quiet (fail)
        go_wp2
        go_roundg 0
        case measure => omega
        case rel => exact ⟨N + 1, X / 2, rfl, rfl, rfl, ⟨_, rfl⟩, HZ.out⟩
    · simp only [stp, bnd] at hXb ⊢
      clear h6
      by_cases hz : X / 4 = 0
      · have hz' : (X / 4 != 0) = false := by simp [hz]
        have HZ := Lib.hid (inv.low 4 (by omega) rfl hz)
        clear hz
        go_wp2
        go_roundg 1
        case measure => omega
        case rel => exact ⟨N, X, rfl, rfl, rfl, ⟨_, rfl⟩, HZ.out⟩
      · have hz' : (X / 4 != 0) = true := by simp [hz]
        have HZ := Lib.hid (inv.big hx.2 4 2 (by decide) rfl rfl hz)
        clear hz
        go_wp2_with fail
        go_quiet (fail)
        go_wp2
        go_roundg 1
        case measure => omega
        case rel => exact ⟨N + 2, X / 4, rfl, rfl, rfl, ⟨_, rfl⟩, HZ.out⟩
    · simp only [stp, bnd] at hXb ⊢
      clear h6
      by_cases hz : X / 16 = 0
      · have hz' : (X / 16 != 0) = false := by simp [hz]
        have HZ := Lib.hid (inv.low 16 (by omega) rfl hz)
        clear hz
        go_wp2
        go_roundg 2
        case measure => omega
        case rel => exact ⟨N, X, rfl, rfl, rfl, ⟨_, rfl⟩, HZ.out⟩
      · have hz' : (X / 16 != 0) = true := by simp [hz]
        have HZ := Lib.hid (inv.big hx.2 16 4 (by decide) rfl rfl hz)
        clear hz
        go_wp2_with fail
        go_quiet (fail)
        go_wp2
        go_roundg 2
        case measure => omega
        case rel => exact ⟨N + 4, X / 16, rfl, rfl, rfl, ⟨_, rfl⟩, HZ.out⟩
    · simp only [stp, bnd] at hXb ⊢
      clear h6
      by_cases hz : X / 256 = 0
      · have hz' : (X / 256 != 0) = false := by simp [hz]
        have HZ := Lib.hid (inv.low 256 (by omega) rfl hz)
        clear hz
        go_wp2
        go_roundg 3
        case measure => omega
        case rel => exact ⟨N, X, rfl, rfl, rfl, ⟨_, rfl⟩, HZ.out⟩
      · have hz' : (X / 256 != 0) = true := by simp [hz]
        have HZ := Lib.hid (inv.big hx.2 256 8 (by decide) rfl rfl hz)
        clear hz
        go_wp2_with fail
        go_quiet (fail)
        go_wp2
        go_roundg 3
        case measure => omega
        case rel => exact ⟨N + 8, X / 256, rfl, rfl, rfl, ⟨_, rfl⟩, HZ.out⟩
    · simp only [stp, bnd] at hXb ⊢
      clear h6
      by_cases hz : X / 65536 = 0
      · have hz' : (X / 65536 != 0) = false := by simp [hz]
        have HZ := Lib.hid (inv.low 65536 (by omega) rfl hz)
        clear hz
        go_wp2
        go_roundg 4
        case measure => omega
        case rel => exact ⟨N, X, rfl, rfl, rfl, ⟨_, rfl⟩, HZ.out⟩
      · have hz' : (X / 65536 != 0) = true := by simp [hz]
        have HZ := Lib.hid (inv.big hx.2 65536 16 (by decide) rfl rfl hz)
        clear hz
        go_wp2_with fail
        go_quiet (fail)
        go_wp2
        go_roundg 4
        case measure => omega
        case rel => exact ⟨N + 16, X / 65536, rfl, rfl, rfl, ⟨_, rfl⟩, HZ.out⟩
    · simp only [stp, bnd] at hXb ⊢
      clear h6
      by_cases hz : X / 4294967296 = 0
      · have hz' : (X / 4294967296 != 0) = false := by simp [hz]
        have HZ := Lib.hid (inv.low 4294967296 (by omega) rfl hz)
        clear hz
        go_wp2
        go_roundg 5
        case measure => omega
        case rel => exact ⟨N, X, rfl, rfl, rfl, ⟨_, rfl⟩, HZ.out⟩
      · have hz' : (X / 4294967296 != 0) = true := by simp [hz]
        have HZ := Lib.hid (inv.big hx.2 4294967296 32 (by decide) rfl rfl hz)
        clear hz
        go_wp2_with fail
        go_quiet (fail)
        go_wp2
        go_roundg 5
        case measure => omega
        case rel => exact ⟨N + 32, X / 4294967296, rfl, rfl, rfl, ⟨_, rfl⟩, HZ.out⟩

theorem wlen_split {a0 a1 a2 a3 : Int} {a j : Nat} (h : IsW a0 a1 a2 a3 a) (hj : wlen a = j + 1) : (a : Int) = psum (sel4 a0 a1 a2 a3) (j + 1) ∧ sel4 a0 a1 a2 a3 j ≠ 0 := by
  have w0 := h.wordy 0
  have w1 := h.wordy 1
  have w2 := h.wordy 2
  have w3 := h.wordy 3
  have hv := h.val
  simp [sel4, W, psum] at w0 w1 w2 w3 hv
  unfold wlen at hj
  have : j = 0 ∨ j = 1 ∨ j = 2 ∨ j = 3 := by have := wlen_le a; unfold wlen at this; omega
  rcases this with rfl | rfl | rfl | rfl <;> simp [sel4, psum, W] <;> (repeat' split at hj) <;> omega
theorem blen_word {f : Nat → Int} (h : Wordy f) {a j : Nat} (ha : (a : Int) = psum f (j + 1)) (hf : f j ≠ 0) : blen a = 64 * j + blen (f j).toNat := by
  have hb := psum_bd h j
  have hj := h j
  have hW : (W : Int) ^ j = ((2 ^ (64 * j) : Nat) : Int) := by
    rw [show W = ((2 ^ 64 : Nat) : Int) from rfl, ← Int.natCast_pow, ← Nat.pow_mul]
  unfold psum at ha
  have hq : a / 2 ^ (64 * j) = (f j).toNat := by
    have hpos := Nat.two_pow_pos (64 * j)
    refine Nat.div_eq_of_lt_le ?_ ?_
    · have : ((f j).toNat * 2 ^ (64 * j) : Nat) ≤ (a : Int) := by
        rw [Int.natCast_mul, ← hW, Int.toNat_of_nonneg hj.1, ha]; omega
      exact Int.ofNat_le.1 this
    · have : (a : Int) < (((f j).toNat + 1) * 2 ^ (64 * j) : Nat) := by
        rw [Int.natCast_mul, ← hW, Int.natCast_add, Int.toNat_of_nonneg hj.1, ha, Int.add_mul]; omega
      exact Int.ofNat_lt.1 this
  have hne : a / 2 ^ (64 * j) ≠ 0 := by rw [hq]; omega
  rw [blen_shift hne, hq]

set_option maxHeartbeats 400000 in
theorem bits_any (a0 a1 a2 a3 : Int) (a : Nat) (ha : IsW a0 a1 a2 a3 a) (w : World) :
    Calls Try.prog 49 #[.agg #[.int .u64 a0, .int .u64 a1, .int .u64 a2, .int .u64 a3]] w fun e w' => e = .returned (.int .i64 (blen a)) ∧ Below w.heap.size w w' := by
  go_enter Try.func49, Try.ntmps49
  go_wp2_with fail
  refine (used_any _ _ _ _ a ha _).mono ?_
  rintro e w1 ⟨rfl, hb1⟩
  have hl1 : Below w.heap.size w w1 := Below.trans (by go_grown) (hb1.mono (by go_size))
  have ra : Row w1 w.heap.size 31 (arr .u64 (sel4 a0 a1 a2 a3) 4) := Row.below (by repeat (first | (refine Row.new_at ?_; simp; done) | refine Row.alloc ?_ _)) hb1 (by go_size)
  have hw := wlen_le a
  by_cases h0 : wlen a = 0
  · have hz : a = 0 := by unfold wlen at h0; (repeat' split at h0) <;> omega
    have fin : blen a = 0 := by rw [hz]; rfl
    have fin := Lib.hid fin
    clear hz ra hb1 hw
    go_wp2
    go_ret
    exact ⟨by rw [fin.out]; rfl, hl1⟩
  · obtain ⟨j, hj⟩ : ∃ j, wlen a = j + 1 := ⟨wlen a - 1, by omega⟩
    have hs := wlen_split ha hj
    have fin := Lib.hid (blen_word ha.wordy hs.1 hs.2)
    have ca := ra.at_ j (by omega)
    have wj := ha.wordy j
    rw [hj] at hw ⊢
    have HJ := Lib.hid hj
    clear hj hs ra hb1 h0
    have e1 : ((j + 1 : Nat) : Int) - 1 = (j : Int) := by omega
    have hle : (blen (sel4 a0 a1 a2 a3 j).toNat : Int) ≤ 64 := by have := blen_le (n := (sel4 a0 a1 a2 a3 j).toNat) (k := 64) (by have := wj.2; unfold W at this; omega); omega
    go_wp2_with fail
    refine (length_any _ wj _).mono ?_
    rintro e w2 ⟨rfl, n, rfl⟩
    go_wp2
    go_ret
    refine ⟨?_, belowDN hl1 _⟩
    rw [fin.out]; simp
end Go.Proofs.Ytpdenhmkpiafiaa

/-! Div: u256.Div, the short ways: by nought; of a lesser number; by a half word. And u256.Of. -/
namespace Go.Proofs.Ytpdenhmkpiafiaa
open Go Go.RowKit

/-- two numbers, and whether they are -/
def Trip (w : World) (q r : Nat) (ok : Bool) (e : Ending) (w' : World) : Prop :=
  ∃ x0 x1 x2 x3 y0 y1 y2 y3 : Int, e = .returned (.tuple #[.agg #[.int .u64 x0, .int .u64 x1, .int .u64 x2, .int .u64 x3], .agg #[.int .u64 y0, .int .u64 y1, .int .u64 y2, .int .u64 y3], .bool ok]) ∧ IsW x0 x1 x2 x3 q ∧ IsW y0 y1 y2 y3 r ∧ Below w.heap.size w w'

theorem IsW.lin {x0 x1 x2 x3 : Int} {n : Nat} (h : IsW x0 x1 x2 x3 n) : (n : Int) = x0 + 18446744073709551616 * x1 + 340282366920938463463374607431768211456 * x2 + 6277101735386680763835789423207666416102355444464034512896 * x3 ∧
    (0 ≤ x0 ∧ x0 < 18446744073709551616) ∧ (0 ≤ x1 ∧ x1 < 18446744073709551616) ∧ (0 ≤ x2 ∧ x2 < 18446744073709551616) ∧ (0 ≤ x3 ∧ x3 < 18446744073709551616) := by
  have hv := h.val
  simp [psum, sel4, W] at hv
  exact ⟨by omega, h.wordy 0, h.wordy 1, h.wordy 2, h.wordy 3⟩
theorem IsW.mk' {x0 x1 x2 x3 : Int} {n : Nat} (hn : (n : Int) = x0 + 18446744073709551616 * x1 + 340282366920938463463374607431768211456 * x2 + 6277101735386680763835789423207666416102355444464034512896 * x3)
    (h0 : 0 ≤ x0 ∧ x0 < 18446744073709551616) (h1 : 0 ≤ x1 ∧ x1 < 18446744073709551616) (h2 : 0 ≤ x2 ∧ x2 < 18446744073709551616) (h3 : 0 ≤ x3 ∧ x3 < 18446744073709551616) : IsW x0 x1 x2 x3 n :=
  ⟨fun i => by unfold sel4; (repeat' split) <;> assumption, by simp [psum, sel4, W]; omega⟩
theorem IsW.zero_iff {x0 x1 x2 x3 : Int} {n : Nat} (h : IsW x0 x1 x2 x3 n) : n = 0 ↔ x0 = 0 ∧ x1 = 0 ∧ x2 = 0 ∧ x3 = 0 := by
  have := h.lin
  constructor
  · rintro rfl; refine ⟨?_, ?_, ?_, ?_⟩ <;> omega
  · rintro ⟨rfl, rfl, rfl, rfl⟩; omega
theorem IsW.nonzero {x0 x1 x2 x3 : Int} {n : Nat} (h : IsW x0 x1 x2 x3 n) (hn : n ≠ 0) : (x0 == 0 && (x1 == 0 && (x2 == 0 && x3 == 0))) = false := by
  cases hb : (x0 == 0 && (x1 == 0 && (x2 == 0 && x3 == 0))) with
  | false => rfl
  | true => simp at hb; exact absurd (h.zero_iff.2 hb) hn
theorem IsW.uniq {x0 x1 x2 x3 y0 y1 y2 y3 : Int} {n : Nat} (h : IsW x0 x1 x2 x3 n) (h' : IsW y0 y1 y2 y3 n) : x0 = y0 ∧ x1 = y1 ∧ x2 = y2 ∧ x3 = y3 := by
  have a := h.lin
  have b := h'.lin
  refine ⟨?_, ?_, ?_, ?_⟩ <;> omega
theorem isW_word {x : Int} {n : Nat} (hx : x = n) (hn : n < 18446744073709551616) : IsW x 0 0 0 n := IsW.mk' (by omega) (by omega) (by omega) (by omega) (by omega)

theorem Row.far4 {w : World} {g t g' : Nat} {cs : Array Value} (h : Row w g t cs) (hg : g ≠ g') (v0 v1 v2 v3 : Value) :
    Row ((((w.setCell ⟨g', 0, none⟩ v0).setCell ⟨g', 1, none⟩ v1).setCell ⟨g', 2, none⟩ v2).setCell ⟨g', 3, none⟩ v3) g t cs :=
  (((h.far hg v0).far hg v1).far hg v2).far hg v3
/-- exactly: so that the walk sees the world -/
theorem of_exact (x : Int) (w : World) : Calls Try.prog 103 #[.int .u64 x] w fun e w' => e = .returned (.agg #[.int .u64 x, .int .u64 0, .int .u64 0, .int .u64 0]) ∧ w.alloc (.cells #[.int .u64 x, .int .u64 0, .int .u64 0, .int .u64 0] 31) = w' := by
  go_enter Try.func103, Try.ntmps103
  go_wp2
  exact bodyPost_ret (results_c rfl aggT31 rfl (Row.new_at rfl) rfl) rfl ⟨rfl, rfl⟩
theorem of_any (x : Int) (n : Nat) (hx : x = n) (hn : n < 18446744073709551616) (w : World) : Calls Try.prog 103 #[.int .u64 x] w (One w n) := by
  subst hx
  go_enter Try.func103, Try.ntmps103
  go_wp2
  refine bodyPost_ret (results_c rfl aggT31 rfl (Row.new_at rfl) rfl) rfl ?_
  exact ⟨_, _, _, _, rfl, isW_word rfl hn, by go_grown⟩

set_option maxRecDepth 100000 in
set_option maxHeartbeats 1000000 in
theorem div_zero (a0 a1 a2 a3 : Int) (w : World) :
    Calls Try.prog 55 #[.agg #[.int .u64 a0, .int .u64 a1, .int .u64 a2, .int .u64 a3], .agg #[.int .u64 0, .int .u64 0, .int .u64 0, .int .u64 0]] w (Trip w 0 0 false) := by
  have q31 := eq31
  go_enter Try.func55, Try.ntmps55
  go_wp2
  refine bodyPost_ret (results_cct (g := w.heap.size + 1 + 1) (g' := w.heap.size + 1 + 1 + 1) (t := 31) (t' := 31) (cs := #[.int .u64 0, .int .u64 0, .int .u64 0, .int .u64 0]) (cs' := #[.int .u64 0, .int .u64 0, .int .u64 0, .int .u64 0]) rfl aggT31 aggT31 rfl rfl ?_ ?_ rfl rfl) rfl ?_
  · repeat (first | (refine Row.new_at ?_; simp; done) | refine Row.alloc ?_ _)
  · repeat (first | (refine Row.new_at ?_; simp; done) | refine Row.alloc ?_ _)
  · exact ⟨_, _, _, _, _, _, _, _, rfl, isW_zero, isW_zero, by go_grown⟩

set_option maxRecDepth 100000 in
set_option maxHeartbeats 2000000 in
theorem div_less (a0 a1 a2 a3 b0 b1 b2 b3 : Int) (a b : Nat) (ha : IsW a0 a1 a2 a3 a) (hb : IsW b0 b1 b2 b3 b) (hlt : a < b) (w : World) :
    Calls Try.prog 55 #[.agg #[.int .u64 a0, .int .u64 a1, .int .u64 a2, .int .u64 a3], .agg #[.int .u64 b0, .int .u64 b1, .int .u64 b2, .int .u64 b3]] w (Trip w 0 a true) := by
  have q31 := eq31
  have hnz := hb.nonzero (by omega)
  have hc : cmpN a b < 0 := by unfold cmpN; rw [if_pos hlt]; omega
  clear hlt
  go_enter Try.func55, Try.ntmps55
  go_wp2_with fail
  refine (cmp_any _ _ _ _ _ _ _ _ a b ha hb _).mono ?_
  rintro e w1 ⟨rfl, hb1⟩
  obtain ⟨hc1, hf1⟩ := bcell hb1
  have hl1 : Below w.heap.size w w1 := Below.trans (by go_grown) (hb1.mono (by go_size))
  have r2 : Row w1 (w.heap.size + 1 + 1) 31 (arr .u64 (fun _ => 0) 4) := Row.below (by repeat (first | (refine Row.new_at ?_; simp; done) | refine Row.alloc ?_ _)) hb1 (by go_size)
  have r3 : Row w1 (w.heap.size + 1 + 1 + 1) 31 (arr .u64 (fun _ => 0) 4) := Row.below (by repeat (first | (refine Row.new_at ?_; simp; done) | refine Row.alloc ?_ _)) hb1 (by go_size)
  go_wp2_with fail
  go_region
  go_wp2
  refine bodyPost_ret (results_cct rfl aggT31 aggT31 rfl rfl ((r2.store4 rfl _ _ _ _).far4 (by omega) _ _ _ _).drew ((r3.far4 (by omega) _ _ _ _).store4 rfl _ _ _ _).drew rfl rfl) rfl ?_
  exact ⟨_, _, _, _, _, _, _, _, rfl, isW_zero, ha, by go_grown⟩

set_option maxRecDepth 100000 in
set_option maxHeartbeats 600000 in
theorem div_small (a0 a1 a2 a3 b0 : Int) (a b : Nat) (ha : IsW a0 a1 a2 a3 a) (hb : b0 = b) (h1 : 1 ≤ b) (h2 : b ≤ 4294967295) (hge : b ≤ a) (w : World) :
    Calls Try.prog 55 #[.agg #[.int .u64 a0, .int .u64 a1, .int .u64 a2, .int .u64 a3], .agg #[.int .u64 b0, .int .u64 0, .int .u64 0, .int .u64 0]] w (Trip w (a / b) (a % b) true) := by
  subst hb
  have q31 := eq31
  have hb := isW_word (x := (b : Int)) rfl (by omega)
  have hnz : ((b : Int) == 0) = false := by simp; omega
  have hle : (b : Int) ≤ 4294967295 := by omega
  have hc : ¬ cmpN a b < 0 := by unfold cmpN; rw [if_neg (by omega)]; split <;> omega
  clear hge
  go_enter Try.func55, Try.ntmps55
  go_wp2_with fail
  refine (cmp_any _ _ _ _ _ _ _ _ a b ha hb _).mono ?_
  rintro e w1 ⟨rfl, hb1⟩
  obtain ⟨hc1, hf1⟩ := bcell hb1
  have hl1 : Below w.heap.size w w1 := Below.trans (by go_grown) (hb1.mono (by go_size))
  have hz1 := hb1.size
  simp at hz1
  have r2 : Row w1 (w.heap.size + 1 + 1) 31 (arr .u64 (fun _ => 0) 4) := Row.below (by repeat (first | (refine Row.new_at ?_; simp; done) | refine Row.alloc ?_ _)) hb1 (by go_size)
  have r3 : Row w1 (w.heap.size + 1 + 1 + 1) 31 (arr .u64 (fun _ => 0) 4) := Row.below (by repeat (first | (refine Row.new_at ?_; simp; done) | refine Row.alloc ?_ _)) hb1 (by go_size)
  go_wp2_with fail
  refine (small_any _ _ _ _ _ a b ha rfl h1 h2 _).mono ?_
  rintro e w2 ⟨x0, x1, x2, x3, rfl, hx, hb2⟩
  have hl2 : Below w.heap.size w w2 := hl1.trans (hb2.mono hl1.size)
  have s2 := r2.below hb2 r2.lt
  have s3 := r3.below hb2 r3.lt
  have z2 := s2.lt
  have z3 := s3.lt
  have z1 : w.heap.size + 1 < w2.heap.size := by omega
  have z0 : w.heap.size < w2.heap.size := by omega
  obtain ⟨⟨c0, c1, c2, c3⟩, f0, f1, f2, f3⟩ := s2.four
  obtain ⟨⟨d0, d1, d2, d3⟩, g0, g1, g2, g3⟩ := s3.four
  have S := Lib.hid (show _ ∧ _ from ⟨s2, s3⟩)
  clear s2 s3
  clear hc1 hf1 r2 r3 hz1 hl1 hb1 hb2
  go_wp2_with fail
  go_region_with (go_at_call 103; refine (of_exact _ _).mono ?_; rintro e w' ⟨rfl, rfl⟩)
  all_goals
    go_step
    go_step
    go_step
    simp only [Exit.inBlock, Exit.then]
    refine bodyPost_ret (results_cct rfl aggT31 aggT31 rfl rfl ((((((S.out.1.store4 rfl _ _ _ _).far4 (by omega) _ _ _ _).alloc _)).alloc _).drew) ((((((S.out.2.far4 (by omega) _ _ _ _).store4 rfl _ _ _ _).alloc _)).alloc _).drew) rfl rfl) rfl ?_
    exact ⟨_, _, _, _, _, _, _, _, rfl, hx, isW_word (by simp) (by have := Nat.mod_lt a (show 0 < b by omega); omega), by go_grown⟩
end Go.Proofs.Ytpdenhmkpiafiaa
