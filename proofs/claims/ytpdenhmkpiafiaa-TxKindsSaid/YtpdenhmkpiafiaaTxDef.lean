/-
  Which transactions may be, and their bytes, without the program.
-/
import Derived.Test.YtpdenhmkpiafiaaTxGood
import Derived.Test.YtpdenhmkpiafiaaOctPlain
namespace Go.Proofs.Ytpdenhmkpiafiaa
open Go Go.RowKit K6

/-- are there as many of all as there must be? -/
def cntB (s : Shp) (n a h : Nat) : Bool := (if s.t then decide (1 ≤ (n : Int) - s.n ∧ (n : Int) - s.n ≤ 8) else decide ((n : Int) - s.n = 0)) && (decide ((a : Int) = if s.e then (n : Int) - s.n else s.a) && decide ((h : Int) = s.h))
/-- are the numbers in their bounds, and the tail's in their order? -/
def numsB (xn : Int) (l : List Int) : Bool := decide (∀ i, i < l.length → (0 ≤ l.getD i 0 ∧ l.getD i 0 ≤ 1099511627776) ∧ (xn < (i : Int) → l.getD (i - 1) 0 < l.getD i 0))
def okLfK (y : LfK) : Bool := decide (0 ≤ y.1 ∧ y.1 ≤ 4294967295) && (decide (0 ≤ y.2.1 ∧ y.2.1 ≤ 4294967295) && (decide (y.2.2.2.length ≤ 10) && okA y.2.2.1))
theorem okLf_key (x : Lf) : okLf x = okLfK x.key := rfl
theorem all_key (l : List Lf) : l.all okLf = (l.map Lf.key).all okLfK := by
  rw [List.all_map]; rfl
def headB (c : CmK) : Bool := decide (0 ≤ c.1 ∧ c.1 ≤ 4294967295) && (decide (0 ≤ c.2.1 ∧ c.2.1 ≤ 4294967295) && (decide (1 ≤ c.2.2.1 ∧ c.2.2.1 ≤ 4294967295) && decide (1 ≤ c.2.2.2.2.1 ∧ c.2.2.2.2.1 ≤ 4294967295)))
def goodCK (c : CmK) : Bool := headB c && (decide (c.2.2.2.2.2.1.length ≤ 10) && (decide (1 ≤ (c.2.2.2.2.2.2.length : Int) ∧ (c.2.2.2.2.2.2.length : Int) ≤ 8) && c.2.2.2.2.2.2.all okLfK))
def goodK (t : TxK) : Bool := okK t.1 && (decide (1 ≤ t.2.1 ∧ t.2.1 ≤ 4294967295) && (cntB (shpOf t.1) t.2.2.1.length t.2.2.2.1.length t.2.2.2.2.1.length && (numsB (shpOf t.1).n t.2.2.1 && (t.2.2.2.1.all okA && (if (shpOf t.1).c = true then goodCK t.2.2.2.2.2 else decide (t.2.2.2.2.2 = cm0.key))))))
/-! ### the bytes -/
def prfB (l : List (List Int)) : List Int := enc l.length ++ l.flatMap fun y => y
def lfKB (y : LfK) : List Int := enc y.1.toNat ++ (enc y.2.1.toNat ++ (amtL y.2.2.1 ++ prfB y.2.2.2))
def clKB (c : CmK) : List Int := enc c.1.toNat ++ (enc c.2.1.toNat ++ (enc c.2.2.1.toNat ++ (enc c.2.2.2.2.1.toNat ++ (c.2.2.2.1 ++ (prfB c.2.2.2.2.2.1 ++ (enc c.2.2.2.2.2.2.length ++ c.2.2.2.2.2.2.flatMap lfKB))))))
def nst (s : Shp) (l : List Int) (i : Nat) : List Int := (if s.t = true ∧ (i : Int) = s.n then enc ((l.length : Int) - s.n).toNat else []) ++ enc (l.getD i 0).toNat
def numB (s : Shp) (l : List Int) (i : Nat) : List Int := (List.range i).flatMap (nst s l)
def putK (t : TxK) : List Int := enc t.1.toNat ++ (enc t.2.1.toNat ++ (numB (shpOf t.1) t.2.2.1 t.2.2.1.length ++ (t.2.2.2.1.flatMap amtL ++ (t.2.2.2.2.1.flatMap (fun y => y) ++ (if (shpOf t.1).c = true then clKB t.2.2.2.2.2 else [])))))
def bytK (t : TxK) : List Int := if goodK t = true then (if (putK t).length ≤ 4096 then putK t else []) else []
theorem flat_step {α : Type} (f : α → List Int) {l : List α} {i : Nat} {x : α} (hx : l[i]? = some x) (P : List Int) : (P ++ (l.take i).flatMap f) ++ f x = P ++ (l.take (i + 1)).flatMap f := by
  rw [List.take_add_one, hx, Option.toList_some, List.flatMap_append, List.append_assoc]
  have : [x].flatMap f = f x := List.append_nil _
  rw [this]
theorem numB_step (s : Shp) (l : List Int) (i : Nat) (P : List Int) : (P ++ numB s l i) ++ nst s l i = P ++ numB s l (i + 1) := by
  unfold numB
  rw [List.range_succ, List.flatMap_append, List.append_assoc]
  have : [i].flatMap (nst s l) = nst s l i := List.append_nil _
  rw [this]
theorem flat_le {α : Type} {f : α → List Int} {c : Nat} : ∀ {l : List α}, (∀ x ∈ l, (f x).length ≤ c) → (l.flatMap f).length ≤ c * l.length
  | [], _ => Nat.zero_le _
  | x :: l, h => by
    rw [List.flatMap_cons, List.length_append, List.length_cons, Nat.mul_succ]
    have h1 := h x (List.mem_cons_self ..)
    have h2 := flat_le fun y hy => h y (List.mem_cons_of_mem x hy)
    omega
theorem amtL_le (a : Nat) : (amtL a).length ≤ 33 := by
  unfold amtL
  rw [List.length_cons, List.length_drop, BL32_len]
  omega
theorem encI_le (n : Int) (h : I64 n) : (enc n.toNat).length ≤ 9 := enc_len9 (by have := h.2; omega)
theorem prf_le {l : List (List Int)} (h : ∀ y ∈ l, y.length = 32) (hl : l.length ≤ 1000) : (prfB l).length ≤ 9 + 32 * l.length := by
  unfold prfB
  rw [List.length_append]
  have h1 := enc_len9 (m := l.length) (by omega)
  have h2 := flat_le (f := fun y : List Int => y) (c := 32) (l := l) fun y hy => Nat.le_of_eq (h y hy)
  omega
/-- a transaction of moderate size -/
structure LightK (t : TxK) : Prop where
  n : t.2.2.1.length ≤ 50
  a : t.2.2.2.1.length ≤ 50
  h : t.2.2.2.2.1.length ≤ 50
  p : t.2.2.2.2.2.2.2.2.2.2.1.length ≤ 50
  l : t.2.2.2.2.2.2.2.2.2.2.2.length ≤ 50
  q : ∀ y ∈ t.2.2.2.2.2.2.2.2.2.2.2, y.2.2.2.length ≤ 50
theorem shp_n (k : Int) : 0 ≤ (shpOf k).n ∧ (shpOf k).n ≤ 3 := by
  unfold shpOf
  split
  · rename_i h
    have h2 : k = 1 ∨ k = 2 ∨ k = 3 ∨ k = 4 ∨ k = 5 ∨ k = 6 ∨ k = 7 ∨ k = 8 ∨ k = 9 ∨ k = 10 ∨ k = 11 ∨ k = 12 ∨ k = 13 ∨ k = 14 ∨ k = 15 ∨ k = 16 ∨ k = 17 ∨ k = 18 ∨ k = 19 ∨ k = 20 ∨ k = 21 ∨ k = 22 ∨ k = 23 ∨ k = 24 ∨ k = 25 ∨ k = 26 ∨ k = 27 ∨ k = 28 := by omega
    rcases h2 with rfl | rfl | rfl | rfl | rfl | rfl | rfl | rfl | rfl | rfl | rfl | rfl | rfl | rfl | rfl | rfl | rfl | rfl | rfl | rfl | rfl | rfl | rfl | rfl | rfl | rfl | rfl | rfl <;> exact ⟨by decide, by decide⟩
  · exact ⟨by decide, by decide⟩
end Go.Proofs.Ytpdenhmkpiafiaa
