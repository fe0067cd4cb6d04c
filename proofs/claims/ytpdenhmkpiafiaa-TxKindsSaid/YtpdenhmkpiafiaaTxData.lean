/-
  Leaves, claims and transactions as values: their cells, and when two are alike.
-/
import Derived.Test.YtpdenhmkpiafiaaTxBase
import Derived.Test.YtpdenhmkpiafiaaOctPlain
namespace Go.Proofs.Ytpdenhmkpiafiaa
open Go Go.RowKit K6

/-- a leaf of a claim (pq, pc: its proof's address and room) -/
structure Lf where
  i : Int
  t : Int
  a : Nat
  pq : Option Addr
  pc : Nat
  p : List (List Int)
instance : Inhabited Lf := ⟨⟨0, 0, 0, none, 0, []⟩⟩
def Lf.pv (x : Lf) : Value := .slice x.pq x.p.length x.pc
def lfc (x : Lf) : List Value := [.int .i64 x.i, .int .i64 x.t] ++ ((W4 x.a).toList ++ [x.pv])
def I64 (n : Int) : Prop := -9223372036854775808 ≤ n ∧ n < 9223372036854775808
def HsOk (l : List (List Int)) : Prop := ∀ y ∈ l, y.length = 32 ∧ By y
structure LfOk (w : World) (x : Lf) : Prop where
  p : Hs w x.pv x.p
  h : HsOk x.p
  a : x.a < M
  i : I64 x.i
  t : I64 x.t
theorem LfOk.below {w w' : World} {x : Lf} (h : LfOk w x) (hb : Below w.heap.size w w') : LfOk w' x := ⟨h.p.below hb, h.h, h.a, h.i, h.t⟩
/-- a slice value reads as these leaves -/
def Ls (w : World) (u : Value) (l : List Lf) : Prop := Rs lfc 7 w u l ∧ ∀ x ∈ l, LfOk w x
theorem Ls.below {w w' : World} {u : Value} {l : List Lf} (h : Ls w u l) (hb : Below w.heap.size w w') : Ls w' u l := ⟨h.1.below hb, fun x hx => (h.2 x hx).below hb⟩
theorem Ls.nil (w : World) : Ls w (.slice none 0 0) [] := ⟨Rs.nil _ _ _, fun _ h => (by cases h)⟩
/-- a claim -/
structure Cm where
  r : Int
  x : Int
  e : Int
  tok : List Int
  pq : Option Addr
  pc : Nat
  p : List (List Int)
  lq : Option Addr
  lc : Nat
  l : List Lf
  z : Int
def Cm.pv (c : Cm) : Value := .slice c.pq c.p.length c.pc
def Cm.lv (c : Cm) : Value := .slice c.lq c.l.length c.lc
def Cm.cs (c : Cm) : List Value := [.int .i64 c.r, .int .i64 c.x, .int .i64 c.e] ++ (bv c.tok ++ [c.pv, c.lv, .int .i64 c.z])
structure CmOk (w : World) (c : Cm) : Prop where
  tok : c.tok.length = 32
  by_ : By c.tok
  p : Hs w c.pv c.p
  h : HsOk c.p
  l : Ls w c.lv c.l
  r : I64 c.r
  x : I64 c.x
  e : I64 c.e
  z : I64 c.z
theorem CmOk.below {w w' : World} {c : Cm} (h : CmOk w c) (hb : Below w.heap.size w w') : CmOk w' c := ⟨h.tok, h.by_, h.p.below hb, h.h, h.l.below hb, h.r, h.x, h.e, h.z⟩
/-- no claim -/
def cm0 : Cm := ⟨0, 0, 0, List.replicate 32 0, none, 0, [], none, 0, [], 0⟩
theorem cm0_ok (w : World) : CmOk w cm0 := by
  have z : I64 0 := ⟨by decide, by decide⟩
  exact ⟨rfl, fun x hx => by rw [(List.mem_replicate.1 hx).2]; omega, Rs.nil _ _ _, (fun _ h => (by cases h)), Ls.nil w, z, z, z, z⟩
/-- a transaction -/
structure Txv where
  k : Int
  f : Int
  nq : Option Addr
  nc : Nat
  n : List Int
  aq : Option Addr
  ac : Nat
  a : List Nat
  hq : Option Addr
  hc : Nat
  h : List (List Int)
  c : Cm
def Txv.nv (t : Txv) : Value := .slice t.nq t.n.length t.nc
def Txv.av (t : Txv) : Value := .slice t.aq t.a.length t.ac
def Txv.hv (t : Txv) : Value := .slice t.hq t.h.length t.hc
def Txv.cs (t : Txv) : List Value := [.int .i64 t.k, .int .i64 t.f, t.nv, t.av, t.hv] ++ t.c.cs
structure TxOk (w : World) (t : Txv) : Prop where
  k : I64 t.k
  f : I64 t.f
  n : Is w t.nv t.n
  nb : ∀ x ∈ t.n, I64 x
  a : Us w t.av t.a
  ab : ∀ x ∈ t.a, x < M
  h : Hs w t.hv t.h
  hb : HsOk t.h
  c : CmOk w t.c
theorem TxOk.below {w w' : World} {t : Txv} (h : TxOk w t) (hb : Below w.heap.size w w') : TxOk w' t := ⟨h.k, h.f, h.n.below hb, h.nb, h.a.below hb, h.ab, h.h.below hb, h.hb, h.c.below hb⟩
/-! ### the cells -/
theorem lfc_len (x : Lf) : (lfc x).length = 7 := rfl
theorem lfc_0 (x : Lf) : (lfc x)[0]? = some (.int .i64 x.i) := rfl
theorem lfc_1 (x : Lf) : (lfc x)[1]? = some (.int .i64 x.t) := rfl
theorem lfc_6 (x : Lf) : (lfc x)[6]? = some x.pv := rfl
theorem lfc_a (x : Lf) : ∀ j v, (W4 x.a)[j]? = some v → (lfc x).toArray[2 + j]? = some v := fun j v hj => by
  have hj4 : j < 4 := (Array.getElem?_eq_some_iff.1 hj).1
  have : j = 0 ∨ j = 1 ∨ j = 2 ∨ j = 3 := by omega
  rcases this with rfl | rfl | rfl | rfl <;> exact hj
theorem Cm.len {c : Cm} (h : c.tok.length = 32) : c.cs.length = 38 := by
  unfold Cm.cs
  rw [List.length_append, List.length_append, bv_len, h]
  rfl
theorem Cm.at_ {c : Cm} (h : c.tok.length = 32) (j : Nat) : c.cs[35 + j]? = [c.pv, c.lv, .int .i64 c.z][j]? := by
  unfold Cm.cs
  rw [List.getElem?_append_right (by show 3 ≤ _; omega), List.getElem?_append_right (by rw [bv_len, h]; show 32 ≤ 35 + j - 3; omega), bv_len, h]
  congr 1
  show 35 + j - 3 - 32 = j
  omega
theorem Cm.tok_ {c : Cm} (h : c.tok.length = 32) : ∀ j v, (bv c.tok).toArray[j]? = some v → c.cs.toArray[3 + j]? = some v := fun j v hj => by
  have hj2 : (bv c.tok)[j]? = some v := by simpa using hj
  have hj32 : j < 32 := by have h9 := (List.getElem?_eq_some_iff.1 hj2).1; rw [bv_len, h] at h9; exact h9
  rw [List.getElem?_toArray]
  unfold Cm.cs
  rw [List.getElem?_append_right (by show 3 ≤ _; omega)]
  show (bv c.tok ++ [c.pv, c.lv, Value.int .i64 c.z])[3 + j - 3]? = _
  rw [show 3 + j - 3 = j by omega, List.getElem?_append_left (by rw [bv_len, h]; exact hj32)]
  exact hj2
theorem Txv.len {t : Txv} (h : t.c.tok.length = 32) : t.cs.length = 43 := by
  unfold Txv.cs
  rw [List.length_append, Cm.len h]
  rfl
theorem Txv.c_ (t : Txv) : ∀ j v, t.c.cs.toArray[j]? = some v → t.cs.toArray[5 + j]? = some v := fun j v hj => by
  have hj2 : t.c.cs[j]? = some v := by simpa using hj
  rw [List.getElem?_toArray]
  unfold Txv.cs
  rw [List.getElem?_append_right (by show 5 ≤ _; omega)]
  show t.c.cs[5 + j - 5]? = _
  rw [show 5 + j - 5 = j by omega]
  exact hj2
theorem one_int (n : Int) : (Value.int .i64 n).oneCell' = true := rfl
theorem bv_all (l : List Int) : (bv l).all (·.oneCell') = true := by
  rw [List.all_eq_true]
  intro x hx
  obtain ⟨y, -, rfl⟩ := List.mem_map.1 hx
  rfl
theorem lfc_one (x : Lf) : (lfc x).toArray.all (·.oneCell') = true := by kernel_rfl
theorem Cm.one (c : Cm) : c.cs.toArray.all (·.oneCell') = true := by
  rw [List.all_toArray]
  unfold Cm.cs
  rw [List.all_append, List.all_append, bv_all]
  rfl
theorem Txv.one (t : Txv) : t.cs.toArray.all (·.oneCell') = true := by
  rw [List.all_toArray]
  unfold Txv.cs
  rw [List.all_append]
  have h := t.c.one
  rw [List.all_toArray] at h
  rw [h]
  rfl
/-! ### alike -/
abbrev LfK := Int × Int × Nat × List (List Int)
instance dK1 : DecidableEq LfK := inferInstance
instance dK2 : DecidableEq (List LfK) := inferInstance
instance dK3 : DecidableEq (List (List Int)) := inferInstance
instance dK4 : DecidableEq (List (List Int) × List LfK) := inferInstance
instance dK5 : DecidableEq (Int × List (List Int) × List LfK) := inferInstance
instance dK6 : DecidableEq (List Int × Int × List (List Int) × List LfK) := inferInstance
instance dK7 : DecidableEq (Int × List Int × Int × List (List Int) × List LfK) := inferInstance
instance dK8 : DecidableEq (Int × Int × List Int × Int × List (List Int) × List LfK) := inferInstance
abbrev CmK := Int × Int × Int × List Int × Int × List (List Int) × List LfK
instance dK9 : DecidableEq CmK := inferInstance
instance dKa : DecidableEq (List (List Int) × CmK) := inferInstance
instance dKb : DecidableEq (List Nat × List (List Int) × CmK) := inferInstance
instance dKc : DecidableEq (List Int × List Nat × List (List Int) × CmK) := inferInstance
abbrev TxK := Int × Int × List Int × List Nat × List (List Int) × CmK
instance dKd : DecidableEq (Int × List Int × List Nat × List (List Int) × CmK) := inferInstance
instance dKe : DecidableEq TxK := inferInstance
def Lf.key (x : Lf) : LfK := (x.i, x.t, x.a, x.p)
def Cm.key (c : Cm) : CmK := (c.r, c.x, c.e, c.tok, c.z, c.p, c.l.map Lf.key)
def Txv.key (t : Txv) : TxK := (t.k, t.f, t.n, t.a, t.h, t.c.key)
theorem aggT198 : AggT Try.prog 198 7 := ⟨⟨_, Try.underlying198, rfl⟩, by kernel_rfl⟩
theorem aggT114 : AggT Try.prog 114 38 := ⟨⟨_, Try.underlying114, rfl⟩, by kernel_rfl⟩
theorem aggT116 : AggT Try.prog 116 43 := ⟨⟨_, Try.underlying116, rfl⟩, by kernel_rfl⟩
end Go.Proofs.Ytpdenhmkpiafiaa
