/-
  copy into a row; a listed operation that changes one old block and says something of old blocks; the number of bytes, the greatest first.
-/
import Derived.Test.YtpdenhmkpiafiaaOctGrp
import Derived.Test.YtpdenhmkpiafiaaOctAmt
import Derived.Test.YtpdenhmkpiafiaaGC
import Derived.Laws.CopyRow
import Derived.Laws.IdiomCopy
namespace Go.Proofs.Ytpdenhmkpiafiaa
open Go Go.RowKit K6

theorem K6.Tr.trans_new {X Y : Nat → Prop} {w w1 w2 : World} (h : Tr X w w1) (k : Tr Y w1 w2) (hY : ∀ b, Y b → b < w.heap.size → X b) : Tr X w w2 :=
  ⟨k.os.trans h.os, k.tape.trans h.tape, k.output.trans h.output, Nat.le_trans h.size k.size, fun b hb hx => (k.block b (Nat.lt_of_lt_of_le hb h.size) fun hy => hx (hY b hy hb)).trans (h.block b hb hx)⟩
set_option maxRecDepth 100000 in
theorem copy_none {w : World} {d : Option Addr} {n c : Nat} {ty : TypeId} {u : Value} (hu : Bs w u []) : (Builtin.copy_ #[33, 33] ty #[.slice d n c, u]).run Try.prog w = .ok (goInt 0) w := by
  obtain ⟨q, c', rfl, -, -⟩ := hu
  exact run_copy_none w 33 33 ty 5 d q n c 0 c' rfl rfl (Nat.zero_min _)
set_option maxRecDepth 100000 in
theorem copy_run {w : World} {T t o n c : Nat} {ty : TypeId} {cur : Array Value} {u : Value} {ys : List Int} (hr : Row w T t cur) (hu : Bs w u ys) (hn : ys.length = n) (hfit : o + n ≤ cur.size) :
    ∃ w', (Builtin.copy_ #[33, 33] ty #[.slice (some ⟨T, o, none⟩) n c, u]).run Try.prog w = .ok (goInt n) w' ∧ Row w' T t (cur.toList.take o ++ bv ys ++ cur.toList.drop (o + n)).toArray ∧ Tr (fun b => b = T) w w' := by
  subst hn
  by_cases h0 : ys = []
  · subst h0
    refine ⟨w, copy_none hu, ?_, Tr.refl _ _⟩
    have : (cur.toList.take o ++ bv [] ++ cur.toList.drop (o + ([] : List Int).length)).toArray = cur := by
      rw [show bv [] = [] from rfl, List.append_nil, List.length_nil, Nat.add_zero, List.take_append_drop]
    rw [this]; exact hr
  · obtain ⟨q, c', rfl, hq, h1⟩ := hu
    cases q with
    | none => exact absurd (hq rfl).2 h0
    | some a =>
      have hrun := run_copy_row (P := Try.prog) w 33 33 ty 5 T o ys.length c a ys.length c' cur t (bv ys) rfl rfl hr (by rw [bv_len]; exact (Nat.min_self _).symm) (h1 a rfl) (by rw [bv_len]; exact hfit) (fun u hu => by obtain ⟨x, _, rfl⟩ := List.mem_map.1 hu; rfl)
      rw [bv_len] at hrun
      exact ⟨_, hrun, setRow_heap w T cur _ t _ hr, rfl, rfl, rfl, by simp [World.setRow], fun b _ hb => setRow_other w T b _ hb⟩
theorem run_copy_op {P : Program} {o : Oper} {a : Act} {x y : Operand} {t t' : TypeId} {v u v2 : Value} {w w2 : World} (ho : o.op = .call { callee := .builtin .copy, args := #[x, y], argTypes := #[t, t'] }) (hx : a.eval x = v) (hy : a.eval y = u)
    (hrun : (Builtin.copy_ #[t, t'] o.type #[v, u]).run P w = .ok v2 w2) : (execOp a.eval o).run P w = .ok (.value v2) w2 := by
  unfold execOp
  simp only [ho, resolve, invoke, builtin, Sem.run_bind, Sem.run_pure, Result.andThen_ok, List.map_toArray, List.map_cons, List.map_nil, hx, hy, hrun]
def zr32 : Array Value := arr .u8 (fun _ => 0) 32
theorem aggR35 : AggT Try.prog 35 32 := ⟨⟨_, Try.underlying35, rfl⟩, by kernel_rfl⟩
theorem zr32_take (o : Nat) (ho : o ≤ 32) : zr32.toList.take o = bv (List.replicate o 0) := by
  have h : zr32.toList = List.replicate 32 (.int .u8 0) := rfl
  rw [h, List.take_replicate, Nat.min_eq_left ho]
  unfold bv
  rw [List.map_replicate]
theorem zr32_copy {o n : Nat} {ys : List Int} (h : o + n = 32) : (zr32.toList.take o ++ bv ys ++ zr32.toList.drop (o + n)).toArray = (bv (List.replicate o 0 ++ ys)).toArray := by
  rw [zr32_take o (by omega), h, bv_app, List.drop_eq_nil_of_le (show zr32.toList.length ≤ 32 from Nat.le_refl _), List.append_nil]

namespace K6
/-- it yields a value of a set, changes the old block G, and leaves a fact that speaks of the old blocks Lo -/
def sW (i : Nat) (D use kill : List Nat) (G : Nat) (Lo : Nat → Prop) (p : Value → Prop) (f : Value → World → Prop) : Sp := (⟨i, D, use, kill, [], [], false, true, true⟩, ⟨fun _ x => p x.v, fun g w => f (g i).v w, (· = G), Lo⟩)
theorem ok_W {w1 : World} {Z : Nat → Prop} {i : Nat} {D use kill : List Nat} {G : Nat} {Lo : Nat → Prop} {p : Value → Prop} {f : Value → World → Prop} (hp : ∃ v, p v) (hl : ∀ v w w', f v w → Tr (fun b => ¬ Lo b) w w' → f v w') (hG : G < w1.heap.size) (hz : Z G) (hLo : ∀ b, Lo b → b < w1.heap.size) : OpOk w1 Z (sW i D use kill G Lo p f) where
  some_ := fun _ => by obtain ⟨v, hv⟩ := hp; exact ⟨⟨v, w1.heap.size, w1.heap.size⟩, Nat.le_refl _, Nat.le_refl _, hv⟩
  depV := fun _ _ _ _ h => h
  depF := fun g g' hg w h => by show f (g' i).v w; rw [hg i (.inl rfl)]; exact h
  loc := fun g w w' h hT => hl _ w w' h (hT.mono fun b _ hb hx => hb (.inr (.inl hx)))
  xo := fun c hc => by
    have hc' : c = G := hc
    subst hc'; exact ⟨rfl, hz, hG⟩
  lo := fun c hc => ⟨rfl, hLo c hc⟩
theorem left_W {l : List Sp} {i : Nat} {D use kill : List Nat} {G : Nat} {Lo : Nat → Prop} {p : Value → Prop} {f : Value → World → Prop} {s : Sh} (hl : look6 l s.i = (sW i D use kill G Lo p f).2) (hs : s = (sW i D use kill G Lo p f).1) {g : Ghost} {w w' : World} {v : Value}
    (hp : p v) (ht : Tr (fun b => b = G) w w') (hf : f v w') : Left (look6 l) s g w v w' := by
  unfold Left
  rw [hl]
  subst hs
  refine ⟨hp, ht.mono fun b _ hb => ?_, ?_⟩
  · show XX (look6 l) _ g b
    unfold XX
    rw [hl]
    exact .inl hb
  · show f (gput g i _ i).v w'
    rw [gput_self]
    exact hf
end K6

/-- the number of bytes, the greatest first -/
def beV (l : List Int) : Nat := l.foldl (fun a c => a * 256 + c.toNat) 0
theorem beV_snoc (l : List Int) (c : Int) : beV (l ++ [c]) = beV l * 256 + c.toNat := by unfold beV; rw [List.foldl_append]; rfl
theorem beV_zeros (k : Nat) (l : List Int) : beV (List.replicate k 0 ++ l) = beV l := by
  unfold beV
  rw [List.foldl_append]
  congr 1
  induction k with
  | zero => rfl
  | succ k ih => exact ih
theorem fromN_beV {L : List Int} (hL : L.length = 32) : ∀ i, i ≤ 32 → fromN (fun j => (L.getD j 0).toNat) i = beV (L.take i) * 256 ^ (32 - i)
  | 0, _ => by rw [List.take_zero]; show 0 = 0 * _; rw [Nat.zero_mul]
  | i + 1, h => by
    have hi : i < L.length := by omega
    rw [List.take_succ_eq_append_getElem hi, beV_snoc, Nat.add_mul]
    show fromN _ i + (L.getD i 0).toNat * 2 ^ (8 * (31 - i)) = _
    rw [fromN_beV hL i (by omega), List.getD_eq_getElem?_getD, List.getElem?_eq_getElem hi, Nat.pow_mul, show 32 - (i + 1) = 31 - i by omega, show 32 - i = (31 - i) + 1 by omega, Nat.pow_succ, Nat.mul_assoc, Nat.mul_comm 256]
    rfl
theorem beV_lt : ∀ (n : Nat) (l : List Int), l.length = n → (∀ x ∈ l, 0 ≤ x ∧ x < 256) → beV l < 256 ^ n
  | 0, l, hn, _ => by rw [List.eq_nil_of_length_eq_zero hn]; decide
  | n + 1, l, hn, h => by
    have hne : l ≠ [] := fun e => by subst e; cases hn
    have hsp := List.dropLast_concat_getLast hne
    have hd := beV_lt n l.dropLast (by rw [List.length_dropLast]; omega) (fun x hx => h x (List.dropLast_subset _ hx))
    have hg := h _ (List.getLast_mem hne)
    rw [← hsp, beV_snoc, Nat.pow_succ]
    omega
theorem beV_M {l : List Int} (hn : l.length ≤ 32) (h : ∀ x ∈ l, 0 ≤ x ∧ x < 256) : beV l < M := by
  have h1 := beV_lt l.length l rfl h
  have h2 : 256 ^ l.length ≤ 256 ^ 32 := Nat.pow_le_pow_right (by decide) hn
  have h3 : (256 : Nat) ^ 32 = M := by unfold M; decide
  omega
/-- FromBytes of a row of 32 bytes -/
theorem from32 {L : List Int} (hL : L.length = 32) (hb : ∀ x ∈ L, 0 ≤ x ∧ x < 256) {w : World} {T t c : Nat} (hr : Row w T t (bv L).toArray) : Calls Try.prog 81 #[.slice (some ⟨T, 0, none⟩) 32 c] w (Ret w (.tuple #[.agg (W4 (beV L)), .bool true])) := by
  have hf : ∀ i, (L.getD i 0).toNat < 256 := fun i => by
    rcases Nat.lt_or_ge i L.length with h | h
    · rw [List.getD_eq_getElem?_getD, List.getElem?_eq_getElem h]
      have := hb _ (List.getElem_mem h)
      show (L[i]).toNat < 256
      omega
    · rw [List.getD_eq_getElem?_getD, List.getElem?_eq_none h]; decide
  refine (fromBytes_any (some ⟨T, 0, none⟩) 32 c (fun j => (L.getD j 0).toNat) w hf (fun _ => ⟨T, 0, rfl, hr.lt, fun i hi => ?_⟩)).mono fun _ _ h => ?_
  · rw [Nat.zero_add, hr.cell]
    have hi2 : i < L.length := by omega
    have h1 := hb _ (List.getElem_mem hi2)
    show (bv L).toArray[i]? = _
    rw [List.getElem?_toArray]
    unfold bv
    rw [List.getElem?_map, List.getElem?_eq_getElem hi2, List.getD_eq_getElem?_getD, List.getElem?_eq_getElem hi2]
    show some (Value.int .u8 L[i]) = some (Value.int .u8 ((L[i].toNat : Nat) : Int))
    rw [Int.toNat_of_nonneg h1.1]
  · have h2 := pair_ret h
    rw [if_pos rfl, decide_eq_true rfl, fromN_beV hL 32 (Nat.le_refl _), Nat.sub_self, Nat.pow_zero, Nat.mul_one, List.take_of_length_le (by omega)] at h2
    exact h2
end Go.Proofs.Ytpdenhmkpiafiaa
