/-
 What the statement rests on, part 5: EvOwn TxBase TxData TxOwn TxFmt TxSame.
-/
import Derived.Test.YtpdenhmkpiafiaaQTR2
import Derived.Test.YtpdenhmkpiafiaaQTR3
namespace Go.Proofs.Ytpdenhmkpiafiaa
open Go Go.RowKit K6
structure AppT (ts te z : Nat) : Prop where
 ht : Try.prog.underlying ts = some (.slice te)
 ex : ∃ i zv, Try.prog.info? te = some i ∧ i.zero = some zv ∧ i.size = z ∧ i.bytes ≤ 4096 ∧ zv.cells.size = z
 pos : 0 < z
theorem append1 {ts te z : Nat} (T : AppT ts te z) {w : World} {base n b : Nat} {v : Value} {zs : List Value} {cs : Array Value} (h : w.ownsRow base te z v n zs) (hr : Row w b te cs) (hs : cs.size = z) (h1 : cs.all (·.oneCell') = true) (hL : n ≤ 1000000) (hb : base ≤ w.heap.size) :
  ∃ v' w', (Builtin.append_ #[ts, ts] ts #[v, .slice (some ⟨b, 0, none⟩) 1 1]).run Try.prog w = .ok v' w' ∧ w'.ownsRow base te z v' (n + 1) (zs ++ cs.toList) ∧ w.grownBy w' v.ownBlock ∧ (v'.ownBlock = v.ownBlock ∨ v'.ownBlock = some w.heap.size) := by
 obtain ⟨i, zv, hi, hz, hsz, hby, hzc⟩ := T.ex
 have hB : (n + 1) * i.bytes ≤ (n + 1) * 4096 := Nat.mul_le_mul_left _ hby
 obtain ⟨v', w', hrun, ho, hg, -, hw⟩ := run_append_own_at (P := Try.prog) w base ts ts te i zv z i.bytes T.ht hi hz hsz rfl hzc T.pos v n zs h ⟨b, 0, none⟩ 1 1 cs.toList (by rw [Array.length_toList, hs, Nat.one_mul]) (fun j u hj => by
  rw [add_at, Nat.zero_add, hr.cell]
  simpa using hj) (fun u hu => by
  rw [Array.all_eq_true_iff_forall_mem] at h1
  exact h1 u (by simpa using hu)) (by simp only [maxLen]; omega) (by omega) hb
 exact ⟨v', w', hrun, ho, hg, hw⟩
theorem own_lt {w : World} {base te z n : Nat} {v : Value} {zs : List Value} (h : w.ownsRow base te z v n zs) (b : Nat) (hb : v.ownBlock = some b) : base ≤ b ∧ b < w.heap.size := by
 rcases h.2 with ⟨rfl, -⟩ | ⟨g, cap, cur, rfl, h1, hg, -⟩
 ·cases hb
 ·have h2 : some g = some b := hb
  injection h2 with h2
  subst h2
  exact ⟨h1, (Array.getElem?_eq_some_iff.1 hg).1⟩
theorem own_sl {w : World} {base te z n : Nat} {v : Value} {zs : List Value} (h : w.ownsRow base te z v n zs) : ∃ q c, v = .slice q n c := by
 rcases h.2 with ⟨rfl, h0⟩ | ⟨g, cap, cur, rfl, -⟩
 ·exact ⟨none, 0, by rw [h0]⟩
 ·exact ⟨_, _, rfl⟩
theorem own_sl3 {w : World} {base te z n : Nat} {v : Value} {zs : List Value} (h : w.ownsRow base te z v n zs) : ∃ q m c, v = .slice q m c := by
 obtain ⟨q, c, e⟩ := own_sl h
 exact ⟨q, n, c, e⟩
theorem own_base {w : World} {b b' te z n : Nat} {v : Value} {zs : List Value} (h : w.ownsRow b te z v n zs) (hb : b' ≤ b) : w.ownsRow b' te z v n zs := by
 refine ⟨h.1, ?_⟩
 rcases h.2 with h0 | ⟨g, cap, cur, rfl, h1, rest⟩
 ·exact .inl h0
 ·exact .inr ⟨g, cap, cur, rfl, Nat.le_trans hb h1, rest⟩
theorem own_nil (w : World) (b te z : Nat) : w.ownsRow b te z (.slice none 0 0) 0 [] := ⟨(Nat.zero_mul z).symm, .inl ⟨rfl, rfl⟩⟩
set_option maxRecDepth 100000 in
theorem appT23 : AppT 23 31 4 := ⟨rfl, ⟨_, _, rfl, rfl, rfl, by decide, rfl⟩, by decide⟩
theorem uw_snoc (l : List Nat) (a : Nat) : uw (l ++ [a]) = uw l ++ (W4 a).toList := by
 rw [uw_app]
 congr 1
def evc (e : Ev) : List Value := [.int .i64 e.k, e.v]
def evcs (E : List Ev) : List Value := E.flatMap evc
theorem evcs_snoc (E : List Ev) (e : Ev) : evcs (E ++ [e]) = evcs E ++ evc e := by
 unfold evcs
 rw [List.flatMap_append]
 congr 1
theorem evcs_get : ∀ (E : List Ev) (i j : Nat) (e : Ev), E[i]? = some e → j < 2 → (evcs E)[i * 2 + j]? = (evc e)[j]?
 | [], i, j, e, h, _ => by simp at h
 | x :: E, i, j, e, h, hj => by
  show (evc x ++ evcs E)[i * 2 + j]? = _
  match i with
  | 0 =>
   have h' : some x = some e := h
   injection h' with h'
   subst h'
   rw [List.getElem?_append_left (by show _ < 2; omega), Nat.zero_mul, Nat.zero_add]
  | i + 1 =>
   rw [List.getElem?_append_right (by show 2 ≤ _; omega), show (i + 1) * 2 + j - (evc x).length = i * 2 + j from by show (i + 1) * 2 + j - 2 = _; omega]
   exact evcs_get E i j e h hj
def EvIn (w : World) (base : Nat) (v : Value) (e : Ev) : Prop := EvOk w e ∧ ∀ b, e.v.ownBlock = some b → base ≤ b ∧ b < w.heap.size ∧ v.ownBlock ≠ some b
def Eo (w : World) (base : Nat) (v : Value) (E : List Ev) : Prop := w.ownsRow base 26 2 v E.length (evcs E) ∧ ∀ e ∈ E, EvIn w base v e
theorem Eo.nil (w : World) (b : Nat) : Eo w b (.slice none 0 0) [] := ⟨own_nil _ _ _ _, fun _ h => (by cases h)⟩
theorem Eo.base {w : World} {b b' : Nat} {v : Value} {E : List Ev} (h : Eo w b v E) (hb : b' ≤ b) : Eo w b' v E :=
 ⟨own_base h.1 hb, fun e he => ⟨(h.2 e he).1, fun c hc => ⟨Nat.le_trans hb ((h.2 e he).2 c hc).1, ((h.2 e he).2 c hc).2⟩⟩⟩
theorem EvIn.keep {X : Nat → Prop} {w w' : World} {base : Nat} {v : Value} {e : Ev} (h : EvIn w base v e) (hT : Tr X w w') (hX : ∀ b, base ≤ b → v.ownBlock ≠ some b → ¬ X b) : EvIn w' base v e :=
 ⟨⟨h.1.us.keep hT fun b hb => hX b (h.2 b hb).1 (h.2 b hb).2.2, h.1.lt, h.1.lo, h.1.hi⟩, fun b hb => ⟨(h.2 b hb).1, Nat.lt_of_lt_of_le (h.2 b hb).2.1 hT.size, (h.2 b hb).2.2⟩⟩
theorem Eo.keep {X : Nat → Prop} {w w' : World} {base : Nat} {v : Value} {E : List Ev} (h : Eo w base v E) (hT : Tr X w w') (hX : ∀ b, base ≤ b → ¬ X b) : Eo w' base v E :=
 ⟨own_tr h.1 hT fun b hb => hX b (own_lt h.1 b hb).1, fun e he => (h.2 e he).keep hT fun b hb _ => hX b hb⟩
theorem Eo.below {w w' : World} {base : Nat} {v : Value} {E : List Ev} (h : Eo w base v E) (hb : Below w.heap.size w w') : Eo w' base v E := h.keep (X := None_) (Tr.of hb) (fun _ _ => id)
theorem Eo.es {w : World} {base : Nat} {v : Value} {E : List Ev} (h : Eo w base v E) : Es w v E := by
 rcases id h.1.2 with ⟨rfl, h0⟩ | ⟨g, cap, cur, rfl, h1, hg, rest⟩
 ·refine ⟨none, 0, by rw [h0], fun h => ?_, fun e he => (h.2 e he).1⟩
  rw [h0] at h
  exact absurd h (Nat.lt_irrefl 0)
 ·refine ⟨some ⟨g, 0, none⟩, cap, rfl, fun _ => ⟨g, 0, rfl, (Array.getElem?_eq_some_iff.1 hg).1, fun i e he => ?_⟩, fun e he => (h.2 e he).1⟩
  have hc := fun j (hj : j < 2) (u : Value) (hu : (evc e)[j]? = some u) => World.ownsRow.cells h.1 (g := g) rfl (i * 2 + j) u ((evcs_get E i j e he hj).trans hu)
  refine ⟨?_, ?_⟩
  ·have h2 := hc 0 (by decide) _ rfl
   rw [add_off] at h2
   exact h2
  ·have h2 := hc 1 (by decide) _ rfl
   rw [add_off, ← Nat.add_assoc] at h2
   exact h2
theorem Eo.push {w w' : World} {base lo hi : Nat} {v v' : Value} {E : List Ev} {e : Ev} (h : Eo w base v E) (hT : Tr (fun c => v.ownBlock = some c) w w') (ho : w'.ownsRow base 26 2 v' (E.length + 1) (evcs E ++ evc e))
  (hG : Grew v ⟨v', lo, hi⟩) (hlo : w.heap.size ≤ lo) (he : EvIn w base v e) : Eo w' base v' (E ++ [e]) := by
 refine ⟨by rw [List.length_append, evcs_snoc]; exact ho, fun x hx => ?_⟩
 have hx' : EvIn w base v x := by
  rcases List.mem_append.1 hx with hx | hx
  ·exact h.2 x hx
  ·rw [List.mem_singleton.1 hx]; exact he
 have h2 := hx'.keep hT fun b _ hv hb => hv hb
 refine ⟨h2.1, fun b hb => ⟨(h2.2 b hb).1, (h2.2 b hb).2.1, fun hv => ?_⟩⟩
 have h3 := hx'.2 b hb
 rcases hG with hG | ⟨hG, -⟩
 ·exact h3.2.2 (hG.symm.trans hv)
 ·have h4 : some lo = some b := hG.symm.trans hv
  injection h4 with h4
  omega
def GotV (w : World) (lo hi g : Nat) (v : Value) (e : Int) (xs : List Int) (r : Ending) (w' : World) : Prop := r = .returned v ∧ SA w' lo hi g e xs ∧ Tr (fun b => b = g) w w'
theorem svar_V {w : World} {lo hi g k : Nat} {e e1 most : Int} {xs x1 : List Int} (h : SA w lo hi g e xs) (hg : gV most (e, xs) = (k, e1, x1)) : Calls Try.prog 60 #[.pointer (some ⟨g, 0, none⟩), .int .i64 most] w (GotV w lo hi g (.int .i64 (k : Int)) e1 x1) := by
 refine (svar_at most h).mono ?_
 rintro r w' ⟨rfl, hs, ht⟩
 unfold gV at hg
 simp only [Prod.mk.injEq] at hg
 obtain ⟨rfl, rfl, rfl⟩ := hg
 exact ⟨rfl, hs, ht⟩
theorem samt_V {w : World} {lo hi g a : Nat} {e e1 : Int} {xs x1 : List Int} (h : SA w lo hi g e xs) (hhi : hi ≤ w.heap.size) (hg : gA (e, xs) = (a, e1, x1)) : Calls Try.prog 62 #[.pointer (some ⟨g, 0, none⟩)] w (GotV w lo hi g (.agg (W4 a)) e1 x1) := by
 refine (samt_at h hhi).mono ?_
 rintro r w' ⟨rfl, hs, ht⟩
 rw [hg] at hs ⊢
 exact ⟨rfl, hs, ht⟩
def RGotV (w : World) (g : Nat) (q : Option Nat) (v : Value) (e : Int) (xs : List Int) (r : Ending) (w' : World) : Prop := r = .returned v ∧ SR w' g q e xs ∧ Tr (fun b => b = g) w w'
theorem rvar_V {w : World} {g k : Nat} {q : Option Nat} {e e1 most : Int} {xs x1 : List Int} (h : SR w g q e xs) (hg : gV most (e, xs) = (k, e1, x1)) : Calls Try.prog 178 #[.pointer (some ⟨g, 0, none⟩), .int .i64 most] w (RGotV w g q (.int .i64 (k : Int)) e1 x1) := by
 refine (rvar_at most h).mono ?_
 rintro r w' ⟨rfl, hs, ht⟩
 rw [hg] at hs ⊢
 exact ⟨rfl, hs, ht⟩
theorem ramt_V {w : World} {g a : Nat} {q : Option Nat} {e e1 : Int} {xs x1 : List Int} (h : SR w g q e xs) (hq : ∀ b, q = some b → b < w.heap.size) (hg : gA (e, xs) = (a, e1, x1)) : Calls Try.prog 179 #[.pointer (some ⟨g, 0, none⟩)] w (RGotV w g q (.agg (W4 a)) e1 x1) := by
 refine (ramt_at h hq).mono ?_
 rintro r w' ⟨rfl, hs, ht⟩
 rw [hg] at hs ⊢
 exact ⟨rfl, hs, ht⟩
theorem tri {α : Type} (x : α × Int × List Int) : ∃ k e xs, x = (k, e, xs) := ⟨x.1, x.2.1, x.2.2, rfl⟩
theorem SR.loc' {g : Nat} {q : Option Nat} {e : Int} {xs : List Int} (w w' : World) (h : SR w g q e xs) (hT : Tr (fun b => ¬ (b = g ∨ q = some b)) w w') : SR w' g q e xs := h.keep hT (fun hx => hx (.inl rfl)) (fun _ hb hx => hx (.inr hb))
end Go.Proofs.Ytpdenhmkpiafiaa
namespace Go.Proofs.Ytpdenhmkpiafiaa
open Go Go.RowKit K6
def Rs {α : Type} (f : α → List Value) (z : Nat) (w : World) (u : Value) (l : List α) : Prop := ∃ q c, u = .slice q l.length c ∧ (0 < l.length → ∃ g o, q = some ⟨g, o, none⟩ ∧ g < w.heap.size ∧ ∀ i x, l[i]? = some x → ∀ j v, (f x)[j]? = some v → w.cell? ⟨g, o + i * z + j, none⟩ = some v)
theorem Rs.below {α : Type} {f : α → List Value} {z : Nat} {w w' : World} {u : Value} {l : List α} (h : Rs f z w u l) (hb : Below w.heap.size w w') : Rs f z w' u l := by
 obtain ⟨q, c, rfl, h⟩ := h
 refine ⟨q, c, rfl, fun h0 => ?_⟩
 obtain ⟨g, o, rfl, hg, hc⟩ := h h0
 exact ⟨g, o, rfl, Nat.lt_of_lt_of_le hg hb.size, fun i x hx j v hj => (World.cell?_of_block (hb.block g hg)).trans (hc i x hx j v hj)⟩
theorem Rs.nil {α : Type} (f : α → List Value) (z : Nat) (w : World) : Rs f z w (.slice none 0 0) [] := ⟨none, 0, rfl, fun h => absurd h (Nat.lt_irrefl 0)⟩
theorem Rs.get {α : Type} {f : α → List Value} {z : Nat} {w : World} {u : Value} {l : List α} (h : Rs f z w u l) {i : Nat} {x : α} (hx : l[i]? = some x) :
  ∃ g o c, u = .slice (some ⟨g, o, none⟩) l.length c ∧ g < w.heap.size ∧ ∀ j v, (f x)[j]? = some v → w.cell? ⟨g, o + i * z + j, none⟩ = some v := by
 obtain ⟨q, c, rfl, h⟩ := h
 obtain ⟨g, o, rfl, hg, hc⟩ := h (by have := (List.getElem?_eq_some_iff.1 hx).1; omega)
 exact ⟨g, o, c, rfl, hg, fun j v hj => hc i x hx j v hj⟩
def icl (n : Int) : List Value := [.int .i64 n]
abbrev Is := Rs icl 1
abbrev Hs := Rs bv 32
theorem eqItems_two {P : Program} (d : Nat) {e : TypeId} {k : IntKind} (he : P.underlying e = some (.int k)) (cs ds : Array Value) (f g : Nat → Int) (w : World) : ∀ is : List Nat, (∀ i ∈ is, cs[i]? = some (.int k (f i)) ∧ ds[i]? = some (.int k (g i))) → (Op.eqItems (d + 1) e 1 cs ds is).run P w = .ok (is.all fun i => f i == g i) w
 | [], _ => by simp [Op.eqItems]
 | i :: is, h => by
  obtain ⟨hx, hy⟩ := h i (List.mem_cons_self ..)
  have ih := eqItems_two d he cs ds f g w is fun j hj => h j (List.mem_cons_of_mem _ hj)
  have e1 : ∀ (a b : Int) (wx : World), (Op.equalIn (d + 1) e (.int k a) (.int k b)).run P wx = .ok (a == b) wx := fun a b wx => by
   simp [Op.equalIn, run_underlying he]
  cases hq : (f i == g i) with
  | true => simp [Op.eqItems, part, isAgg, run_underlying he, e1, hx, hy, hq, ih]
  | false => simp [Op.eqItems, part, isAgg, run_underlying he, e1, hx, hy, hq]
set_option maxRecDepth 100000 in
theorem eqH {X Y : List Int} (hX : X.length = 32) (hY : Y.length = 32) (w : World) : (Op.equalIn 10000 35 (.agg (bv X).toArray) (.agg (bv Y).toArray)).run Try.prog w = .ok (decide (X = Y)) w := by
 obtain ⟨i, hi⟩ := Option.isSome_iff_exists.1 (show (Try.prog.info? 5).isSome = true by kernel_rfl)
 have hc : Try.prog.cellsOf 5 = 1 := by kernel_rfl
 rw [run_equalIn_array w 9999 _ _ Try.underlying35 hi, hc]
 have hg : ∀ (Z : List Int) (j : Nat), j < Z.length → (bv Z).toArray[j]? = some (.int .u8 (Z.getD j 0)) := fun Z j hj => by
  rw [List.getElem?_toArray]
  unfold bv
  rw [List.getElem?_map, List.getD_eq_getElem?_getD, List.getElem?_eq_getElem hj]
  rfl
 rw [eqItems_two 9998 Try.underlying5 _ _ (fun j => X.getD j 0) (fun j => Y.getD j 0) w _ fun j hj => ⟨hg X j (by rw [hX]; exact List.mem_range.1 hj), hg Y j (by rw [hY]; exact List.mem_range.1 hj)⟩]
 congr 1
 rw [Bool.eq_iff_iff]
 simp only [List.all_eq_true, List.mem_range, beq_iff_eq, decide_eq_true_eq]
 constructor
 ·intro h
  refine List.ext_getElem (by omega) fun j h1 h2 => ?_
  have h3 := h j (by omega)
  rw [List.getD_eq_getElem?_getD, List.getD_eq_getElem?_getD, List.getElem?_eq_getElem h1, List.getElem?_eq_getElem h2] at h3
  exact h3
 ·rintro rfl j _; rfl
theorem take_app_eq' {α : Type} {l k : List α} {i : Nat} {x y : α} (hx : l[i]? = some x) (hy : k[i]? = some y) (h : l.take i = k.take i) (hxy : x = y) : l.take (i + 1) = k.take (i + 1) := by
 rw [List.take_add_one, List.take_add_one, hx, hy, h, hxy]
theorem get_ne' {α : Type} {l k : List α} {i : Nat} {x y : α} (hx : l[i]? = some x) (hy : k[i]? = some y) (hxy : x ≠ y) : l ≠ k := fun h => hxy (by rw [h, hy] at hx; exact (Option.some.inj hx).symm)
set_option maxRecDepth 100000 in
set_option maxHeartbeats 16000000 in
theorem isRef_at (u v : Value) (l k : List Int) (w : World) (hu : Is w u l) (hv : Is w v k) (hL : l.length ≤ 140737488355328) :
  Calls Try.prog 219 #[u, v] w fun r w' => r = .returned (.bool (decide (l = k))) ∧ Below w.heap.size w w' := by
 have HU := Lib.hid (show _ ∧ True from ⟨hu, trivial⟩)
 have HV := Lib.hid (show _ ∧ True from ⟨hv, trivial⟩)
 obtain ⟨q1, c1, rfl, -⟩ := hu
 obtain ⟨q2, c2, rfl, -⟩ := hv
 obtain ⟨n1, hn1⟩ : ∃ n, l.length = n := ⟨_, rfl⟩
 obtain ⟨n2, hn2⟩ : ∃ n, k.length = n := ⟨_, rfl⟩
 rw [hn1] at HU hL
 rw [hn2] at HV
 obtain ⟨b, hb⟩ : ∃ b, decide (l = k) = b := ⟨_, rfl⟩
 rw [hb, hn1, hn2]
 have HB := Lib.hid (show _ ∧ _ ∧ _ from ⟨hb, hn1, hn2⟩)
 have hni : (n1 : Int) ≤ 140737488355328 := by omega
 clear hb hn1 hn2 hL
 by_cases hne : n1 = n2
 ·subst hne
  go_enter Try.func219, Try.ntmps219
  go_wp2_with fail
  go_loopg [5, 13] n1 (fun gg s5 s13 wr => ∃ i : Nat, i + gg = n1 ∧ s13 = .int .i64 (i : Int) ∧ Hid (l.take i = k.take i) ∧ Hid (Below w.heap.size w wr))
  case atStart => exact ⟨0, by omega, rfl, Lib.hid (by rw [List.take_zero, List.take_zero]), Lib.hid (Below.refl _ _)⟩
  case round =>
   obtain ⟨i, him, rfl, heq, hinv⟩ := hrel
   by_cases hi : i < n1
   ·obtain ⟨x, hx⟩ : ∃ x, l[i]? = some x := ⟨_, List.getElem?_eq_getElem (by have := HB.out.2.1; omega)⟩
    obtain ⟨y, hy⟩ : ∃ y, k[i]? = some y := ⟨_, List.getElem?_eq_getElem (by have := HB.out.2.2; omega)⟩
    obtain ⟨gx, ox, cx', hu, hgx, hcx⟩ := (HU.out.1.below hinv.out).get hx
    simp only [Value.slice.injEq] at hu
    obtain ⟨rfl, -, -⟩ := hu
    obtain ⟨gy, oy, cy', hu, hgy, hcy⟩ := (HV.out.1.below hinv.out).get hy
    simp only [Value.slice.injEq] at hu
    obtain ⟨rfl, -, -⟩ := hu
    have cx0 : wr.cell? ⟨gx, ox + i, none⟩ = some (.int .i64 x) := by have h := hcx 0 _ rfl; simpa using h
    have cy0 : wr.cell? ⟨gy, oy + i, none⟩ = some (.int .i64 y) := by have h := hcy 0 _ rfl; simpa using h
    clear hcx hcy
    have HX := Lib.hid (show _ ∧ _ from ⟨hx, hy⟩)
    clear hx hy
    have hlt : (i : Int) < (n1 : Int) := by omega
    by_cases hxy : x = y
    ·subst hxy
     have q1 := trivial
     have hnext := Lib.hid (take_app_eq' HX.out.1 HX.out.2 heq.out rfl)
     clear HX heq
     go_upto_region 6 with (fail)
     let L : List Sp := []
     refine wp_region_six (shs L) (look6 L) (None_) (by kernel_rfl) (by kernel_rfl) (mk_St L [] [] (by kernel_rfl) (by kernel_rfl) trivial (by simp)) ?_
     intro QQ hQ
     iterate 3 (refine stepK rfl (by kernel_rfl) (fun K hK => ?_); go_simp; apply Exists.intro; apply And.intro; (focus (intro wk hk; go_simp; exact ⟨rfl, rfl⟩)); refine hK _ _ ?_; clear hK K)
     refine stepK rfl (by kernel_rfl) (fun K hK => ?_); go_simp
     apply Exists.intro; apply And.intro; (focus (intro wk hk; have cc : wk.cell? ⟨gx, ox + i, none⟩ = some (.int .i64 x) := (World.cell?_of_block (hk.undrew.below.block _ hgx)).trans cx0; go_simp; exact ⟨rfl, rfl⟩)); refine hK _ _ ?_; clear hK K
     iterate 3 (refine stepK rfl (by kernel_rfl) (fun K hK => ?_); go_simp; apply Exists.intro; apply And.intro; (focus (intro wk hk; go_simp; exact ⟨rfl, rfl⟩)); refine hK _ _ ?_; clear hK K)
     refine stepK rfl (by kernel_rfl) (fun K hK => ?_); go_simp
     apply Exists.intro; apply And.intro; (focus (intro wk hk; have cc : wk.cell? ⟨gy, oy + i, none⟩ = some (.int .i64 x) := (World.cell?_of_block (hk.undrew.below.block _ hgy)).trans cy0; go_simp; exact ⟨rfl, rfl⟩)); refine hK _ _ ?_; clear hK K
     refine stepK rfl (by kernel_rfl) (fun K hK => ?_); go_simp
     apply Exists.intro; apply And.intro; (focus (intro wk hk; go_simp; exact ⟨rfl, rfl⟩)); refine hK _ _ ?_; clear hK K
     refine stepN ?_
     refine hQ _ _ ?_
     intro w1 hT hG hF
     have hl1 := Lib.hid (hinv.out.trans (hT.undrew.below.mono hinv.out.size))
     clear hT hG hF hQ QQ L cx0 cy0 hinv q1
     go_wp2_with fail
     go_roundg (gk - 1)
     case measure => omega
     case rel => exact ⟨i + 1, by omega, by go_num, hnext, hl1⟩
    ·have q1 : (x != y) = true := by rw [bne_iff_ne]; exact hxy
     have hbf : b = false := by rw [← HB.out.1]; exact decide_eq_false (get_ne' HX.out.1 HX.out.2 hxy)
     subst hbf
     clear HX heq hxy
     go_upto_region 6 with (fail)
     let L : List Sp := []
     refine wp_region_six (shs L) (look6 L) (None_) (by kernel_rfl) (by kernel_rfl) (mk_St L [] [] (by kernel_rfl) (by kernel_rfl) trivial (by simp)) ?_
     intro QQ hQ
     iterate 3 (refine stepK rfl (by kernel_rfl) (fun K hK => ?_); go_simp; apply Exists.intro; apply And.intro; (focus (intro wk hk; go_simp; exact ⟨rfl, rfl⟩)); refine hK _ _ ?_; clear hK K)
     refine stepK rfl (by kernel_rfl) (fun K hK => ?_); go_simp
     apply Exists.intro; apply And.intro; (focus (intro wk hk; have cc : wk.cell? ⟨gx, ox + i, none⟩ = some (.int .i64 x) := (World.cell?_of_block (hk.undrew.below.block _ hgx)).trans cx0; go_simp; exact ⟨rfl, rfl⟩)); refine hK _ _ ?_; clear hK K
     iterate 3 (refine stepK rfl (by kernel_rfl) (fun K hK => ?_); go_simp; apply Exists.intro; apply And.intro; (focus (intro wk hk; go_simp; exact ⟨rfl, rfl⟩)); refine hK _ _ ?_; clear hK K)
     refine stepK rfl (by kernel_rfl) (fun K hK => ?_); go_simp
     apply Exists.intro; apply And.intro; (focus (intro wk hk; have cc : wk.cell? ⟨gy, oy + i, none⟩ = some (.int .i64 y) := (World.cell?_of_block (hk.undrew.below.block _ hgy)).trans cy0; go_simp; exact ⟨rfl, rfl⟩)); refine hK _ _ ?_; clear hK K
     refine stepK rfl (by kernel_rfl) (fun K hK => ?_); go_simp
     apply Exists.intro; apply And.intro; (focus (intro wk hk; go_simp; exact ⟨rfl, rfl⟩)); refine hK _ _ ?_; clear hK K
     refine stepN ?_
     refine hQ _ _ ?_
     intro w1 hT hG hF
     have hl1 := Lib.hid (hinv.out.trans (hT.undrew.below.mono hinv.out.size))
     clear hT hG hF hQ QQ L cx0 cy0 hinv
     go_wp2_with fail
     go_ret
     exact ⟨rfl, hl1.out⟩
   ·obtain rfl : i = n1 := by omega
    have hlt : ¬ (i : Int) < (i : Int) := by omega
    have hbt : b = true := by
     rw [← HB.out.1]
     have h := heq.out
     rw [List.take_of_length_le (by have := HB.out.2.1; omega), List.take_of_length_le (by have := HB.out.2.2; omega)] at h
     exact decide_eq_true h
    subst hbt
    clear heq
    go_wp2_with fail
    go_ret
    exact ⟨rfl, hinv.out⟩
 ·have hd : ¬ (n1 : Int) = (n2 : Int) := by omega
  have hbf : b = false := by rw [← HB.out.1]; exact decide_eq_false (fun h => hne (by rw [← HB.out.2.1, ← HB.out.2.2, h]))
  subst hbf
  clear hne
  go_enter Try.func219, Try.ntmps219
  go_wp2_with fail
  go_ret
  exact ⟨rfl, Below.refl _ _⟩
set_option maxRecDepth 100000 in
set_option maxHeartbeats 16000000 in
theorem hsEq_at (u v : Value) (l k : List (List Int)) (w : World) (hu : Hs w u l) (hv : Hs w v k) (hlH : ∀ x ∈ l, x.length = 32) (hkH : ∀ x ∈ k, x.length = 32) (hL : l.length ≤ 140737488355328) :
  Calls Try.prog 218 #[u, v] w fun r w' => r = .returned (.bool (decide (l = k))) ∧ Below w.heap.size w w' := by
 have HU := Lib.hid (show _ ∧ _ from ⟨hu, hlH⟩)
 have HV := Lib.hid (show _ ∧ _ from ⟨hv, hkH⟩)
 obtain ⟨q1, c1, rfl, -⟩ := hu
 obtain ⟨q2, c2, rfl, -⟩ := hv
 obtain ⟨n1, hn1⟩ : ∃ n, l.length = n := ⟨_, rfl⟩
 obtain ⟨n2, hn2⟩ : ∃ n, k.length = n := ⟨_, rfl⟩
 rw [hn1] at HU hL
 rw [hn2] at HV
 obtain ⟨b, hb⟩ : ∃ b, decide (l = k) = b := ⟨_, rfl⟩
 rw [hb, hn1, hn2]
 have HB := Lib.hid (show _ ∧ _ ∧ _ from ⟨hb, hn1, hn2⟩)
 have hni : (n1 : Int) ≤ 140737488355328 := by omega
 clear hlH hkH hb hn1 hn2 hL
 by_cases hne : n1 = n2
 ·subst hne
  go_enter Try.func218, Try.ntmps218
  go_wp2_with fail
  go_loopg [5, 13] n1 (fun gg s5 s13 wr => ∃ i : Nat, i + gg = n1 ∧ s13 = .int .i64 (i : Int) ∧ Hid (l.take i = k.take i) ∧ Hid (Below w.heap.size w wr))
  case atStart => exact ⟨0, by omega, rfl, Lib.hid (by rw [List.take_zero, List.take_zero]), Lib.hid (Below.refl _ _)⟩
  case round =>
   obtain ⟨i, him, rfl, heq, hinv⟩ := hrel
   by_cases hi : i < n1
   ·obtain ⟨x, hx⟩ : ∃ x, l[i]? = some x := ⟨_, List.getElem?_eq_getElem (by have := HB.out.2.1; omega)⟩
    obtain ⟨y, hy⟩ : ∃ y, k[i]? = some y := ⟨_, List.getElem?_eq_getElem (by have := HB.out.2.2; omega)⟩
    obtain ⟨gx, ox, cx', hu, hgx, hcx⟩ := (HU.out.1.below hinv.out).get hx
    simp only [Value.slice.injEq] at hu
    obtain ⟨rfl, -, -⟩ := hu
    obtain ⟨gy, oy, cy', hu, hgy, hcy⟩ := (HV.out.1.below hinv.out).get hy
    simp only [Value.slice.injEq] at hu
    obtain ⟨rfl, -, -⟩ := hu
    have hxl := HU.out.2 x (List.mem_of_getElem? hx)
    have hyl := HV.out.2 y (List.mem_of_getElem? hy)
    have hbx : (bv x).length = 32 := by rw [bv_len]; exact hxl
    have hby : (bv y).length = 32 := by rw [bv_len]; exact hyl
    have HX := Lib.hid (show _ ∧ _ from ⟨hx, hy⟩)
    clear hx hy
    have hlt : (i : Int) < (n1 : Int) := by omega
    by_cases hxy : x = y
    ·subst hxy
     have q1 : ∀ wx, (Op.equalIn 10000 35 (.agg (bv x).toArray) (.agg (bv x).toArray)).run Try.prog wx = .ok true wx := fun wx => by rw [eqH hxl hyl, decide_eq_true rfl]
     have hnext := Lib.hid (take_app_eq' HX.out.1 HX.out.2 heq.out rfl)
     clear hxl hyl HX heq
     go_upto_region 6 with (fail)
     let L : List Sp := []
     refine wp_region_six (shs L) (look6 L) (None_) (by kernel_rfl) (by kernel_rfl) (mk_St L [] [] (by kernel_rfl) (by kernel_rfl) trivial (by simp)) ?_
     intro QQ hQ
     iterate 3 (refine stepK rfl (by kernel_rfl) (fun K hK => ?_); go_simp; apply Exists.intro; apply And.intro; (focus (intro wk hk; go_simp; exact ⟨rfl, rfl⟩)); refine hK _ _ ?_; clear hK K)
     refine stepK rfl (by kernel_rfl) (fun K hK => ?_); go_simp
     apply Exists.intro; apply And.intro; (focus exact kLoadE rfl rfl aggR35 hcx hbx hgx id); refine hK _ _ ?_; clear hK K
     iterate 3 (refine stepK rfl (by kernel_rfl) (fun K hK => ?_); go_simp; apply Exists.intro; apply And.intro; (focus (intro wk hk; go_simp; exact ⟨rfl, rfl⟩)); refine hK _ _ ?_; clear hK K)
     refine stepK rfl (by kernel_rfl) (fun K hK => ?_); go_simp
     apply Exists.intro; apply And.intro; (focus exact kLoadE rfl rfl aggR35 hcy hby hgy id); refine hK _ _ ?_; clear hK K
     refine stepK rfl (by kernel_rfl) (fun K hK => ?_); go_simp
     apply Exists.intro; apply And.intro; (focus (intro wk hk; go_simp; exact ⟨rfl, rfl⟩)); refine hK _ _ ?_; clear hK K
     refine stepN ?_
     refine hQ _ _ ?_
     intro w1 hT hG hF
     have hl1 := Lib.hid (hinv.out.trans (hT.undrew.below.mono hinv.out.size))
     clear hT hG hF hQ QQ L hcx hcy hinv q1
     go_wp2_with fail
     go_roundg (gk - 1)
     case measure => omega
     case rel => exact ⟨i + 1, by omega, by go_num, hnext, hl1⟩
    ·have q1 : ∀ wx, (Op.equalIn 10000 35 (.agg (bv x).toArray) (.agg (bv y).toArray)).run Try.prog wx = .ok false wx := fun wx => by rw [eqH hxl hyl, decide_eq_false hxy]
     have hbf : b = false := by rw [← HB.out.1]; exact decide_eq_false (get_ne' HX.out.1 HX.out.2 hxy)
     subst hbf
     clear hxl hyl HX heq hxy
     go_upto_region 6 with (fail)
     let L : List Sp := []
     refine wp_region_six (shs L) (look6 L) (None_) (by kernel_rfl) (by kernel_rfl) (mk_St L [] [] (by kernel_rfl) (by kernel_rfl) trivial (by simp)) ?_
     intro QQ hQ
     iterate 3 (refine stepK rfl (by kernel_rfl) (fun K hK => ?_); go_simp; apply Exists.intro; apply And.intro; (focus (intro wk hk; go_simp; exact ⟨rfl, rfl⟩)); refine hK _ _ ?_; clear hK K)
     refine stepK rfl (by kernel_rfl) (fun K hK => ?_); go_simp
     apply Exists.intro; apply And.intro; (focus exact kLoadE rfl rfl aggR35 hcx hbx hgx id); refine hK _ _ ?_; clear hK K
     iterate 3 (refine stepK rfl (by kernel_rfl) (fun K hK => ?_); go_simp; apply Exists.intro; apply And.intro; (focus (intro wk hk; go_simp; exact ⟨rfl, rfl⟩)); refine hK _ _ ?_; clear hK K)
     refine stepK rfl (by kernel_rfl) (fun K hK => ?_); go_simp
     apply Exists.intro; apply And.intro; (focus exact kLoadE rfl rfl aggR35 hcy hby hgy id); refine hK _ _ ?_; clear hK K
     refine stepK rfl (by kernel_rfl) (fun K hK => ?_); go_simp
     apply Exists.intro; apply And.intro; (focus (intro wk hk; go_simp; exact ⟨rfl, rfl⟩)); refine hK _ _ ?_; clear hK K
     refine stepN ?_
     refine hQ _ _ ?_
     intro w1 hT hG hF
     have hl1 := Lib.hid (hinv.out.trans (hT.undrew.below.mono hinv.out.size))
     clear hT hG hF hQ QQ L hcx hcy hinv
     go_wp2_with fail
     go_ret
     exact ⟨rfl, hl1.out⟩
   ·obtain rfl : i = n1 := by omega
    have hlt : ¬ (i : Int) < (i : Int) := by omega
    have hbt : b = true := by
     rw [← HB.out.1]
     have h := heq.out
     rw [List.take_of_length_le (by have := HB.out.2.1; omega), List.take_of_length_le (by have := HB.out.2.2; omega)] at h
     exact decide_eq_true h
    subst hbt
    clear heq
    go_wp2_with fail
    go_ret
    exact ⟨rfl, hinv.out⟩
 ·have hd : ¬ (n1 : Int) = (n2 : Int) := by omega
  have hbf : b = false := by rw [← HB.out.1]; exact decide_eq_false (fun h => hne (by rw [← HB.out.2.1, ← HB.out.2.2, h]))
  subst hbf
  clear hne
  go_enter Try.func218, Try.ntmps218
  go_wp2_with fail
  go_ret
  exact ⟨rfl, Below.refl _ _⟩
set_option maxRecDepth 100000 in
set_option maxHeartbeats 16000000 in
theorem hsRef_at (u v : Value) (l k : List (List Int)) (w : World) (hu : Hs w u l) (hv : Hs w v k) (hlH : ∀ x ∈ l, x.length = 32) (hkH : ∀ x ∈ k, x.length = 32) (hL : l.length ≤ 140737488355328) :
  Calls Try.prog 220 #[u, v] w fun r w' => r = .returned (.bool (decide (l = k))) ∧ Below w.heap.size w w' := by
 have HU := Lib.hid (show _ ∧ _ from ⟨hu, hlH⟩)
 have HV := Lib.hid (show _ ∧ _ from ⟨hv, hkH⟩)
 obtain ⟨q1, c1, rfl, -⟩ := hu
 obtain ⟨q2, c2, rfl, -⟩ := hv
 obtain ⟨n1, hn1⟩ : ∃ n, l.length = n := ⟨_, rfl⟩
 obtain ⟨n2, hn2⟩ : ∃ n, k.length = n := ⟨_, rfl⟩
 rw [hn1] at HU hL
 rw [hn2] at HV
 obtain ⟨b, hb⟩ : ∃ b, decide (l = k) = b := ⟨_, rfl⟩
 rw [hb, hn1, hn2]
 have HB := Lib.hid (show _ ∧ _ ∧ _ from ⟨hb, hn1, hn2⟩)
 have hni : (n1 : Int) ≤ 140737488355328 := by omega
 clear hlH hkH hb hn1 hn2 hL
 by_cases hne : n1 = n2
 ·subst hne
  go_enter Try.func220, Try.ntmps220
  go_wp2_with fail
  go_loopg [5, 13] n1 (fun gg s5 s13 wr => ∃ i : Nat, i + gg = n1 ∧ s13 = .int .i64 (i : Int) ∧ Hid (l.take i = k.take i) ∧ Hid (Below w.heap.size w wr))
  case atStart => exact ⟨0, by omega, rfl, Lib.hid (by rw [List.take_zero, List.take_zero]), Lib.hid (Below.refl _ _)⟩
  case round =>
   obtain ⟨i, him, rfl, heq, hinv⟩ := hrel
   by_cases hi : i < n1
   ·obtain ⟨x, hx⟩ : ∃ x, l[i]? = some x := ⟨_, List.getElem?_eq_getElem (by have := HB.out.2.1; omega)⟩
    obtain ⟨y, hy⟩ : ∃ y, k[i]? = some y := ⟨_, List.getElem?_eq_getElem (by have := HB.out.2.2; omega)⟩
    obtain ⟨gx, ox, cx', hu, hgx, hcx⟩ := (HU.out.1.below hinv.out).get hx
    simp only [Value.slice.injEq] at hu
    obtain ⟨rfl, -, -⟩ := hu
    obtain ⟨gy, oy, cy', hu, hgy, hcy⟩ := (HV.out.1.below hinv.out).get hy
    simp only [Value.slice.injEq] at hu
    obtain ⟨rfl, -, -⟩ := hu
    have hxl := HU.out.2 x (List.mem_of_getElem? hx)
    have hyl := HV.out.2 y (List.mem_of_getElem? hy)
    have hbx : (bv x).length = 32 := by rw [bv_len]; exact hxl
    have hby : (bv y).length = 32 := by rw [bv_len]; exact hyl
    have HX := Lib.hid (show _ ∧ _ from ⟨hx, hy⟩)
    clear hx hy
    have hlt : (i : Int) < (n1 : Int) := by omega
    by_cases hxy : x = y
    ·subst hxy
     have q1 : ∀ wx, (Op.equalIn 10000 35 (.agg (bv x).toArray) (.agg (bv x).toArray)).run Try.prog wx = .ok true wx := fun wx => by rw [eqH hxl hyl, decide_eq_true rfl]
     have hnext := Lib.hid (take_app_eq' HX.out.1 HX.out.2 heq.out rfl)
     clear hxl hyl HX heq
     go_upto_region 6 with (fail)
     let L : List Sp := []
     refine wp_region_six (shs L) (look6 L) (None_) (by kernel_rfl) (by kernel_rfl) (mk_St L [] [] (by kernel_rfl) (by kernel_rfl) trivial (by simp)) ?_
     intro QQ hQ
     iterate 3 (refine stepK rfl (by kernel_rfl) (fun K hK => ?_); go_simp; apply Exists.intro; apply And.intro; (focus (intro wk hk; go_simp; exact ⟨rfl, rfl⟩)); refine hK _ _ ?_; clear hK K)
     refine stepK rfl (by kernel_rfl) (fun K hK => ?_); go_simp
     apply Exists.intro; apply And.intro; (focus exact kLoadE rfl rfl aggR35 hcx hbx hgx id); refine hK _ _ ?_; clear hK K
     iterate 3 (refine stepK rfl (by kernel_rfl) (fun K hK => ?_); go_simp; apply Exists.intro; apply And.intro; (focus (intro wk hk; go_simp; exact ⟨rfl, rfl⟩)); refine hK _ _ ?_; clear hK K)
     refine stepK rfl (by kernel_rfl) (fun K hK => ?_); go_simp
     apply Exists.intro; apply And.intro; (focus exact kLoadE rfl rfl aggR35 hcy hby hgy id); refine hK _ _ ?_; clear hK K
     refine stepK rfl (by kernel_rfl) (fun K hK => ?_); go_simp
     apply Exists.intro; apply And.intro; (focus (intro wk hk; go_simp; exact ⟨rfl, rfl⟩)); refine hK _ _ ?_; clear hK K
     refine stepN ?_
     refine hQ _ _ ?_
     intro w1 hT hG hF
     have hl1 := Lib.hid (hinv.out.trans (hT.undrew.below.mono hinv.out.size))
     clear hT hG hF hQ QQ L hcx hcy hinv q1
     go_wp2_with fail
     go_roundg (gk - 1)
     case measure => omega
     case rel => exact ⟨i + 1, by omega, by go_num, hnext, hl1⟩
    ·have q1 : ∀ wx, (Op.equalIn 10000 35 (.agg (bv x).toArray) (.agg (bv y).toArray)).run Try.prog wx = .ok false wx := fun wx => by rw [eqH hxl hyl, decide_eq_false hxy]
     have hbf : b = false := by rw [← HB.out.1]; exact decide_eq_false (get_ne' HX.out.1 HX.out.2 hxy)
     subst hbf
     clear hxl hyl HX heq hxy
     go_upto_region 6 with (fail)
     let L : List Sp := []
     refine wp_region_six (shs L) (look6 L) (None_) (by kernel_rfl) (by kernel_rfl) (mk_St L [] [] (by kernel_rfl) (by kernel_rfl) trivial (by simp)) ?_
     intro QQ hQ
     iterate 3 (refine stepK rfl (by kernel_rfl) (fun K hK => ?_); go_simp; apply Exists.intro; apply And.intro; (focus (intro wk hk; go_simp; exact ⟨rfl, rfl⟩)); refine hK _ _ ?_; clear hK K)
     refine stepK rfl (by kernel_rfl) (fun K hK => ?_); go_simp
     apply Exists.intro; apply And.intro; (focus exact kLoadE rfl rfl aggR35 hcx hbx hgx id); refine hK _ _ ?_; clear hK K
     iterate 3 (refine stepK rfl (by kernel_rfl) (fun K hK => ?_); go_simp; apply Exists.intro; apply And.intro; (focus (intro wk hk; go_simp; exact ⟨rfl, rfl⟩)); refine hK _ _ ?_; clear hK K)
     refine stepK rfl (by kernel_rfl) (fun K hK => ?_); go_simp
     apply Exists.intro; apply And.intro; (focus exact kLoadE rfl rfl aggR35 hcy hby hgy id); refine hK _ _ ?_; clear hK K
     refine stepK rfl (by kernel_rfl) (fun K hK => ?_); go_simp
     apply Exists.intro; apply And.intro; (focus (intro wk hk; go_simp; exact ⟨rfl, rfl⟩)); refine hK _ _ ?_; clear hK K
     refine stepN ?_
     refine hQ _ _ ?_
     intro w1 hT hG hF
     have hl1 := Lib.hid (hinv.out.trans (hT.undrew.below.mono hinv.out.size))
     clear hT hG hF hQ QQ L hcx hcy hinv
     go_wp2_with fail
     go_ret
     exact ⟨rfl, hl1.out⟩
   ·obtain rfl : i = n1 := by omega
    have hlt : ¬ (i : Int) < (i : Int) := by omega
    have hbt : b = true := by
     rw [← HB.out.1]
     have h := heq.out
     rw [List.take_of_length_le (by have := HB.out.2.1; omega), List.take_of_length_le (by have := HB.out.2.2; omega)] at h
     exact decide_eq_true h
    subst hbt
    clear heq
    go_wp2_with fail
    go_ret
    exact ⟨rfl, hinv.out⟩
 ·have hd : ¬ (n1 : Int) = (n2 : Int) := by omega
  have hbf : b = false := by rw [← HB.out.1]; exact decide_eq_false (fun h => hne (by rw [← HB.out.2.1, ← HB.out.2.2, h]))
  subst hbf
  clear hne
  go_enter Try.func220, Try.ntmps220
  go_wp2_with fail
  go_ret
  exact ⟨rfl, Below.refl _ _⟩
end Go.Proofs.Ytpdenhmkpiafiaa
namespace Go.Proofs.Ytpdenhmkpiafiaa
open Go Go.RowKit K6
structure Lf where
 i : Int
 t : Int
 a : Nat
 pq : Option Addr
 pc : Nat
 p : List (List Int)
instance : Inhabited Lf := ⟨⟨0, 0, 0, none, 0, []⟩⟩
def Lf.pv (x : Lf) : Value := .slice x.pq x.p.length x.pc
def lfc (x : Lf) : List Value := [.int .i64 x.i, .int .i64 x.t] ++ ((W4 x.a).toList ++ [x.pv])
def I64 (n : Int) : Prop := -9223372036854775808 ≤ n ∧ n < 9223372036854775808
def HsOk (l : List (List Int)) : Prop := ∀ y ∈ l, y.length = 32 ∧ By y
structure LfOk (w : World) (x : Lf) : Prop where
 p : Hs w x.pv x.p
 h : HsOk x.p
 a : x.a < M
 i : I64 x.i
 t : I64 x.t
theorem LfOk.below {w w' : World} {x : Lf} (h : LfOk w x) (hb : Below w.heap.size w w') : LfOk w' x := ⟨h.p.below hb, h.h, h.a, h.i, h.t⟩
def Ls (w : World) (u : Value) (l : List Lf) : Prop := Rs lfc 7 w u l ∧ ∀ x ∈ l, LfOk w x
theorem Ls.below {w w' : World} {u : Value} {l : List Lf} (h : Ls w u l) (hb : Below w.heap.size w w') : Ls w' u l := ⟨h.1.below hb, fun x hx => (h.2 x hx).below hb⟩
theorem Ls.nil (w : World) : Ls w (.slice none 0 0) [] := ⟨Rs.nil _ _ _, fun _ h => (by cases h)⟩
structure Cm where
 r : Int
 x : Int
 e : Int
 tok : List Int
 pq : Option Addr
 pc : Nat
 p : List (List Int)
 lq : Option Addr
 lc : Nat
 l : List Lf
 z : Int
def Cm.pv (c : Cm) : Value := .slice c.pq c.p.length c.pc
def Cm.lv (c : Cm) : Value := .slice c.lq c.l.length c.lc
def Cm.cs (c : Cm) : List Value := [.int .i64 c.r, .int .i64 c.x, .int .i64 c.e] ++ (bv c.tok ++ [c.pv, c.lv, .int .i64 c.z])
structure CmOk (w : World) (c : Cm) : Prop where
 tok : c.tok.length = 32
 by_ : By c.tok
 p : Hs w c.pv c.p
 h : HsOk c.p
 l : Ls w c.lv c.l
 r : I64 c.r
 x : I64 c.x
 e : I64 c.e
 z : I64 c.z
theorem CmOk.below {w w' : World} {c : Cm} (h : CmOk w c) (hb : Below w.heap.size w w') : CmOk w' c := ⟨h.tok, h.by_, h.p.below hb, h.h, h.l.below hb, h.r, h.x, h.e, h.z⟩
def cm0 : Cm := ⟨0, 0, 0, List.replicate 32 0, none, 0, [], none, 0, [], 0⟩
theorem cm0_ok (w : World) : CmOk w cm0 := by
 have z : I64 0 := ⟨by decide, by decide⟩
 exact ⟨rfl, fun x hx => by rw [(List.mem_replicate.1 hx).2]; omega, Rs.nil _ _ _, (fun _ h => (by cases h)), Ls.nil w, z, z, z, z⟩
structure Txv where
 k : Int
 f : Int
 nq : Option Addr
 nc : Nat
 n : List Int
 aq : Option Addr
 ac : Nat
 a : List Nat
 hq : Option Addr
 hc : Nat
 h : List (List Int)
 c : Cm
def Txv.nv (t : Txv) : Value := .slice t.nq t.n.length t.nc
def Txv.av (t : Txv) : Value := .slice t.aq t.a.length t.ac
def Txv.hv (t : Txv) : Value := .slice t.hq t.h.length t.hc
def Txv.cs (t : Txv) : List Value := [.int .i64 t.k, .int .i64 t.f, t.nv, t.av, t.hv] ++ t.c.cs
structure TxOk (w : World) (t : Txv) : Prop where
 k : I64 t.k
 f : I64 t.f
 n : Is w t.nv t.n
 nb : ∀ x ∈ t.n, I64 x
 a : Us w t.av t.a
 ab : ∀ x ∈ t.a, x < M
 h : Hs w t.hv t.h
 hb : HsOk t.h
 c : CmOk w t.c
theorem TxOk.below {w w' : World} {t : Txv} (h : TxOk w t) (hb : Below w.heap.size w w') : TxOk w' t := ⟨h.k, h.f, h.n.below hb, h.nb, h.a.below hb, h.ab, h.h.below hb, h.hb, h.c.below hb⟩
theorem lfc_len (x : Lf) : (lfc x).length = 7 := rfl
theorem lfc_a (x : Lf) : ∀ j v, (W4 x.a)[j]? = some v → (lfc x).toArray[2 + j]? = some v := fun j v hj => by
 have hj4 : j < 4 := (Array.getElem?_eq_some_iff.1 hj).1
 have : j = 0 ∨ j = 1 ∨ j = 2 ∨ j = 3 := by omega
 rcases this with rfl | rfl | rfl | rfl <;> exact hj
theorem Cm.len {c : Cm} (h : c.tok.length = 32) : c.cs.length = 38 := by
 unfold Cm.cs
 rw [List.length_append, List.length_append, bv_len, h]
 rfl
theorem Cm.at_ {c : Cm} (h : c.tok.length = 32) (j : Nat) : c.cs[35 + j]? = [c.pv, c.lv, .int .i64 c.z][j]? := by
 unfold Cm.cs
 rw [List.getElem?_append_right (by show 3 ≤ _; omega), List.getElem?_append_right (by rw [bv_len, h]; show 32 ≤ 35 + j - 3; omega), bv_len, h]
 congr 1
 show 35 + j - 3 - 32 = j
 omega
theorem Cm.tok_ {c : Cm} (h : c.tok.length = 32) : ∀ j v, (bv c.tok).toArray[j]? = some v → c.cs.toArray[3 + j]? = some v := fun j v hj => by
 have hj2 : (bv c.tok)[j]? = some v := by simpa using hj
 have hj32 : j < 32 := by have h9 := (List.getElem?_eq_some_iff.1 hj2).1; rw [bv_len, h] at h9; exact h9
 rw [List.getElem?_toArray]
 unfold Cm.cs
 rw [List.getElem?_append_right (by show 3 ≤ _; omega)]
 show (bv c.tok ++ [c.pv, c.lv, Value.int .i64 c.z])[3 + j - 3]? = _
 rw [show 3 + j - 3 = j by omega, List.getElem?_append_left (by rw [bv_len, h]; exact hj32)]
 exact hj2
theorem Txv.len {t : Txv} (h : t.c.tok.length = 32) : t.cs.length = 43 := by
 unfold Txv.cs
 rw [List.length_append, Cm.len h]
 rfl
theorem Txv.c_ (t : Txv) : ∀ j v, t.c.cs.toArray[j]? = some v → t.cs.toArray[5 + j]? = some v := fun j v hj => by
 have hj2 : t.c.cs[j]? = some v := by simpa using hj
 rw [List.getElem?_toArray]
 unfold Txv.cs
 rw [List.getElem?_append_right (by show 5 ≤ _; omega)]
 show t.c.cs[5 + j - 5]? = _
 rw [show 5 + j - 5 = j by omega]
 exact hj2
theorem bv_all (l : List Int) : (bv l).all (·.oneCell') = true := by
 rw [List.all_eq_true]
 intro x hx
 obtain ⟨y, -, rfl⟩ := List.mem_map.1 hx
 rfl
theorem lfc_one (x : Lf) : (lfc x).toArray.all (·.oneCell') = true := by kernel_rfl
theorem Cm.one (c : Cm) : c.cs.toArray.all (·.oneCell') = true := by
 rw [List.all_toArray]
 unfold Cm.cs
 rw [List.all_append, List.all_append, bv_all]
 rfl
theorem Txv.one (t : Txv) : t.cs.toArray.all (·.oneCell') = true := by
 rw [List.all_toArray]
 unfold Txv.cs
 rw [List.all_append]
 have h := t.c.one
 rw [List.all_toArray] at h
 rw [h]
 rfl
abbrev LfK := Int × Int × Nat × List (List Int)
instance dK1 : DecidableEq LfK := inferInstance
instance dK2 : DecidableEq (List LfK) := inferInstance
instance dK3 : DecidableEq (List (List Int)) := inferInstance
instance dK4 : DecidableEq (List (List Int) × List LfK) := inferInstance
instance dK5 : DecidableEq (Int × List (List Int) × List LfK) := inferInstance
instance dK6 : DecidableEq (List Int × Int × List (List Int) × List LfK) := inferInstance
instance dK7 : DecidableEq (Int × List Int × Int × List (List Int) × List LfK) := inferInstance
instance dK8 : DecidableEq (Int × Int × List Int × Int × List (List Int) × List LfK) := inferInstance
abbrev CmK := Int × Int × Int × List Int × Int × List (List Int) × List LfK
instance dK9 : DecidableEq CmK := inferInstance
instance dKa : DecidableEq (List (List Int) × CmK) := inferInstance
instance dKb : DecidableEq (List Nat × List (List Int) × CmK) := inferInstance
instance dKc : DecidableEq (List Int × List Nat × List (List Int) × CmK) := inferInstance
abbrev TxK := Int × Int × List Int × List Nat × List (List Int) × CmK
instance dKd : DecidableEq (Int × List Int × List Nat × List (List Int) × CmK) := inferInstance
instance dKe : DecidableEq TxK := inferInstance
def Lf.key (x : Lf) : LfK := (x.i, x.t, x.a, x.p)
def Cm.key (c : Cm) : CmK := (c.r, c.x, c.e, c.tok, c.z, c.p, c.l.map Lf.key)
def Txv.key (t : Txv) : TxK := (t.k, t.f, t.n, t.a, t.h, t.c.key)
theorem aggT198 : AggT Try.prog 198 7 := ⟨⟨_, Try.underlying198, rfl⟩, by kernel_rfl⟩
theorem aggT114 : AggT Try.prog 114 38 := ⟨⟨_, Try.underlying114, rfl⟩, by kernel_rfl⟩
theorem aggT116 : AggT Try.prog 116 43 := ⟨⟨_, Try.underlying116, rfl⟩, by kernel_rfl⟩
end Go.Proofs.Ytpdenhmkpiafiaa
namespace Go.Proofs.Ytpdenhmkpiafiaa
open Go Go.RowKit K6
theorem Rs.keep {α : Type} {f : α → List Value} {z : Nat} {X : Nat → Prop} {w w' : World} {u : Value} {l : List α} (h : Rs f z w u l) (hT : Tr X w w') (hx : ∀ b, u.ownBlock = some b → ¬ X b) : Rs f z w' u l := by
 obtain ⟨q, c, rfl, h⟩ := h
 refine ⟨q, c, rfl, fun h0 => ?_⟩
 obtain ⟨g, o, rfl, hg, hc⟩ := h h0
 exact ⟨g, o, rfl, Nat.lt_of_lt_of_le hg hT.size, fun i x hx' j v hj => (World.cell?_of_block (hT.block g hg (hx g rfl))).trans (hc i x hx' j v hj)⟩
theorem flat_get {α : Type} (f : α → List Value) {z : Nat} : ∀ (l : List α), (∀ x ∈ l, (f x).length = z) → ∀ (i j : Nat) (x : α), l[i]? = some x → j < z → (l.flatMap f)[i * z + j]? = (f x)[j]?
 | [], _, i, j, x, h, _ => by simp at h
 | y :: l, hl, i, j, x, h, hj => by
  rw [List.flatMap_cons]
  have hy := hl y (List.mem_cons_self ..)
  match i with
  | 0 =>
   have h' : some y = some x := h
   injection h' with h'
   subst h'
   rw [List.getElem?_append_left (by omega), Nat.zero_mul, Nat.zero_add]
  | i + 1 =>
   rw [List.getElem?_append_right (by rw [Nat.succ_mul]; omega), show (i + 1) * z + j - (f y).length = i * z + j from by rw [Nat.succ_mul]; omega]
   exact flat_get f l (fun x hx => hl x (List.mem_cons_of_mem _ hx)) i j x h hj
theorem own_rs {α : Type} {f : α → List Value} {te z base : Nat} {w : World} {v : Value} {l : List α} (h : w.ownsRow base te z v l.length (l.flatMap f)) (hz : ∀ x ∈ l, (f x).length = z) : Rs f z w v l := by
 rcases id h.2 with ⟨rfl, h0⟩ | ⟨g, cap, cur, rfl, h1, hg, rest⟩
 ·refine ⟨none, 0, by rw [h0], fun h => ?_⟩
  rw [h0] at h
  exact absurd h (Nat.lt_irrefl 0)
 ·refine ⟨some ⟨g, 0, none⟩, cap, rfl, fun _ => ⟨g, 0, rfl, (Array.getElem?_eq_some_iff.1 hg).1, fun i x hx j u hj => ?_⟩⟩
  have hxz := hz x (List.mem_of_getElem? hx)
  have hjz : j < z := by have := (List.getElem?_eq_some_iff.1 hj).1; omega
  have h2 := World.ownsRow.cells h (g := g) rfl (i * z + j) u ((flat_get f l hz i j x hx hjz).trans hj)
  rw [add_off, ← Nat.add_assoc] at h2
  exact h2
def Oi (w : World) (base : Nat) (v : Value) (l : List Int) : Prop := w.ownsRow base 3 1 v l.length (l.flatMap icl)
def Oh (w : World) (base : Nat) (v : Value) (l : List (List Int)) : Prop := w.ownsRow base 35 32 v l.length (l.flatMap bv)
theorem Oi.is {w : World} {base : Nat} {v : Value} {l : List Int} (h : Oi w base v l) : Is w v l := own_rs h fun _ _ => rfl
theorem Oh.hs {w : World} {base : Nat} {v : Value} {l : List (List Int)} (h : Oh w base v l) (hl : HsOk l) : Hs w v l := own_rs h fun x hx => by rw [bv_len]; exact (hl x hx).1
theorem Oi.nil (w : World) (b : Nat) : Oi w b (.slice none 0 0) [] := own_nil _ _ _ _
theorem Oh.nil (w : World) (b : Nat) : Oh w b (.slice none 0 0) [] := own_nil _ _ _ _
theorem flat_snoc {α : Type} (f : α → List Value) (l : List α) (x : α) : (l ++ [x]).flatMap f = l.flatMap f ++ f x := by
 rw [List.flatMap_append]
 congr 1
 exact List.append_nil _
def LfIn (w : World) (base : Nat) (v : Value) (x : Lf) : Prop := LfOk w x ∧ ∀ b, x.pv.ownBlock = some b → base ≤ b ∧ b < w.heap.size ∧ v.ownBlock ≠ some b
def Lo (w : World) (base : Nat) (v : Value) (l : List Lf) : Prop := w.ownsRow base 198 7 v l.length (l.flatMap lfc) ∧ ∀ x ∈ l, LfIn w base v x
theorem Lo.nil (w : World) (b : Nat) : Lo w b (.slice none 0 0) [] := ⟨own_nil _ _ _ _, fun _ h => (by cases h)⟩
theorem Lo.base {w : World} {b b' : Nat} {v : Value} {l : List Lf} (h : Lo w b v l) (hb : b' ≤ b) : Lo w b' v l :=
 ⟨own_base h.1 hb, fun x hx => ⟨(h.2 x hx).1, fun c hc => ⟨Nat.le_trans hb ((h.2 x hx).2 c hc).1, ((h.2 x hx).2 c hc).2⟩⟩⟩
theorem LfIn.keep {X : Nat → Prop} {w w' : World} {base : Nat} {v : Value} {x : Lf} (h : LfIn w base v x) (hT : Tr X w w') (hX : ∀ b, base ≤ b → v.ownBlock ≠ some b → ¬ X b) : LfIn w' base v x :=
 ⟨⟨h.1.p.keep hT fun b hb => hX b (h.2 b hb).1 (h.2 b hb).2.2, h.1.h, h.1.a, h.1.i, h.1.t⟩, fun b hb => ⟨(h.2 b hb).1, Nat.lt_of_lt_of_le (h.2 b hb).2.1 hT.size, (h.2 b hb).2.2⟩⟩
theorem Lo.keep {X : Nat → Prop} {w w' : World} {base : Nat} {v : Value} {l : List Lf} (h : Lo w base v l) (hT : Tr X w w') (hX : ∀ b, base ≤ b → ¬ X b) : Lo w' base v l :=
 ⟨own_tr h.1 hT fun b hb => hX b (own_lt h.1 b hb).1, fun x hx => (h.2 x hx).keep hT fun b hb _ => hX b hb⟩
theorem Lo.below {w w' : World} {base : Nat} {v : Value} {l : List Lf} (h : Lo w base v l) (hb : Below w.heap.size w w') : Lo w' base v l := h.keep (X := None_) (Tr.of hb) (fun _ _ => id)
theorem Lo.ls {w : World} {base : Nat} {v : Value} {l : List Lf} (h : Lo w base v l) : Ls w v l := ⟨own_rs h.1 fun _ _ => rfl, fun x hx => (h.2 x hx).1⟩
theorem Lo.push {w w' : World} {base lo hi : Nat} {v v' : Value} {l : List Lf} {x : Lf} (h : Lo w base v l) (hT : Tr (fun c => v.ownBlock = some c) w w') (ho : w'.ownsRow base 198 7 v' (l.length + 1) (l.flatMap lfc ++ lfc x))
  (hG : Grew v ⟨v', lo, hi⟩) (hlo : w.heap.size ≤ lo) (he : LfIn w base v x) : Lo w' base v' (l ++ [x]) := by
 refine ⟨by rw [List.length_append, flat_snoc]; exact ho, fun y hy => ?_⟩
 have hy' : LfIn w base v y := by
  rcases List.mem_append.1 hy with hy | hy
  ·exact h.2 y hy
  ·rw [List.mem_singleton.1 hy]; exact he
 have h2 := hy'.keep hT fun b _ hv hb => hv hb
 refine ⟨h2.1, fun b hb => ⟨(h2.2 b hb).1, (h2.2 b hb).2.1, fun hv => ?_⟩⟩
 have h3 := hy'.2 b hb
 rcases hG with hG | ⟨hG, -⟩
 ·exact h3.2.2 (hG.symm.trans hv)
 ·have h4 : some lo = some b := hG.symm.trans hv
  injection h4 with h4
  omega
set_option maxRecDepth 100000 in
theorem appT22 : AppT 22 3 1 := ⟨rfl, ⟨_, _, rfl, rfl, rfl, by decide, rfl⟩, by decide⟩
set_option maxRecDepth 100000 in
theorem appT111 : AppT 111 35 32 := ⟨rfl, ⟨_, _, rfl, rfl, rfl, by decide, rfl⟩, by decide⟩
set_option maxRecDepth 100000 in
theorem appT112 : AppT 112 198 7 := ⟨rfl, ⟨_, _, rfl, rfl, rfl, by decide, rfl⟩, by decide⟩
end Go.Proofs.Ytpdenhmkpiafiaa
namespace Go.Proofs.Ytpdenhmkpiafiaa
open Go Go.RowKit K6
structure Fmt {α : Type} (rd : St → α × St) (en : α → List Int) (ok : α → Prop) : Prop where
 put : ∀ x r, ok x → rd (0, en x ++ r) = (x, 0, r)
 cut : ∀ x j, ok x → j < (en x).length → (rd (0, (en x).take j)).2 = Short
 stay : ∀ e, e ≠ 0 → (rd (e, [])).2 = (e, [])
 cl : ∀ s : St, (s.1 ≠ 0 → s.2 = []) → ((rd s).2.1 ≠ 0 → (rd s).2.2 = [])
 by_ : ∀ s : St, By s.2 → By (rd s).2.2
 back : ∀ xs x r, By xs → rd (0, xs) = (x, 0, r) → xs = en x ++ r ∧ ok x
def gN (most : Int) (s : St) : Int × St := (((gV most s).1 : Int), (gV most s).2)
theorem gH_by {s : St} (h : By s.2) : By (gH s).2.2 := by
 unfold gH gT tkR
 simp only
 split
 ·split
  ·exact h.drop _
  ·exact By.nil
 ·exact By.nil
def rSeq {α β : Type} (r1 : St → α × St) (r2 : α → St → β × St) (s : St) : (α × β) × St := (((r1 s).1, (r2 (r1 s).1 (r1 s).2).1), (r2 (r1 s).1 (r1 s).2).2)
theorem Fmt.seq {α β : Type} {r1 : St → α × St} {en1 : α → List Int} {ok1 : α → Prop} {r2 : α → St → β × St} {en2 : α → β → List Int} {ok2 : α → β → Prop} (h1 : Fmt r1 en1 ok1) (h2 : ∀ x, Fmt (r2 x) (en2 x) (ok2 x)) :
  Fmt (rSeq r1 r2) (fun p => en1 p.1 ++ en2 p.1 p.2) (fun p => ok1 p.1 ∧ ok2 p.1 p.2) where
 put p r h := by
  unfold rSeq
  rw [List.append_assoc, h1.put _ _ h.1]
  simp only
  rw [(h2 _).put _ _ h.2]
 cut p j h hj := by
  unfold rSeq
  rcases take_app_cases (en1 p.1) (en2 p.1 p.2) j with ⟨h3, h4⟩ | ⟨h3, h4⟩
  ·rw [h4]
   simp only
   rw [h1.cut _ _ h.1 h3]
   exact (h2 _).stay 3 (by decide)
  ·rw [h4, h1.put _ _ h.1]
   simp only
   rw [List.length_append] at hj
   exact (h2 _).cut _ _ h.2 (by omega)
 stay e he := by
  unfold rSeq
  simp only
  rw [h1.stay e he]
  exact (h2 _).stay e he
 cl s h := by
  unfold rSeq
  exact (h2 _).cl _ (h1.cl s h)
 by_ s h := by
  unfold rSeq
  exact (h2 _).by_ _ (h1.by_ s h)
 back xs p r hb h := by
  unfold rSeq at h
  obtain ⟨a, e, ys, hg⟩ : ∃ a e ys, r1 (0, xs) = (a, e, ys) := ⟨_, _, _, rfl⟩
  have hc := h1.cl (0, xs) (fun h => absurd rfl h)
  have hb1 := h1.by_ (0, xs) hb
  rw [hg] at h hc hb1
  simp only [Prod.mk.injEq] at h hc hb1
  by_cases he : e = 0
  ·subst he
   obtain ⟨h3, h4⟩ := h1.back xs a ys hb hg
   obtain ⟨b, e2, zs, hg2⟩ : ∃ b e2 zs, r2 a (0, ys) = (b, e2, zs) := ⟨_, _, _, rfl⟩
   rw [hg2] at h
   obtain ⟨rfl, h5⟩ := h
   simp only [Prod.mk.injEq] at h5
   obtain ⟨rfl, rfl⟩ := h5
   obtain ⟨h6, h7⟩ := (h2 a).back ys b zs hb1 hg2
   exact ⟨by rw [h3, h6, List.append_assoc], h4, h7⟩
  ·rw [hc he] at h
   have h3 := (h2 a).stay e he
   rw [h.2] at h3
   simp only [Prod.mk.injEq] at h3
   exact absurd h3.1.symm he
def gMany {α : Type} (one : St → α × St) : Nat → St → List α × St
 | 0, s => ([], s)
 | n + 1, s => if s.1 = 0 then ((one s).1 :: (gMany one n (one s).2).1, (gMany one n (one s).2).2) else ([], s)
theorem gMany_stop {α : Type} (one : St → α × St) (n : Nat) {s : St} (h : s.1 ≠ 0) : gMany one n s = ([], s) := by
 cases n with
 | zero => rfl
 | succ n => show (if _ then _ else _) = _; rw [if_neg h]
theorem gMany_go {α : Type} (one : St → α × St) (n : Nat) {s : St} (h : s.1 = 0) : gMany one (n + 1) s = ((one s).1 :: (gMany one n (one s).2).1, (gMany one n (one s).2).2) := by
 show (if _ then _ else _) = _
 rw [if_pos h]
theorem gMany_len {α : Type} (one : St → α × St) (n : Nat) : ∀ s : St, (gMany one n s).1.length ≤ n := by
 induction n with
 | zero => intro s; exact Nat.le_refl 0
 | succ n ih =>
  intro s
  by_cases h : s.1 = 0
  ·rw [gMany_go one n h]; exact Nat.succ_le_succ (ih _)
  ·rw [gMany_stop one _ h]; exact Nat.zero_le _
theorem Fmt.ext {α : Type} {rd rd' : St → α × St} {en en' : α → List Int} {ok ok' : α → Prop} (h : Fmt rd en ok) (h1 : rd = rd') (h2 : en = en') (h3 : ok = ok') : Fmt rd' en' ok' := by
 subst h1; subst h2; subst h3; exact h
def MI {α : Type} (one : St → α × St) (gg : Nat) (e : Int) (ys : List Int) (K LK : List α) (e3 : Int) (x3 : List Int) : Prop := ∃ L', gMany one gg (e, ys) = (L', e3, x3) ∧ K ++ L' = LK
theorem MI.start {α : Type} {one : St → α × St} {n : Nat} {e e3 : Int} {ys x3 : List Int} {L : List α} (h : gMany one n (e, ys) = (L, e3, x3)) : MI one n e ys [] L e3 x3 := ⟨L, h, rfl⟩
theorem MI.stop {α : Type} {one : St → α × St} {gg : Nat} {e e3 : Int} {ys x3 : List Int} {K LK : List α} (h : MI one gg e ys K LK e3 x3) (h0 : e ≠ 0 ∨ gg = 0) : K = LK ∧ e = e3 ∧ ys = x3 := by
 obtain ⟨L', h1, h2⟩ := h
 have h3 : gMany one gg (e, ys) = ([], e, ys) := by
  rcases h0 with h0 | rfl
  ·exact gMany_stop one gg h0
  ·rfl
 rw [h3] at h1
 simp only [Prod.mk.injEq] at h1
 obtain ⟨rfl, rfl, rfl⟩ := h1
 exact ⟨by rw [← h2, List.append_nil], rfl, rfl⟩
theorem MI.step {α : Type} {one : St → α × St} {gg : Nat} {e3 e4 : Int} {ys x3 y4 : List Int} {K LK : List α} {a : α} (h : MI one (gg + 1) 0 ys K LK e3 x3) (hg : one (0, ys) = (a, e4, y4)) : MI one gg e4 y4 (K ++ [a]) LK e3 x3 := by
 obtain ⟨L', h1, h2⟩ := h
 rw [gMany_go one gg rfl, hg] at h1
 simp only [Prod.mk.injEq] at h1
 exact ⟨_, Prod.ext rfl h1.2, by rw [← h2, ← h1.1, List.append_assoc]; rfl⟩
end Go.Proofs.Ytpdenhmkpiafiaa
namespace Go.Proofs.Ytpdenhmkpiafiaa
open Go Go.RowKit K6
theorem lA0 (x : Lf) : (lfc x).toArray[0]? = some (.int .i64 x.i) := rfl
theorem lA1 (x : Lf) : (lfc x).toArray[1]? = some (.int .i64 x.t) := rfl
theorem lA6 (x : Lf) : (lfc x).toArray[6]? = some (.slice x.pq x.p.length x.pc) := rfl
theorem cA0 (c : Cm) : c.cs.toArray[0]? = some (.int .i64 c.r) := rfl
theorem cA1 (c : Cm) : c.cs.toArray[1]? = some (.int .i64 c.x) := rfl
theorem cA2 (c : Cm) : c.cs.toArray[2]? = some (.int .i64 c.e) := rfl
theorem cA35 {c : Cm} (h : c.tok.length = 32) : c.cs.toArray[35]? = some (.slice c.pq c.p.length c.pc) := by rw [List.getElem?_toArray]; exact Cm.at_ h 0
theorem cA36 {c : Cm} (h : c.tok.length = 32) : c.cs.toArray[36]? = some (.slice c.lq c.l.length c.lc) := by rw [List.getElem?_toArray]; exact Cm.at_ h 1
theorem cA37 {c : Cm} (h : c.tok.length = 32) : c.cs.toArray[37]? = some (.int .i64 c.z) := by rw [List.getElem?_toArray]; exact Cm.at_ h 2
set_option maxRecDepth 100000 in
set_option maxHeartbeats 16000000 in
theorem sameLeaf_at (x y : Lf) (w : World) (hx : LfOk w x) (hy : LfOk w y) (hL : x.p.length ≤ 140737488355328) :
  Calls Try.prog 241 #[.agg (lfc x).toArray, .agg (lfc y).toArray] w fun r w' => r = .returned (.bool (decide (x.key = y.key))) ∧ Below w.heap.size w w' := by
 obtain ⟨b, hb⟩ : ∃ b, decide (x.key = y.key) = b := ⟨_, rfl⟩
 rw [hb]
 have kH := Lib.hid fun wx (hbw : Below w.heap.size w wx) => hsEq_at x.pv y.pv x.p y.p wx (hx.p.below hbw) (hy.p.below hbw) (fun z hz => (hx.h z hz).1) (fun z hz => (hy.h z hz).1) hL
 have hxa := hx.a
 have hya := hy.a
 have q1 : ∀ wx, (Op.equalIn 10000 31 (.agg (W4 x.a)) (.agg (W4 y.a))).run Try.prog wx = .ok (decide (x.a = y.a)) wx := fun wx => eqU hxa hya wx
 clear hx hy hL hxa hya
 go_enter Try.func241, Try.ntmps241
 go_upto_region 1 with (fail)
 refine wp_abs (Mem w [(w.heap.size, 198, (lfc x).toArray), (w.heap.size + 1, 198, (lfc y).toArray)]) ⟨by go_grown, by (repeat (first | (refine Row.new_at ?_; simp; done) | refine Row.alloc ?_ _)), by (repeat (first | (refine Row.new_at ?_; simp; done) | refine Row.alloc ?_ _)), trivial⟩ ?_
 intro w0 hM
 obtain ⟨hl, r2, r3, -⟩ := hM
 by_cases e1 : x.i = y.i
 ·have h1 : (x.i == y.i) = true := by rw [beq_iff_eq]; exact e1
  by_cases e2 : x.t = y.t
  ·have h2 : (x.t == y.t) = true := by rw [beq_iff_eq]; exact e2
   by_cases e3 : x.a = y.a
   ·have hbb : decide (x.p = y.p) = b := by
     rw [← hb]
     unfold Lf.key
     simp [e1, e2, e3]
    have q2 : ∀ wx, (Op.equalIn 10000 31 (.agg (W4 x.a)) (.agg (W4 y.a))).run Try.prog wx = .ok true wx := fun wx => by rw [q1, decide_eq_true e3]
    clear q1
    rw [hbb] at kH
    have HB := Lib.hid (show _ ∧ _ from ⟨e1, e3⟩)
    clear hb hbb e1 e2 e3
    simp only [Lf.pv] at kH
    let L : List Sp := [sV 24 [] [] (fun u => u = .bool b)]
    refine wp_region_six0 (shs L) (look6 L) (None_) (by kernel_rfl) (by kernel_rfl) (mk_St L [] [] (by kernel_rfl) (by kernel_rfl) ⟨ok_V ⟨_, rfl⟩, trivial⟩ (by simp)) ?_
    intro QQ hQ
    refine stepK rfl (by kernel_rfl) (fun K hK => ?_); go_simp
    apply Exists.intro; apply And.intro; (focus (intro wk hk; go_simp; exact ⟨rfl, rfl⟩)); refine hK _ _ ?_; clear hK K
    refine stepK rfl (by kernel_rfl) (fun K hK => ?_); go_simp
    apply Exists.intro; apply And.intro; (focus (intro wk hk; have cc : wk.cell? ⟨w.heap.size, 0, none⟩ = some (.int .i64 x.i) := ((K6.Row.tr r2 hk id).cell 0).trans (lA0 x); go_simp; exact ⟨rfl, rfl⟩)); refine hK _ _ ?_; clear hK K
    refine stepK rfl (by kernel_rfl) (fun K hK => ?_); go_simp
    apply Exists.intro; apply And.intro; (focus (intro wk hk; go_simp; exact ⟨rfl, rfl⟩)); refine hK _ _ ?_; clear hK K
    refine stepK rfl (by kernel_rfl) (fun K hK => ?_); go_simp
    apply Exists.intro; apply And.intro; (focus (intro wk hk; have cc : wk.cell? ⟨w.heap.size + 1, 0, none⟩ = some (.int .i64 y.i) := ((K6.Row.tr r3 hk id).cell 0).trans (lA0 y); go_simp; exact ⟨rfl, rfl⟩)); refine hK _ _ ?_; clear hK K
    iterate 2 (refine stepK rfl (by kernel_rfl) (fun K hK => ?_); go_simp; apply Exists.intro; apply And.intro; (focus (intro wk hk; go_simp; exact ⟨rfl, rfl⟩)); refine hK _ _ ?_; clear hK K)
    refine stepK rfl (by kernel_rfl) (fun K hK => ?_); go_simp
    first | (refine hK _ _ ?_; clear hK K) | (apply Exists.intro; apply And.intro; (focus (intro wk hk; go_simp; exact ⟨rfl, rfl⟩)); refine hK _ _ ?_; clear hK K)
    refine stepK rfl (by kernel_rfl) (fun K hK => ?_); go_simp
    first | (refine hK _ _ ?_; clear hK K) | (apply Exists.intro; apply And.intro; (focus (intro wk hk; have cc : wk.cell? ⟨w.heap.size, 1, none⟩ = some (.int .i64 x.t) := ((K6.Row.tr r2 hk id).cell 1).trans (lA1 x); go_simp; exact ⟨rfl, rfl⟩)); refine hK _ _ ?_; clear hK K)
    refine stepK rfl (by kernel_rfl) (fun K hK => ?_); go_simp
    first | (refine hK _ _ ?_; clear hK K) | (apply Exists.intro; apply And.intro; (focus (intro wk hk; go_simp; exact ⟨rfl, rfl⟩)); refine hK _ _ ?_; clear hK K)
    refine stepK rfl (by kernel_rfl) (fun K hK => ?_); go_simp
    first | (refine hK _ _ ?_; clear hK K) | (apply Exists.intro; apply And.intro; (focus (intro wk hk; have cc : wk.cell? ⟨w.heap.size + 1, 1, none⟩ = some (.int .i64 y.t) := ((K6.Row.tr r3 hk id).cell 1).trans (lA1 y); go_simp; exact ⟨rfl, rfl⟩)); refine hK _ _ ?_; clear hK K)
    refine stepK rfl (by kernel_rfl) (fun K hK => ?_); go_simp
    first | (refine hK _ _ ?_; clear hK K) | (apply Exists.intro; apply And.intro; (focus (intro wk hk; go_simp; exact ⟨rfl, rfl⟩)); refine hK _ _ ?_; clear hK K)
    iterate 2 (refine stepK rfl (by kernel_rfl) (fun K hK => ?_); go_simp; apply Exists.intro; apply And.intro; (focus (intro wk hk; go_simp; exact ⟨rfl, rfl⟩)); refine hK _ _ ?_; clear hK K)
    refine stepK rfl (by kernel_rfl) (fun K hK => ?_); go_simp
    first | (refine hK _ _ ?_; clear hK K) | (apply Exists.intro; apply And.intro; (focus (intro wk hk; go_simp; exact ⟨rfl, rfl⟩)); refine hK _ _ ?_; clear hK K)
    refine stepK rfl (by kernel_rfl) (fun K hK => ?_); go_simp
    first | (refine hK _ _ ?_; clear hK K) | (apply Exists.intro; apply And.intro; (focus exact kLoadMid rfl rfl aggT31 r2 (lfc_a x) (W4_size x.a) id); refine hK _ _ ?_; clear hK K)
    refine stepK rfl (by kernel_rfl) (fun K hK => ?_); go_simp
    first | (refine hK _ _ ?_; clear hK K) | (apply Exists.intro; apply And.intro; (focus (intro wk hk; go_simp; exact ⟨rfl, rfl⟩)); refine hK _ _ ?_; clear hK K)
    refine stepK rfl (by kernel_rfl) (fun K hK => ?_); go_simp
    first | (refine hK _ _ ?_; clear hK K) | (apply Exists.intro; apply And.intro; (focus exact kLoadMid rfl rfl aggT31 r3 (lfc_a y) (W4_size y.a) id); refine hK _ _ ?_; clear hK K)
    refine stepK rfl (by kernel_rfl) (fun K hK => ?_); go_simp
    first | (refine hK _ _ ?_; clear hK K) | (apply Exists.intro; apply And.intro; (focus (intro wk hk; go_simp; exact ⟨rfl, rfl⟩)); refine hK _ _ ?_; clear hK K)
    iterate 2 (refine stepK rfl (by kernel_rfl) (fun K hK => ?_); go_simp; apply Exists.intro; apply And.intro; (focus (intro wk hk; go_simp; exact ⟨rfl, rfl⟩)); refine hK _ _ ?_; clear hK K)
    refine stepK rfl (by kernel_rfl) (fun K hK => ?_); go_simp
    first | (refine hK _ _ ?_; clear hK K) | (apply Exists.intro; apply And.intro; (focus (intro wk hk; go_simp; exact ⟨rfl, rfl⟩)); refine hK _ _ ?_; clear hK K)
    refine stepK rfl (by kernel_rfl) (fun K hK => ?_); go_simp
    first | (refine hK _ _ ?_; clear hK K) | (apply Exists.intro; apply And.intro; (focus (intro wk hk; have cc : wk.cell? ⟨w.heap.size, 6, none⟩ = some (.slice x.pq x.p.length x.pc) := ((K6.Row.tr r2 hk id).cell 6).trans (lA6 x); go_simp; exact ⟨rfl, rfl⟩)); refine hK _ _ ?_; clear hK K)
    refine stepK rfl (by kernel_rfl) (fun K hK => ?_); go_simp
    first | (refine hK _ _ ?_; clear hK K) | (apply Exists.intro; apply And.intro; (focus (intro wk hk; go_simp; exact ⟨rfl, rfl⟩)); refine hK _ _ ?_; clear hK K)
    refine stepK rfl (by kernel_rfl) (fun K hK => ?_); go_simp
    first | (refine hK _ _ ?_; clear hK K) | (apply Exists.intro; apply And.intro; (focus (intro wk hk; have cc : wk.cell? ⟨w.heap.size + 1, 6, none⟩ = some (.slice y.pq y.p.length y.pc) := ((K6.Row.tr r3 hk id).cell 6).trans (lA6 y); go_simp; exact ⟨rfl, rfl⟩)); refine hK _ _ ?_; clear hK K)
    refine stepS _ rfl (by kernel_rfl) (fun K hK => ?_); go_simp
    refine ⟨?_, ?_⟩
    ·intro wk hk hg hu; go_simp; refine upon_enter ((kH.out _ (hl.trans (hk.below.mono hl.size))).mono ?_); rintro e w' ⟨rfl, hb⟩; exact ⟨_, rfl, left_V (p := fun u => u = .bool b) rfl (hb) rfl⟩
    rintro ⟨v24, lo24, hi24⟩ - - (rfl : v24 = _)
    refine hK _ _ ?_; clear hK K
    iterate 2 (refine stepK rfl (by kernel_rfl) (fun K hK => ?_); go_simp; apply Exists.intro; apply And.intro; (focus (intro wk hk; go_simp; exact ⟨rfl, rfl⟩)); refine hK _ _ ?_; clear hK K)
    refine stepN ?_
    refine hQ _ _ ?_
    intro w9 hT hG hF
    have H9 := Lib.hid (hl.trans (hT.below.mono hl.size))
    clear hT hG hF hQ QQ L hl r2 r3
    go_wp2_with fail
    go_ret
    exact ⟨rfl, H9.out⟩
   ·have hbb : b = false := by rw [← hb]; exact decide_eq_false (fun h => e3 (by unfold Lf.key at h; simp only [Prod.mk.injEq] at h; exact h.2.2.1))
    subst hbb
    have q2 : ∀ wx, (Op.equalIn 10000 31 (.agg (W4 x.a)) (.agg (W4 y.a))).run Try.prog wx = .ok false wx := fun wx => by rw [q1, decide_eq_false e3]
    clear q1 hb e1 e2 e3 kH
    let L : List Sp := []
    refine wp_region_six0 (shs L) (look6 L) (None_) (by kernel_rfl) (by kernel_rfl) (mk_St L [] [] (by kernel_rfl) (by kernel_rfl) trivial (by simp)) ?_
    intro QQ hQ
    refine stepK rfl (by kernel_rfl) (fun K hK => ?_); go_simp
    apply Exists.intro; apply And.intro; (focus (intro wk hk; go_simp; exact ⟨rfl, rfl⟩)); refine hK _ _ ?_; clear hK K
    refine stepK rfl (by kernel_rfl) (fun K hK => ?_); go_simp
    apply Exists.intro; apply And.intro; (focus (intro wk hk; have cc : wk.cell? ⟨w.heap.size, 0, none⟩ = some (.int .i64 x.i) := ((K6.Row.tr r2 hk id).cell 0).trans (lA0 x); go_simp; exact ⟨rfl, rfl⟩)); refine hK _ _ ?_; clear hK K
    refine stepK rfl (by kernel_rfl) (fun K hK => ?_); go_simp
    apply Exists.intro; apply And.intro; (focus (intro wk hk; go_simp; exact ⟨rfl, rfl⟩)); refine hK _ _ ?_; clear hK K
    refine stepK rfl (by kernel_rfl) (fun K hK => ?_); go_simp
    apply Exists.intro; apply And.intro; (focus (intro wk hk; have cc : wk.cell? ⟨w.heap.size + 1, 0, none⟩ = some (.int .i64 y.i) := ((K6.Row.tr r3 hk id).cell 0).trans (lA0 y); go_simp; exact ⟨rfl, rfl⟩)); refine hK _ _ ?_; clear hK K
    iterate 2 (refine stepK rfl (by kernel_rfl) (fun K hK => ?_); go_simp; apply Exists.intro; apply And.intro; (focus (intro wk hk; go_simp; exact ⟨rfl, rfl⟩)); refine hK _ _ ?_; clear hK K)
    refine stepK rfl (by kernel_rfl) (fun K hK => ?_); go_simp
    first | (refine hK _ _ ?_; clear hK K) | (apply Exists.intro; apply And.intro; (focus (intro wk hk; go_simp; exact ⟨rfl, rfl⟩)); refine hK _ _ ?_; clear hK K)
    refine stepK rfl (by kernel_rfl) (fun K hK => ?_); go_simp
    first | (refine hK _ _ ?_; clear hK K) | (apply Exists.intro; apply And.intro; (focus (intro wk hk; have cc : wk.cell? ⟨w.heap.size, 1, none⟩ = some (.int .i64 x.t) := ((K6.Row.tr r2 hk id).cell 1).trans (lA1 x); go_simp; exact ⟨rfl, rfl⟩)); refine hK _ _ ?_; clear hK K)
    refine stepK rfl (by kernel_rfl) (fun K hK => ?_); go_simp
    first | (refine hK _ _ ?_; clear hK K) | (apply Exists.intro; apply And.intro; (focus (intro wk hk; go_simp; exact ⟨rfl, rfl⟩)); refine hK _ _ ?_; clear hK K)
    refine stepK rfl (by kernel_rfl) (fun K hK => ?_); go_simp
    first | (refine hK _ _ ?_; clear hK K) | (apply Exists.intro; apply And.intro; (focus (intro wk hk; have cc : wk.cell? ⟨w.heap.size + 1, 1, none⟩ = some (.int .i64 y.t) := ((K6.Row.tr r3 hk id).cell 1).trans (lA1 y); go_simp; exact ⟨rfl, rfl⟩)); refine hK _ _ ?_; clear hK K)
    refine stepK rfl (by kernel_rfl) (fun K hK => ?_); go_simp
    first | (refine hK _ _ ?_; clear hK K) | (apply Exists.intro; apply And.intro; (focus (intro wk hk; go_simp; exact ⟨rfl, rfl⟩)); refine hK _ _ ?_; clear hK K)
    iterate 2 (refine stepK rfl (by kernel_rfl) (fun K hK => ?_); go_simp; apply Exists.intro; apply And.intro; (focus (intro wk hk; go_simp; exact ⟨rfl, rfl⟩)); refine hK _ _ ?_; clear hK K)
    refine stepK rfl (by kernel_rfl) (fun K hK => ?_); go_simp
    first | (refine hK _ _ ?_; clear hK K) | (apply Exists.intro; apply And.intro; (focus (intro wk hk; go_simp; exact ⟨rfl, rfl⟩)); refine hK _ _ ?_; clear hK K)
    refine stepK rfl (by kernel_rfl) (fun K hK => ?_); go_simp
    first | (refine hK _ _ ?_; clear hK K) | (apply Exists.intro; apply And.intro; (focus exact kLoadMid rfl rfl aggT31 r2 (lfc_a x) (W4_size x.a) id); refine hK _ _ ?_; clear hK K)
    refine stepK rfl (by kernel_rfl) (fun K hK => ?_); go_simp
    first | (refine hK _ _ ?_; clear hK K) | (apply Exists.intro; apply And.intro; (focus (intro wk hk; go_simp; exact ⟨rfl, rfl⟩)); refine hK _ _ ?_; clear hK K)
    refine stepK rfl (by kernel_rfl) (fun K hK => ?_); go_simp
    first | (refine hK _ _ ?_; clear hK K) | (apply Exists.intro; apply And.intro; (focus exact kLoadMid rfl rfl aggT31 r3 (lfc_a y) (W4_size y.a) id); refine hK _ _ ?_; clear hK K)
    refine stepK rfl (by kernel_rfl) (fun K hK => ?_); go_simp
    first | (refine hK _ _ ?_; clear hK K) | (apply Exists.intro; apply And.intro; (focus (intro wk hk; go_simp; exact ⟨rfl, rfl⟩)); refine hK _ _ ?_; clear hK K)
    iterate 2 (refine stepK rfl (by kernel_rfl) (fun K hK => ?_); go_simp; apply Exists.intro; apply And.intro; (focus (intro wk hk; go_simp; exact ⟨rfl, rfl⟩)); refine hK _ _ ?_; clear hK K)
    iterate 5 (refine stepK rfl (by kernel_rfl) (fun K hK => ?_); go_simp; (first | (refine hK _ _ ?_; clear hK K) | (apply Exists.intro; apply And.intro; (focus (intro wk hk; go_simp; exact ⟨rfl, rfl⟩)); refine hK _ _ ?_; clear hK K)))
    iterate 2 (refine stepK rfl (by kernel_rfl) (fun K hK => ?_); go_simp; apply Exists.intro; apply And.intro; (focus (intro wk hk; go_simp; exact ⟨rfl, rfl⟩)); refine hK _ _ ?_; clear hK K)
    refine stepN ?_
    refine hQ _ _ ?_
    intro w9 hT hG hF
    have H9 := Lib.hid (hl.trans (hT.below.mono hl.size))
    clear hT hG hF hQ QQ L hl r2 r3
    go_wp2_with fail
    go_ret
    exact ⟨rfl, H9.out⟩
  ·have h2 : (x.t == y.t) = false := by rw [beq_eq_false_iff_ne]; exact e2
   have hbb : b = false := by rw [← hb]; exact decide_eq_false (fun h => e2 (by unfold Lf.key at h; simp only [Prod.mk.injEq] at h; exact h.2.1))
   subst hbb
   clear q1 hb e1 e2 kH
   let L : List Sp := []
   refine wp_region_six0 (shs L) (look6 L) (None_) (by kernel_rfl) (by kernel_rfl) (mk_St L [] [] (by kernel_rfl) (by kernel_rfl) trivial (by simp)) ?_
   intro QQ hQ
   refine stepK rfl (by kernel_rfl) (fun K hK => ?_); go_simp
   apply Exists.intro; apply And.intro; (focus (intro wk hk; go_simp; exact ⟨rfl, rfl⟩)); refine hK _ _ ?_; clear hK K
   refine stepK rfl (by kernel_rfl) (fun K hK => ?_); go_simp
   apply Exists.intro; apply And.intro; (focus (intro wk hk; have cc : wk.cell? ⟨w.heap.size, 0, none⟩ = some (.int .i64 x.i) := ((K6.Row.tr r2 hk id).cell 0).trans (lA0 x); go_simp; exact ⟨rfl, rfl⟩)); refine hK _ _ ?_; clear hK K
   refine stepK rfl (by kernel_rfl) (fun K hK => ?_); go_simp
   apply Exists.intro; apply And.intro; (focus (intro wk hk; go_simp; exact ⟨rfl, rfl⟩)); refine hK _ _ ?_; clear hK K
   refine stepK rfl (by kernel_rfl) (fun K hK => ?_); go_simp
   apply Exists.intro; apply And.intro; (focus (intro wk hk; have cc : wk.cell? ⟨w.heap.size + 1, 0, none⟩ = some (.int .i64 y.i) := ((K6.Row.tr r3 hk id).cell 0).trans (lA0 y); go_simp; exact ⟨rfl, rfl⟩)); refine hK _ _ ?_; clear hK K
   iterate 2 (refine stepK rfl (by kernel_rfl) (fun K hK => ?_); go_simp; apply Exists.intro; apply And.intro; (focus (intro wk hk; go_simp; exact ⟨rfl, rfl⟩)); refine hK _ _ ?_; clear hK K)
   refine stepK rfl (by kernel_rfl) (fun K hK => ?_); go_simp
   first | (refine hK _ _ ?_; clear hK K) | (apply Exists.intro; apply And.intro; (focus (intro wk hk; go_simp; exact ⟨rfl, rfl⟩)); refine hK _ _ ?_; clear hK K)
   refine stepK rfl (by kernel_rfl) (fun K hK => ?_); go_simp
   first | (refine hK _ _ ?_; clear hK K) | (apply Exists.intro; apply And.intro; (focus (intro wk hk; have cc : wk.cell? ⟨w.heap.size, 1, none⟩ = some (.int .i64 x.t) := ((K6.Row.tr r2 hk id).cell 1).trans (lA1 x); go_simp; exact ⟨rfl, rfl⟩)); refine hK _ _ ?_; clear hK K)
   refine stepK rfl (by kernel_rfl) (fun K hK => ?_); go_simp
   first | (refine hK _ _ ?_; clear hK K) | (apply Exists.intro; apply And.intro; (focus (intro wk hk; go_simp; exact ⟨rfl, rfl⟩)); refine hK _ _ ?_; clear hK K)
   refine stepK rfl (by kernel_rfl) (fun K hK => ?_); go_simp
   first | (refine hK _ _ ?_; clear hK K) | (apply Exists.intro; apply And.intro; (focus (intro wk hk; have cc : wk.cell? ⟨w.heap.size + 1, 1, none⟩ = some (.int .i64 y.t) := ((K6.Row.tr r3 hk id).cell 1).trans (lA1 y); go_simp; exact ⟨rfl, rfl⟩)); refine hK _ _ ?_; clear hK K)
   refine stepK rfl (by kernel_rfl) (fun K hK => ?_); go_simp
   first | (refine hK _ _ ?_; clear hK K) | (apply Exists.intro; apply And.intro; (focus (intro wk hk; go_simp; exact ⟨rfl, rfl⟩)); refine hK _ _ ?_; clear hK K)
   iterate 2 (refine stepK rfl (by kernel_rfl) (fun K hK => ?_); go_simp; apply Exists.intro; apply And.intro; (focus (intro wk hk; go_simp; exact ⟨rfl, rfl⟩)); refine hK _ _ ?_; clear hK K)
   iterate 5 (refine stepK rfl (by kernel_rfl) (fun K hK => ?_); go_simp; (first | (refine hK _ _ ?_; clear hK K) | (apply Exists.intro; apply And.intro; (focus (intro wk hk; go_simp; exact ⟨rfl, rfl⟩)); refine hK _ _ ?_; clear hK K)))
   iterate 2 (refine stepK rfl (by kernel_rfl) (fun K hK => ?_); go_simp; apply Exists.intro; apply And.intro; (focus (intro wk hk; go_simp; exact ⟨rfl, rfl⟩)); refine hK _ _ ?_; clear hK K)
   iterate 5 (refine stepK rfl (by kernel_rfl) (fun K hK => ?_); go_simp; (first | (refine hK _ _ ?_; clear hK K) | (apply Exists.intro; apply And.intro; (focus (intro wk hk; go_simp; exact ⟨rfl, rfl⟩)); refine hK _ _ ?_; clear hK K)))
   iterate 2 (refine stepK rfl (by kernel_rfl) (fun K hK => ?_); go_simp; apply Exists.intro; apply And.intro; (focus (intro wk hk; go_simp; exact ⟨rfl, rfl⟩)); refine hK _ _ ?_; clear hK K)
   refine stepN ?_
   refine hQ _ _ ?_
   intro w9 hT hG hF
   have H9 := Lib.hid (hl.trans (hT.below.mono hl.size))
   clear hT hG hF hQ QQ L hl r2 r3
   go_wp2_with fail
   go_ret
   exact ⟨rfl, H9.out⟩
 ·have h1 : (x.i == y.i) = false := by rw [beq_eq_false_iff_ne]; exact e1
  have hbb : b = false := by rw [← hb]; exact decide_eq_false (fun h => e1 (by unfold Lf.key at h; simp only [Prod.mk.injEq] at h; exact h.1))
  subst hbb
  clear q1 hb e1 kH
  let L : List Sp := []
  refine wp_region_six0 (shs L) (look6 L) (None_) (by kernel_rfl) (by kernel_rfl) (mk_St L [] [] (by kernel_rfl) (by kernel_rfl) trivial (by simp)) ?_
  intro QQ hQ
  refine stepK rfl (by kernel_rfl) (fun K hK => ?_); go_simp
  apply Exists.intro; apply And.intro; (focus (intro wk hk; go_simp; exact ⟨rfl, rfl⟩)); refine hK _ _ ?_; clear hK K
  refine stepK rfl (by kernel_rfl) (fun K hK => ?_); go_simp
  apply Exists.intro; apply And.intro; (focus (intro wk hk; have cc : wk.cell? ⟨w.heap.size, 0, none⟩ = some (.int .i64 x.i) := ((K6.Row.tr r2 hk id).cell 0).trans (lA0 x); go_simp; exact ⟨rfl, rfl⟩)); refine hK _ _ ?_; clear hK K
  refine stepK rfl (by kernel_rfl) (fun K hK => ?_); go_simp
  apply Exists.intro; apply And.intro; (focus (intro wk hk; go_simp; exact ⟨rfl, rfl⟩)); refine hK _ _ ?_; clear hK K
  refine stepK rfl (by kernel_rfl) (fun K hK => ?_); go_simp
  apply Exists.intro; apply And.intro; (focus (intro wk hk; have cc : wk.cell? ⟨w.heap.size + 1, 0, none⟩ = some (.int .i64 y.i) := ((K6.Row.tr r3 hk id).cell 0).trans (lA0 y); go_simp; exact ⟨rfl, rfl⟩)); refine hK _ _ ?_; clear hK K
  iterate 2 (refine stepK rfl (by kernel_rfl) (fun K hK => ?_); go_simp; apply Exists.intro; apply And.intro; (focus (intro wk hk; go_simp; exact ⟨rfl, rfl⟩)); refine hK _ _ ?_; clear hK K)
  iterate 5 (refine stepK rfl (by kernel_rfl) (fun K hK => ?_); go_simp; (first | (refine hK _ _ ?_; clear hK K) | (apply Exists.intro; apply And.intro; (focus (intro wk hk; go_simp; exact ⟨rfl, rfl⟩)); refine hK _ _ ?_; clear hK K)))
  iterate 2 (refine stepK rfl (by kernel_rfl) (fun K hK => ?_); go_simp; apply Exists.intro; apply And.intro; (focus (intro wk hk; go_simp; exact ⟨rfl, rfl⟩)); refine hK _ _ ?_; clear hK K)
  iterate 5 (refine stepK rfl (by kernel_rfl) (fun K hK => ?_); go_simp; (first | (refine hK _ _ ?_; clear hK K) | (apply Exists.intro; apply And.intro; (focus (intro wk hk; go_simp; exact ⟨rfl, rfl⟩)); refine hK _ _ ?_; clear hK K)))
  iterate 2 (refine stepK rfl (by kernel_rfl) (fun K hK => ?_); go_simp; apply Exists.intro; apply And.intro; (focus (intro wk hk; go_simp; exact ⟨rfl, rfl⟩)); refine hK _ _ ?_; clear hK K)
  iterate 5 (refine stepK rfl (by kernel_rfl) (fun K hK => ?_); go_simp; (first | (refine hK _ _ ?_; clear hK K) | (apply Exists.intro; apply And.intro; (focus (intro wk hk; go_simp; exact ⟨rfl, rfl⟩)); refine hK _ _ ?_; clear hK K)))
  iterate 2 (refine stepK rfl (by kernel_rfl) (fun K hK => ?_); go_simp; apply Exists.intro; apply And.intro; (focus (intro wk hk; go_simp; exact ⟨rfl, rfl⟩)); refine hK _ _ ?_; clear hK K)
  refine stepN ?_
  refine hQ _ _ ?_
  intro w9 hT hG hF
  have H9 := Lib.hid (hl.trans (hT.below.mono hl.size))
  clear hT hG hF hQ QQ L hl r2 r3
  go_wp2_with fail
  go_ret
  exact ⟨rfl, H9.out⟩
end Go.Proofs.Ytpdenhmkpiafiaa
