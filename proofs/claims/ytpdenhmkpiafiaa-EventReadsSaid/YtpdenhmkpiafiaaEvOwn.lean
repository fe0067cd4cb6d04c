/-
  One more element behind a slice of the call's own; rows of events of the call's own; a source's operations, by letters.
-/
import Derived.Test.YtpdenhmkpiafiaaEvSl
import Derived.Test.YtpdenhmkpiafiaaOctRead
import Derived.Test.YtpdenhmkpiafiaaRefSrc2
import Derived.Test.YtpdenhmkpiafiaaEvPlain
namespace Go.Proofs.Ytpdenhmkpiafiaa
open Go Go.RowKit K6

/-- a slice type, its elements' type, and how many cells they have -/
structure AppT (ts te z : Nat) : Prop where
  ht : Try.prog.underlying ts = some (.slice te)
  ex : ∃ i zv, Try.prog.info? te = some i ∧ i.zero = some zv ∧ i.size = z ∧ i.bytes ≤ 4096 ∧ zv.cells.size = z
  pos : 0 < z
theorem append1 {ts te z : Nat} (T : AppT ts te z) {w : World} {base n b : Nat} {v : Value} {zs : List Value} {cs : Array Value} (h : w.ownsRow base te z v n zs) (hr : Row w b te cs) (hs : cs.size = z) (h1 : cs.all (·.oneCell') = true) (hL : n ≤ 1000000) (hb : base ≤ w.heap.size) :
    ∃ v' w', (Builtin.append_ #[ts, ts] ts #[v, .slice (some ⟨b, 0, none⟩) 1 1]).run Try.prog w = .ok v' w' ∧ w'.ownsRow base te z v' (n + 1) (zs ++ cs.toList) ∧ w.grownBy w' v.ownBlock ∧ (v'.ownBlock = v.ownBlock ∨ v'.ownBlock = some w.heap.size) := by
  obtain ⟨i, zv, hi, hz, hsz, hby, hzc⟩ := T.ex
  have hB : (n + 1) * i.bytes ≤ (n + 1) * 4096 := Nat.mul_le_mul_left _ hby
  obtain ⟨v', w', hrun, ho, hg, -, hw⟩ := run_append_own_at (P := Try.prog) w base ts ts te i zv z i.bytes T.ht hi hz hsz rfl hzc T.pos v n zs h ⟨b, 0, none⟩ 1 1 cs.toList (by rw [Array.length_toList, hs, Nat.one_mul]) (fun j u hj => by
    rw [add_at, Nat.zero_add, hr.cell]
    simpa using hj) (fun u hu => by
    rw [Array.all_eq_true_iff_forall_mem] at h1
    exact h1 u (by simpa using hu)) (by simp only [maxLen]; omega) (by omega) hb
  exact ⟨v', w', hrun, ho, hg, hw⟩
theorem own_lt {w : World} {base te z n : Nat} {v : Value} {zs : List Value} (h : w.ownsRow base te z v n zs) (b : Nat) (hb : v.ownBlock = some b) : base ≤ b ∧ b < w.heap.size := by
  rcases h.2 with ⟨rfl, -⟩ | ⟨g, cap, cur, rfl, h1, hg, -⟩
  · cases hb
  · have h2 : some g = some b := hb
    injection h2 with h2
    subst h2
    exact ⟨h1, (Array.getElem?_eq_some_iff.1 hg).1⟩
theorem own_sl {w : World} {base te z n : Nat} {v : Value} {zs : List Value} (h : w.ownsRow base te z v n zs) : ∃ q c, v = .slice q n c := by
  rcases h.2 with ⟨rfl, h0⟩ | ⟨g, cap, cur, rfl, -⟩
  · exact ⟨none, 0, by rw [h0]⟩
  · exact ⟨_, _, rfl⟩
theorem own_sl3 {w : World} {base te z n : Nat} {v : Value} {zs : List Value} (h : w.ownsRow base te z v n zs) : ∃ q m c, v = .slice q m c := by
  obtain ⟨q, c, e⟩ := own_sl h
  exact ⟨q, n, c, e⟩
theorem own_one {w : World} {base te z n : Nat} {v : Value} {zs : List Value} (h : w.ownsRow base te z v n zs) : v.oneCell' = true := by
  rcases h.2 with ⟨rfl, -⟩ | ⟨g, cap, cur, rfl, -⟩
  · rfl
  · rfl
theorem own_base {w : World} {b b' te z n : Nat} {v : Value} {zs : List Value} (h : w.ownsRow b te z v n zs) (hb : b' ≤ b) : w.ownsRow b' te z v n zs := by
  refine ⟨h.1, ?_⟩
  rcases h.2 with h0 | ⟨g, cap, cur, rfl, h1, rest⟩
  · exact .inl h0
  · exact .inr ⟨g, cap, cur, rfl, Nat.le_trans hb h1, rest⟩
theorem own_nil (w : World) (b te z : Nat) : w.ownsRow b te z (.slice none 0 0) 0 [] := ⟨(Nat.zero_mul z).symm, .inl ⟨rfl, rfl⟩⟩
set_option maxRecDepth 100000 in
theorem appT23 : AppT 23 31 4 := ⟨rfl, ⟨_, _, rfl, rfl, rfl, by decide, rfl⟩, by decide⟩
set_option maxRecDepth 100000 in
theorem appT77 : AppT 77 26 2 := ⟨rfl, ⟨_, _, rfl, rfl, rfl, by decide, rfl⟩, by decide⟩
theorem uw_snoc (l : List Nat) (a : Nat) : uw (l ++ [a]) = uw l ++ (W4 a).toList := by
  rw [uw_app]
  congr 1
theorem W4_one (a : Nat) : (W4 a).all (·.oneCell') = true := by kernel_rfl

/-! ### rows of events of the call's own -/
def evc (e : Ev) : List Value := [.int .i64 e.k, e.v]
def evcs (E : List Ev) : List Value := E.flatMap evc
theorem evcs_snoc (E : List Ev) (e : Ev) : evcs (E ++ [e]) = evcs E ++ evc e := by
  unfold evcs
  rw [List.flatMap_append]
  congr 1
theorem evcs_get : ∀ (E : List Ev) (i j : Nat) (e : Ev), E[i]? = some e → j < 2 → (evcs E)[i * 2 + j]? = (evc e)[j]?
  | [], i, j, e, h, _ => by simp at h
  | x :: E, i, j, e, h, hj => by
    show (evc x ++ evcs E)[i * 2 + j]? = _
    match i with
    | 0 =>
      have h' : some x = some e := h
      injection h' with h'
      subst h'
      rw [List.getElem?_append_left (by show _ < 2; omega), Nat.zero_mul, Nat.zero_add]
    | i + 1 =>
      rw [List.getElem?_append_right (by show 2 ≤ _; omega), show (i + 1) * 2 + j - (evc x).length = i * 2 + j from by show (i + 1) * 2 + j - 2 = _; omega]
      exact evcs_get E i j e h hj
/-- an event of the call's own: its numbers lie in a block from base on, that is not the row's -/
def EvIn (w : World) (base : Nat) (v : Value) (e : Ev) : Prop := EvOk w e ∧ ∀ b, e.v.ownBlock = some b → base ≤ b ∧ b < w.heap.size ∧ v.ownBlock ≠ some b
def Eo (w : World) (base : Nat) (v : Value) (E : List Ev) : Prop := w.ownsRow base 26 2 v E.length (evcs E) ∧ ∀ e ∈ E, EvIn w base v e
theorem Eo.nil (w : World) (b : Nat) : Eo w b (.slice none 0 0) [] := ⟨own_nil _ _ _ _, fun _ h => (by cases h)⟩
theorem Eo.base {w : World} {b b' : Nat} {v : Value} {E : List Ev} (h : Eo w b v E) (hb : b' ≤ b) : Eo w b' v E :=
  ⟨own_base h.1 hb, fun e he => ⟨(h.2 e he).1, fun c hc => ⟨Nat.le_trans hb ((h.2 e he).2 c hc).1, ((h.2 e he).2 c hc).2⟩⟩⟩
theorem EvIn.keep {X : Nat → Prop} {w w' : World} {base : Nat} {v : Value} {e : Ev} (h : EvIn w base v e) (hT : Tr X w w') (hX : ∀ b, base ≤ b → v.ownBlock ≠ some b → ¬ X b) : EvIn w' base v e :=
  ⟨⟨h.1.us.keep hT fun b hb => hX b (h.2 b hb).1 (h.2 b hb).2.2, h.1.lt, h.1.lo, h.1.hi⟩, fun b hb => ⟨(h.2 b hb).1, Nat.lt_of_lt_of_le (h.2 b hb).2.1 hT.size, (h.2 b hb).2.2⟩⟩
theorem Eo.keep {X : Nat → Prop} {w w' : World} {base : Nat} {v : Value} {E : List Ev} (h : Eo w base v E) (hT : Tr X w w') (hX : ∀ b, base ≤ b → ¬ X b) : Eo w' base v E :=
  ⟨own_tr h.1 hT fun b hb => hX b (own_lt h.1 b hb).1, fun e he => (h.2 e he).keep hT fun b hb _ => hX b hb⟩
theorem Eo.below {w w' : World} {base : Nat} {v : Value} {E : List Ev} (h : Eo w base v E) (hb : Below w.heap.size w w') : Eo w' base v E := h.keep (X := None_) (Tr.of hb) (fun _ _ => id)
theorem Eo.es {w : World} {base : Nat} {v : Value} {E : List Ev} (h : Eo w base v E) : Es w v E := by
  rcases id h.1.2 with ⟨rfl, h0⟩ | ⟨g, cap, cur, rfl, h1, hg, rest⟩
  · refine ⟨none, 0, by rw [h0], fun h => ?_, fun e he => (h.2 e he).1⟩
    rw [h0] at h
    exact absurd h (Nat.lt_irrefl 0)
  · refine ⟨some ⟨g, 0, none⟩, cap, rfl, fun _ => ⟨g, 0, rfl, (Array.getElem?_eq_some_iff.1 hg).1, fun i e he => ?_⟩, fun e he => (h.2 e he).1⟩
    have hc := fun j (hj : j < 2) (u : Value) (hu : (evc e)[j]? = some u) => World.ownsRow.cells h.1 (g := g) rfl (i * 2 + j) u ((evcs_get E i j e he hj).trans hu)
    refine ⟨?_, ?_⟩
    · have h2 := hc 0 (by decide) _ rfl
      rw [add_off] at h2
      exact h2
    · have h2 := hc 1 (by decide) _ rfl
      rw [add_off, ← Nat.add_assoc] at h2
      exact h2
/-- one more -/
theorem Eo.push {w w' : World} {base lo hi : Nat} {v v' : Value} {E : List Ev} {e : Ev} (h : Eo w base v E) (hT : Tr (fun c => v.ownBlock = some c) w w') (ho : w'.ownsRow base 26 2 v' (E.length + 1) (evcs E ++ evc e))
    (hG : Grew v ⟨v', lo, hi⟩) (hlo : w.heap.size ≤ lo) (he : EvIn w base v e) : Eo w' base v' (E ++ [e]) := by
  refine ⟨by rw [List.length_append, evcs_snoc]; exact ho, fun x hx => ?_⟩
  have hx' : EvIn w base v x := by
    rcases List.mem_append.1 hx with hx | hx
    · exact h.2 x hx
    · rw [List.mem_singleton.1 hx]; exact he
  have h2 := hx'.keep hT fun b _ hv hb => hv hb
  refine ⟨h2.1, fun b hb => ⟨(h2.2 b hb).1, (h2.2 b hb).2.1, fun hv => ?_⟩⟩
  have h3 := hx'.2 b hb
  rcases hG with hG | ⟨hG, -⟩
  · exact h3.2.2 (hG.symm.trans hv)
  · have h4 : some lo = some b := hG.symm.trans hv
    injection h4 with h4
    omega
/-- a slice of numbers of the call's own, as an event's -/
theorem Oe.ev {w : World} {base hs : Nat} {v vl : Value} {k : Int} {l : List Nat} (h : Oe w hs vl l) (hM : ∀ a ∈ l, a < M) (hk : -9223372036854775808 ≤ k ∧ k < 9223372036854775808) (hb : base ≤ hs) (hv : ∀ b, v.ownBlock = some b → b < hs) :
    ∃ e : Ev, e.k = k ∧ e.v = vl ∧ e.l = l ∧ EvIn w base v e := by
  obtain ⟨q, c, rfl⟩ := own_sl h
  refine ⟨⟨k, q, c, l⟩, rfl, rfl, rfl, ⟨h.us, hM, hk.1, hk.2⟩, fun b hb' => ?_⟩
  have h1 := h.lt b hb'
  refine ⟨Nat.le_trans hb h1.1, h1.2, fun e => ?_⟩
  have := hv b e
  omega

/-! ### a source's operations, by letters -/
def GotV (w : World) (lo hi g : Nat) (v : Value) (e : Int) (xs : List Int) (r : Ending) (w' : World) : Prop := r = .returned v ∧ SA w' lo hi g e xs ∧ Tr (fun b => b = g) w w'
theorem svar_V {w : World} {lo hi g k : Nat} {e e1 most : Int} {xs x1 : List Int} (h : SA w lo hi g e xs) (hg : gV most (e, xs) = (k, e1, x1)) : Calls Try.prog 60 #[.pointer (some ⟨g, 0, none⟩), .int .i64 most] w (GotV w lo hi g (.int .i64 (k : Int)) e1 x1) := by
  refine (svar_at most h).mono ?_
  rintro r w' ⟨rfl, hs, ht⟩
  unfold gV at hg
  simp only [Prod.mk.injEq] at hg
  obtain ⟨rfl, rfl, rfl⟩ := hg
  exact ⟨rfl, hs, ht⟩
theorem samt_V {w : World} {lo hi g a : Nat} {e e1 : Int} {xs x1 : List Int} (h : SA w lo hi g e xs) (hhi : hi ≤ w.heap.size) (hg : gA (e, xs) = (a, e1, x1)) : Calls Try.prog 62 #[.pointer (some ⟨g, 0, none⟩)] w (GotV w lo hi g (.agg (W4 a)) e1 x1) := by
  refine (samt_at h hhi).mono ?_
  rintro r w' ⟨rfl, hs, ht⟩
  rw [hg] at hs ⊢
  exact ⟨rfl, hs, ht⟩
def RGotV (w : World) (g : Nat) (q : Option Nat) (v : Value) (e : Int) (xs : List Int) (r : Ending) (w' : World) : Prop := r = .returned v ∧ SR w' g q e xs ∧ Tr (fun b => b = g) w w'
theorem rvar_V {w : World} {g k : Nat} {q : Option Nat} {e e1 most : Int} {xs x1 : List Int} (h : SR w g q e xs) (hg : gV most (e, xs) = (k, e1, x1)) : Calls Try.prog 178 #[.pointer (some ⟨g, 0, none⟩), .int .i64 most] w (RGotV w g q (.int .i64 (k : Int)) e1 x1) := by
  refine (rvar_at most h).mono ?_
  rintro r w' ⟨rfl, hs, ht⟩
  rw [hg] at hs ⊢
  exact ⟨rfl, hs, ht⟩
theorem ramt_V {w : World} {g a : Nat} {q : Option Nat} {e e1 : Int} {xs x1 : List Int} (h : SR w g q e xs) (hq : ∀ b, q = some b → b < w.heap.size) (hg : gA (e, xs) = (a, e1, x1)) : Calls Try.prog 179 #[.pointer (some ⟨g, 0, none⟩)] w (RGotV w g q (.agg (W4 a)) e1 x1) := by
  refine (ramt_at h hq).mono ?_
  rintro r w' ⟨rfl, hs, ht⟩
  rw [hg] at hs ⊢
  exact ⟨rfl, hs, ht⟩
theorem tri {α : Type} (x : α × Int × List Int) : ∃ k e xs, x = (k, e, xs) := ⟨x.1, x.2.1, x.2.2, rfl⟩
theorem SR.loc' {g : Nat} {q : Option Nat} {e : Int} {xs : List Int} (w w' : World) (h : SR w g q e xs) (hT : Tr (fun b => ¬ (b = g ∨ q = some b)) w w') : SR w' g q e xs := h.keep hT (fun hx => hx (.inl rfl)) (fun _ hb hx => hx (.inr hb))
end Go.Proofs.Ytpdenhmkpiafiaa
