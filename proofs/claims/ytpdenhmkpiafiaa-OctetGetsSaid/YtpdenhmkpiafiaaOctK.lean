/-
  Slices of bytes of the call's own, as listed operations of the region law K6: a call that returns one, and append onto one that an operation of the same region returned.
-/
import Derived.Test.YtpdenhmkpiafiaaRefApp
import Derived.Test.YtpdenhmkpiafiaaBase
import Derived.Laws.BytesArg
namespace Go.Proofs.Ytpdenhmkpiafiaa
open Go Go.RowKit K6

/-- bytes as values -/
def bv (xs : List Int) : List Value := xs.map (Value.int .u8)
theorem bv_len (xs : List Int) : (bv xs).length = xs.length := List.length_map ..
theorem bv_app (xs ys : List Int) : bv (xs ++ ys) = bv xs ++ bv ys := List.map_append ..
/-- a slice of the call's own holds these bytes -/
def Ob (w : World) (base : Nat) (v : Value) (xs : List Int) : Prop := w.ownsRow base 5 1 v xs.length (bv xs)
/-- a slice value reads as these bytes -/
def Bs (w : World) (u : Value) (xs : List Int) : Prop := ∃ q c, u = .slice q xs.length c ∧ (q = none → c = 0 ∧ xs = []) ∧ ∀ a, q = some a → ∀ j v, (bv xs)[j]? = some v → w.cell? (a.add j) = some v
theorem Ob.base {w : World} {b b' : Nat} {v : Value} {xs : List Int} (h : Ob w b v xs) (hb : b' ≤ b) : Ob w b' v xs := by
  refine ⟨h.1, ?_⟩
  rcases h.2 with h0 | ⟨g, cap, cur, rfl, h1, rest⟩
  · exact .inl h0
  · exact .inr ⟨g, cap, cur, rfl, Nat.le_trans hb h1, rest⟩
theorem Ob.nil (w : World) (b : Nat) : Ob w b (.slice none 0 0) [] := ⟨rfl, .inl ⟨rfl, rfl⟩⟩
theorem Bs.nil (w : World) : Bs w (.slice none 0 0) [] := ⟨none, 0, rfl, fun _ => ⟨rfl, rfl⟩, fun _ ha => (by cases ha)⟩
theorem add_at (g i : Nat) : (⟨g, 0, none⟩ : Addr).add i = ⟨g, 0 + i, none⟩ := by unfold Addr.add; split <;> simp_all
theorem add_off (g o i : Nat) : (⟨g, o, none⟩ : Addr).add i = ⟨g, o + i, none⟩ := by unfold Addr.add; split <;> simp_all
theorem Ob.bs {w : World} {b : Nat} {v : Value} {xs : List Int} (h : Ob w b v xs) : Bs w v xs := by
  rcases h.2 with ⟨rfl, h0⟩ | ⟨g, cap, cur, rfl, h1, hg, h2, h3, h4, h5⟩
  · obtain rfl : xs = [] := List.eq_nil_of_length_eq_zero h0
    exact Bs.nil w
  · refine ⟨some ⟨g, 0, none⟩, cap, rfl, (fun h => (by cases h)), fun a ha j u hj => ?_⟩
    cases ha
    exact World.ownsRow.cells h (g := g) rfl j u hj
theorem cell_lt {w : World} {a : Addr} {v : Value} (h : w.cell? a = some v) : a.block < w.heap.size := by
  unfold World.cell? at h
  split at h
  · rename_i c e f hc
    exact (Array.getElem?_eq_some_iff.1 hc).1
  · cases h
theorem add_block (a : Addr) (j : Nat) : (a.add j).block = a.block := by unfold Addr.add; split <;> rfl
theorem Bs.keep {X : Nat → Prop} {w w' : World} {u : Value} {xs : List Int} (h : Bs w u xs) (hT : Tr X w w') (hx : ∀ b, u.ownBlock = some b → ¬ X b) : Bs w' u xs := by
  obtain ⟨q, c, rfl, h0, h1⟩ := h
  refine ⟨q, c, rfl, h0, fun a ha j v hj => ?_⟩
  subst ha
  have h2 := h1 a rfl j v hj
  rw [← h2]
  refine World.cell?_of_block ?_
  rw [add_block]
  have h3 := cell_lt h2
  rw [add_block] at h3
  exact hT.block _ h3 (hx _ rfl)
theorem Bs.below {w w' : World} {u : Value} {xs : List Int} (h : Bs w u xs) (hb : Below w.heap.size w w') : Bs w' u xs := h.keep (X := None_) (Tr.of hb) (fun _ _ => id)
theorem Ob.keep {X : Nat → Prop} {w w' : World} {b : Nat} {v : Value} {xs : List Int} (h : Ob w b v xs) (hT : Tr X w w') (hx : ∀ b, v.ownBlock = some b → ¬ X b) : Ob w' b v xs := own_tr h hT hx
theorem Ob.below {w w' : World} {b : Nat} {v : Value} {xs : List Int} (h : Ob w b v xs) (hb : Below w.heap.size w w') : Ob w' b v xs := own_tr h (X := None_) (Tr.of hb) (fun _ _ => id)
theorem Bs.conv {w : World} {u : Value} {xs : List Int} (h : Bs w u xs) (h0 : xs ≠ []) : (convert 33 9 u).run Try.prog w = .ok (.string (strOfNums xs)) w := by
  obtain ⟨q, c, rfl, hn, h1⟩ := h
  cases q with
  | none => exact absurd (hn rfl).2 h0
  | some a =>
    have hl : 0 < xs.length := List.length_pos_iff.2 h0
    have hc : ∀ i, i < xs.length → w.cell? (a.add i) = some (.int .u8 (xs.getD i 0)) := fun i hi => h1 a rfl i _ (by unfold bv; rw [List.getElem?_map, List.getElem?_eq_getElem hi]; simp [List.getD_eq_getElem?_getD, hi])
    have hs : a.spot = none := by
      have h2 := hc 0 hl
      rw [show a.add 0 = a from by unfold Addr.add; rfl] at h2
      unfold World.cell? at h2
      split at h2
      · cases hs : a.spot with
        | none => rfl
        | some k => rw [hs] at h2; simp at h2
      · cases h2
    obtain ⟨g, o, s⟩ := a
    simp only at hs
    subst hs
    exact run_convert_bytes_arg (P := Try.prog) w 33 5 Try.underlying33 Try.underlying5 g o xs.length c xs rfl (fun i hi => by rw [← add_off]; exact hc i hi) 9 Try.underlying9
set_option maxRecDepth 100000 in
theorem append_nil {w : World} {base : Nat} {v : Value} {xs : List Int} (h : Ob w base v xs) : (Builtin.append_ #[33, 33] 33 #[v, .slice none 0 0]).run Try.prog w = .ok v w := by
  obtain ⟨i, hi⟩ : ∃ i, Try.prog.info? 5 = some i := ⟨_, rfl⟩
  rcases h.2 with ⟨rfl, h0⟩ | ⟨g, cap, cur, rfl, hb, hg, h2, h3, h4, h5⟩
  · simp [Builtin.append_, run_underlying Try.underlying33, sizeOf, typeInfo, hi, Builtin.lenOf, Builtin.firstCells]
  · simp [Builtin.append_, run_underlying Try.underlying33, sizeOf, typeInfo, hi, Builtin.lenOf, Builtin.firstCells, h2, storeCells]
set_option maxRecDepth 100000 in
set_option maxHeartbeats 4000000 in
/-- append, as it runs -/
theorem append_run {w : World} {base : Nat} {v u : Value} {xs ys : List Int} (h : Ob w base v xs) (hu : Bs w u ys) (hL : xs.length + ys.length ≤ 1000000000) (hb : base ≤ w.heap.size) :
    ∃ v' w', (Builtin.append_ #[33, 33] 33 #[v, u]).run Try.prog w = .ok v' w' ∧ Ob w' base v' (xs ++ ys) ∧ w.grownBy w' v.ownBlock ∧ (v'.ownBlock = v.ownBlock ∨ v'.ownBlock = some w.heap.size) := by
  obtain ⟨q, c, rfl, hn, h1⟩ := hu
  cases q with
  | none =>
    obtain ⟨rfl, rfl⟩ := hn rfl
    refine ⟨v, w, append_nil h, by rw [List.append_nil]; exact h, ⟨rfl, rfl, rfl, Nat.le_refl _, fun _ _ _ => rfl⟩, .inl rfl⟩
  | some a =>
    obtain ⟨v', w', hrun, ho, hg, -, hw⟩ := run_append_own_at (P := Try.prog) w base 33 33 5 _ _ 1 1 rfl rfl rfl rfl rfl rfl (by decide) v xs.length (bv xs) h a ys.length c (bv ys) (by rw [bv_len, Nat.mul_one]) (h1 a rfl) (fun u hu => by obtain ⟨x, _, rfl⟩ := List.mem_map.1 hu; rfl) (by simp only [maxLen]; omega) (by omega) hb
    refine ⟨v', w', hrun, ?_, hg, hw⟩
    unfold Ob
    rw [List.length_append, bv_app]
    exact ho
namespace K6
def InB (ks : List Nat) (g : Ghost) (b : Nat) : Prop := ∃ k ∈ ks, (g k).lo ≤ b ∧ b < (g k).hi
/-- what stands of a slice of the region's own -/
def OwnF (i : Nat) (ks : List Nat) (base : Nat) (zs : List Int) (g : Ghost) (w : World) : Prop := Ob w base (g i).v zs ∧ ∀ b, (g i).v.ownBlock = some b → InB (i :: ks) g b
/-- a slice of the region's own: of a call (ks empty), or by append onto the one of an operation of ks -/
def sQ (i : Nat) (ks D use kill : List Nat) (base : Nat) (zs : List Int) (p : Value → Prop) : Sp := (⟨i, D, use, kill, ks, i :: ks, false, false, false⟩, ⟨fun _ x => p x.v, OwnF i ks base zs, None_, None_⟩)
theorem ok_Q {w1 : World} {Z : Nat → Prop} {i : Nat} {ks D use kill : List Nat} {base : Nat} {zs : List Int} {p : Value → Prop} (hp : ∃ v, p v) (hks : ∀ k ∈ ks, k ∈ D) : OpOk w1 Z (sQ i ks D use kill base zs p) where
  some_ := fun _ => by obtain ⟨v, hv⟩ := hp; exact ⟨⟨v, w1.heap.size, w1.heap.size⟩, Nat.le_refl _, Nat.le_refl _, hv⟩
  depV := fun _ _ _ _ h => h
  depF := fun g g' hg w h => by
    have e : g' i = g i := hg i (.inl rfl)
    refine ⟨by rw [e]; exact h.1, fun b hb => ?_⟩
    rw [e] at hb
    obtain ⟨k, hk, h1⟩ := h.2 b hb
    refine ⟨k, hk, ?_⟩
    rcases List.mem_cons.1 hk with rfl | hk'
    · rw [e]; exact h1
    · rw [hg k (.inr (hks k hk'))]; exact h1
  loc := fun g w w' h hT => ⟨h.1.keep hT fun b hb hn => hn (.inr (.inr (h.2 b hb))), h.2⟩
  xo := fun _ h => h.elim
  lo := fun _ h => h.elim
/-- a call that returns a slice of its own -/
theorem left_Qc {l : List Sp} {i : Nat} {D use kill : List Nat} {base : Nat} {zs : List Int} {p : Value → Prop} {s : Sh} (hl : look6 l s.i = (sQ i [] D use kill base zs p).2) (hs : s = (sQ i [] D use kill base zs p).1) {g : Ghost} {w w' : World} {v : Value}
    (ho : Ob w' w.heap.size v zs) (hb : Below w.heap.size w w') (hbase : base ≤ w.heap.size) (hp : p v) : Left (look6 l) s g w v w' := by
  unfold Left
  rw [hl]
  subst hs
  refine ⟨hp, Tr.of hb, ?_⟩
  show Ob w' base (gput g i _ i).v zs ∧ ∀ b, (gput g i _ i).v.ownBlock = some b → InB [i] (gput g i _) b
  rw [gput_self]
  refine ⟨ho.base hbase, fun b h => ⟨i, by simp, ?_⟩⟩
  rw [gput_self]
  exact ho.lt b h
/-- append onto such a slice -/
theorem left_Qa {l : List Sp} {i : Nat} {ks D use kill : List Nat} {base : Nat} {zs : List Int} {p : Value → Prop} {s : Sh} (hl : look6 l s.i = (sQ i ks D use kill base zs p).2) (hs : s = (sQ i ks D use kill base zs p).1) (hik : i ∉ ks) {g : Ghost} {w w' : World} {v v' : Value}
    (hv : ∀ b, v.ownBlock = some b → InB ks g b) (hg : w.grownBy w' v.ownBlock) (ho : Ob w' base v' zs) (hw : v'.ownBlock = v.ownBlock ∨ v'.ownBlock = some w.heap.size) (hp : p v') : Left (look6 l) s g w v' w' := by
  unfold Left
  rw [hl]
  subst hs
  refine ⟨hp, ⟨hg.os, hg.tape, hg.output, hg.size, fun b hb hx => hg.block b hb fun hn => hx ?_⟩, ?_⟩
  · obtain ⟨k, hk, h1⟩ := hv b hn.symm
    exact .inr ⟨k, hk, h1⟩
  · show Ob w' base (gput g i _ i).v zs ∧ ∀ b, (gput g i _ i).v.ownBlock = some b → InB (i :: ks) (gput g i _) b
    rw [gput_self]
    refine ⟨ho, fun b h => ?_⟩
    rcases hw with h1 | h1
    · obtain ⟨k, hk, h2⟩ := hv b (h1 ▸ h)
      refine ⟨k, List.mem_cons_of_mem _ hk, ?_⟩
      rw [gput_ne (fun e : k = i => hik (e ▸ hk))]
      exact h2
    · have e : w.heap.size = b := Option.some.inj (h1.symm.trans h)
      refine ⟨i, List.mem_cons_self .., ?_⟩
      rw [gput_self]
      exact ⟨Nat.le_of_eq e, by subst e; exact (ho.lt _ h).2⟩
end K6
end Go.Proofs.Ytpdenhmkpiafiaa
