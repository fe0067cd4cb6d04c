/-
  What the statement rests on, part 9: TxGet TxSet TxGet2 TxSix OctKU TxGet3 TxLaw TxSame2.
-/
import Derived.Deep.MidRow
import Derived.Deep.Upon
import Derived.Test.YtpdenhmkpiafiaaQTC1
import Derived.Test.YtpdenhmkpiafiaaQTC3
import Derived.Test.YtpdenhmkpiafiaaQTC6
import Derived.Test.YtpdenhmkpiafiaaQTC7
namespace Go.Proofs.Ytpdenhmkpiafiaa
open Go Go.RowKit K6
theorem tr_cells4 {X : Nat → Prop} {w : World} {b i j k l : Nat} {u0 u1 u2 u3 : Value} (h : X b) : Tr X w ((((w.setCell ⟨b, i, none⟩ u0).setCell ⟨b, j, none⟩ u1).setCell ⟨b, k, none⟩ u2).setCell ⟨b, l, none⟩ u3) :=
  (tr_cell (p := ⟨b, i, none⟩) h).trans ((tr_cell (p := ⟨b, j, none⟩) h).trans ((tr_cell (p := ⟨b, k, none⟩) h).trans (tr_cell (p := ⟨b, l, none⟩) h)))
structure GI (w wx : World) (lo hi g : Nat) (es : Int) (ys : List Int) (ty : TypeId) (Z C : Array Value) : Prop where
  src : SA wx lo hi g es ys
  tr : Tr (fun b => b = g) w wx
  r0 : Row wx w.heap.size ty Z
  r1 : Row wx (w.heap.size + 1) ty C
  gh : g < w.heap.size
theorem GI.call {w wx wy : World} {lo hi g : Nat} {es e1 : Int} {ys x1 : List Int} {ty : TypeId} {Z C : Array Value} (h : GI w wx lo hi g es ys ty Z C) (hs : SA wy lo hi g e1 x1) (ht : Tr (fun b => b = g) wx wy) : GI w wy lo hi g e1 x1 ty Z C :=
  ⟨hs, h.tr.trans ht, K6.Row.tr h.r0 ht (by have := h.gh; omega), K6.Row.tr h.r1 ht (by have := h.gh; omega), h.gh⟩
theorem GI.put {w wx wy : World} {lo hi g : Nat} {es : Int} {ys : List Int} {ty : TypeId} {Z C C' : Array Value} (h : GI w wx lo hi g es ys ty Z C) (hhi : hi ≤ w.heap.size) (ht : Tr (fun b => b = w.heap.size + 1) wx wy) (hr : Row wy (w.heap.size + 1) ty C') : GI w wy lo hi g es ys ty Z C' :=
  ⟨h.src.keep ht fun b _ h2 hx => by have hx' : b = w.heap.size + 1 := hx; omega, h.tr.trans_new ht fun b hb hlt => by have hb' : b = w.heap.size + 1 := hb; omega, K6.Row.tr h.r0 ht (by omega), hr, h.gh⟩
set_option maxRecDepth 100000 in
set_option maxHeartbeats 16000000 in
theorem numbers_at {w : World} {lo hi g : Nat} {e : Int} {xs : List Int} (h : SA w lo hi g e xs) (hhi : hi ≤ w.heap.size) (n : Nat) (hn : n ≤ 1000) {LX : List Int} {e3 : Int} {x3 : List Int} (hg : gMany (gN 1099511627776) n (e, xs) = (LX, e3, x3)) :
    Calls Try.prog 224 #[.pointer (some ⟨g, 0, none⟩), .int .i64 (n : Int)] w (ManP Oi w lo hi g LX e3 x3) := by
  have hA : Below w.heap.size w (w.alloc (.cells #[.pointer (some ⟨g, 0, none⟩)] 50)) := (Below.refl _ _).alloc (Nat.le_refl _) _
  have r0 : Row (w.alloc (.cells #[.pointer (some ⟨g, 0, none⟩)] 50)) w.heap.size 50 #[.pointer (some ⟨g, 0, none⟩)] := Row.new_at rfl
  have hgh : g < w.heap.size := Nat.lt_of_lt_of_le h.2.1 hhi
  have k1 := manyI_at (h.below hA) (Nat.le_trans hhi hA.size) n hn r0.lt (by omega) (r0.cell 0) hg
  have c0 := r0.cell 0
  have H0 := Lib.hid hA
  replace k1 := Lib.hid k1
  clear h hhi hg hA r0
  go_enter Try.func224, Try.ntmps224
  go_wp2_with fail
  refine k1.out.mono ?_
  rintro r w1 ⟨v, rfl, ho, hs, ht⟩
  have H1 := Lib.hid (show _ ∧ _ ∧ _ from ⟨own_base ho H0.out.size, hs, (Tr.of H0.out : Tr (fun b => b = g) w _).trans ht⟩)
  clear k1 ho hs ht H0 c0
  go_wp2_with fail
  go_ret
  exact ⟨_, rfl, H1.out.1, H1.out.2.1, H1.out.2.2⟩
set_option maxRecDepth 100000 in
set_option maxHeartbeats 16000000 in
theorem getProof_at {w : World} {lo hi g : Nat} {e : Int} {xs : List Int} (h : SA w lo hi g e xs) (hhi : hi ≤ w.heap.size) {LX : List (List Int)} {e3 : Int} {x3 : List Int} (hg : gPr (e, xs) = (LX, e3, x3)) :
    Calls Try.prog 248 #[.pointer (some ⟨g, 0, none⟩)] w (ManP Oh w lo hi g LX e3 x3) := by
  obtain ⟨n, e1, x1, hg1⟩ := tri (gV 10 (e, xs))
  unfold gPr at hg
  rw [hg1] at hg
  simp only at hg
  have hn : n ≤ 1000 := by
    have h1 := gV_most (most := 10) (s := (e, xs)) (by decide)
    rw [hg1] at h1
    simp only at h1
    omega
  have k0 := Lib.hid (svar_V h hg1)
  have hg := Lib.hid hg
  clear h hg1
  go_enter Try.func248, Try.ntmps248
  go_wp2_with fail
  refine k0.out.mono ?_
  rintro r w1 ⟨rfl, hs, ht⟩
  have k1 := Lib.hid (manyH_at hs (Nat.le_trans hhi ht.size) n hn hg.out)
  have H0 := Lib.hid ht
  clear k0 hs ht
  go_wp2_with fail
  refine k1.out.mono ?_
  rintro r w2 ⟨v, rfl, ho, hs, ht⟩
  have H1 := Lib.hid (show _ ∧ _ ∧ _ from ⟨own_base ho H0.out.size, hs, H0.out.trans ht⟩)
  clear k1 ho hs ht H0
  go_wp2_with fail
  go_ret
  exact ⟨_, rfl, H1.out.1, H1.out.2.1, H1.out.2.2⟩
def LfP (w : World) (lo hi g : Nat) (X : LfK) (e3 : Int) (x3 : List Int) (r : Ending) (w' : World) : Prop := ∃ x : Lf, x.key = X ∧ r = .returned (.agg (lfc x).toArray) ∧ Oh w' w.heap.size x.pv x.p ∧ SA w' lo hi g e3 x3 ∧ Tr (fun b => b = g) w w'
set_option maxRecDepth 100000 in
set_option maxHeartbeats 64000000 in
theorem getLeaf_at {w : World} {lo hi g : Nat} {e : Int} {xs : List Int} (h : SA w lo hi g e xs) (hhi : hi ≤ w.heap.size) {X : LfK} {e4 : Int} {x4 : List Int} (hg : gLf (e, xs) = (X, e4, x4)) :
    Calls Try.prog 251 #[.pointer (some ⟨g, 0, none⟩)] w (LfP w lo hi g X e4 x4) := by
  obtain ⟨n1, e1, x1, hg1⟩ := tri (gV 4294967295 (e, xs))
  obtain ⟨n2, e2, x2, hg2⟩ := tri (gV 4294967295 (e1, x1))
  obtain ⟨a, e3, x3, hg3⟩ := tri (gA (e2, x2))
  obtain ⟨P, e5, x5, hg4⟩ := tri (gPr (e3, x3))
  unfold gLf rSeq gN at hg
  simp only [hg1, hg2, hg3, hg4, Prod.mk.injEq] at hg
  obtain ⟨rfl, rfl, rfl⟩ := hg
  have hgh : g < w.heap.size := Nat.lt_of_lt_of_le h.2.1 hhi
  have hA : Below w.heap.size w ((w.alloc (.cells #[.int .i64 0, .int .i64 0, .int .u64 0, .int .u64 0, .int .u64 0, .int .u64 0, .slice none 0 0] 198)).alloc (.cells #[.int .i64 0, .int .i64 0, .int .u64 0, .int .u64 0, .int .u64 0, .int .u64 0, .slice none 0 0] 198)) := ((Below.refl _ _).alloc (Nat.le_refl _) _).alloc (by simp) _
  have G0 : GI w ((w.alloc (.cells #[.int .i64 0, .int .i64 0, .int .u64 0, .int .u64 0, .int .u64 0, .int .u64 0, .slice none 0 0] 198)).alloc (.cells #[.int .i64 0, .int .i64 0, .int .u64 0, .int .u64 0, .int .u64 0, .int .u64 0, .slice none 0 0] 198)) lo hi g e xs 198 (#[.int .i64 0, .int .i64 0, .int .u64 0, .int .u64 0, .int .u64 0, .int .u64 0, .slice none 0 0]) (#[.int .i64 0, .int .i64 0, .int .u64 0, .int .u64 0, .int .u64 0, .int .u64 0, .slice none 0 0]) := ⟨h.below hA, Tr.of hA, Row.alloc (Row.new_at rfl) _, Row.new_at (by simp), hgh⟩
  have k1 := Lib.hid (svar_V G0.src hg1)
  obtain ⟨y0, y1, y2, y3, hW⟩ : ∃ y0 y1 y2 y3 : Int, W4 a = #[.int .u64 y0, .int .u64 y1, .int .u64 y2, .int .u64 y3] := ⟨_, _, _, _, rfl⟩
  replace G0 := Lib.hid G0
  have HG := Lib.hid (show _ ∧ _ ∧ _ from ⟨hg2, hg3, hg4⟩)
  clear h hA hg1 hg2 hg3 hg4
  go_enter Try.func251, Try.ntmps251
  go_wp2_with fail
  refine k1.out.mono ?_
  rintro r w1 ⟨rfl, hs, ht⟩
  have G1 := G0.out.call hs ht
  have c0 := G1.r1.cell 0
  have f0 := G1.r1.frozen 0
  have HG1 := Lib.hid G1
  clear k1 G0 hs ht G1
  go_upto_region 3 with (fail)
  refine wp_abs (fun wx => GI w wx lo hi g e1 x1 198 (#[.int .i64 0, .int .i64 0, .int .u64 0, .int .u64 0, .int .u64 0, .int .u64 0, .slice none 0 0]) (#[.int .i64 (n1 : Int), .int .i64 0, .int .u64 0, .int .u64 0, .int .u64 0, .int .u64 0, .slice none 0 0])) (HG1.out.put hhi (tr_cell rfl) (Row.congr (Row.set HG1.out.r1 0 _) rfl)) ?_
  intro w2 G2
  have k2 := Lib.hid (svar_V G2.src HG.out.1)
  replace G2 := Lib.hid G2
  clear HG1 c0 f0
  go_wp2_with fail
  refine k2.out.mono ?_
  rintro r w3 ⟨rfl, hs, ht⟩
  have G3 := G2.out.call hs ht
  have c0 := G3.r1.cell 1
  have f0 := G3.r1.frozen 1
  have HG3 := Lib.hid G3
  clear k2 G2 hs ht G3
  go_upto_region 4 with (fail)
  refine wp_abs (fun wx => GI w wx lo hi g e2 x2 198 (#[.int .i64 0, .int .i64 0, .int .u64 0, .int .u64 0, .int .u64 0, .int .u64 0, .slice none 0 0]) (#[.int .i64 (n1 : Int), .int .i64 (n2 : Int), .int .u64 0, .int .u64 0, .int .u64 0, .int .u64 0, .slice none 0 0])) (HG3.out.put hhi (tr_cell rfl) (Row.congr (Row.set HG3.out.r1 1 _) rfl)) ?_
  intro w4 G4
  have k3 := samt_V G4.src (Nat.le_trans hhi G4.tr.size) HG.out.2.1
  rw [hW] at k3
  replace k3 := Lib.hid k3
  replace G4 := Lib.hid G4
  clear HG3 c0 f0
  go_wp2_with fail
  refine k3.out.mono ?_
  rintro r w5 ⟨rfl, hs, ht⟩
  have G5 := G4.out.call hs ht
  have c2 := G5.r1.cell 2
  have c3 := G5.r1.cell 3
  have c4 := G5.r1.cell 4
  have c5 := G5.r1.cell 5
  have f2 := G5.r1.frozen 2
  have f3 := G5.r1.frozen 3
  have f4 := G5.r1.frozen 4
  have f5 := G5.r1.frozen 5
  have HG5 := Lib.hid G5
  clear k3 G4 hs ht G5
  go_upto_region 5 with (fail)
  refine wp_abs (fun wx => GI w wx lo hi g e3 x3 198 (#[.int .i64 0, .int .i64 0, .int .u64 0, .int .u64 0, .int .u64 0, .int .u64 0, .slice none 0 0]) (#[.int .i64 (n1 : Int), .int .i64 (n2 : Int), .int .u64 y0, .int .u64 y1, .int .u64 y2, .int .u64 y3, .slice none 0 0])) (HG5.out.put hhi (tr_cells4 (X := fun b => b = w.heap.size + 1) rfl) (Row.congr ((((Row.set HG5.out.r1 2 _).set 3 _).set 4 _).set 5 _) rfl)) ?_
  intro w6 G6
  have k4 := Lib.hid (getProof_at G6.src (Nat.le_trans hhi G6.tr.size) HG.out.2.2)
  replace G6 := Lib.hid G6
  clear HG5 c2 c3 c4 c5 f2 f3 f4 f5
  go_wp2_with fail
  refine k4.out.mono ?_
  rintro r w7 ⟨v, rfl, ho, hs, ht⟩
  obtain ⟨q, c, hv⟩ := own_sl ho
  obtain ⟨np, hnp⟩ : ∃ n, P.length = n := ⟨_, rfl⟩
  rw [hnp] at hv
  subst hv
  have G7 := G6.out.call hs ht
  have c6 := G7.r1.cell 6
  have f6 := G7.r1.frozen 6
  have HO := Lib.hid (show Oh w7 (w.heap.size + 2) _ _ ∧ _ from ⟨own_base ho (by have := G6.out.r1.lt; omega), hnp⟩)
  have HG7 := Lib.hid G7
  clear k4 G6 hs ht G7 ho hnp
  go_upto_region 6 with (fail)
  refine wp_abs (fun wx => GI w wx lo hi g e5 x5 198 (#[.int .i64 0, .int .i64 0, .int .u64 0, .int .u64 0, .int .u64 0, .int .u64 0, .slice none 0 0]) (#[.int .i64 (n1 : Int), .int .i64 (n2 : Int), .int .u64 y0, .int .u64 y1, .int .u64 y2, .int .u64 y3, .slice q np c]) ∧ Tr (fun b => b = w.heap.size + 1) w7 wx) ⟨HG7.out.put hhi (tr_cell rfl) (Row.congr (Row.set HG7.out.r1 6 _) rfl), tr_cell rfl⟩ ?_
  rintro w8 ⟨G8, hT8⟩
  have r0 := G8.r0
  have r1 := G8.r1
  clear HG7 c6 f6 HG
  let L : List Sp := [sO 1 (w.heap.size) 198 [0] (fun g => aggOf g 0)]
  refine wp_region_six0 (shs L) (look6 L) (fun c => c = w.heap.size) (by kernel_rfl) (by kernel_rfl) (mk_St L [1] [1] (by kernel_rfl) (by kernel_rfl) ⟨ok_O aggOf_congr r0.lt (rfl), trivial⟩ (by simp)) ?_
  intro QQ hQ
  refine stepK rfl (by kernel_rfl) (fun K hK => ?_); go_simp
  apply Exists.intro; apply And.intro; (focus exact kLoad rfl rfl aggT198 r1 rfl id); refine hK _ _ ?_; clear hK K
  refine stepS _ rfl (by kernel_rfl) (fun K hK => ?_); go_simp
  refine ⟨?_, ?_⟩
  · exact sStoreO rfl rfl rfl rfl rfl rfl r0 id (by kernel_rfl) rfl (by kernel_rfl) (by decide) aggOf_congr
  rintro ⟨v1, lo1, hi1⟩ - - (rfl : v1 = undef)
  refine hK _ _ ?_; clear hK K
  refine stepN ?_
  refine hQ _ _ ?_
  intro w9 hT hG hF
  have x0 : Row w9 w.heap.size 198 (#[.int .i64 (n1 : Int), .int .i64 (n2 : Int), .int .u64 y0, .int .u64 y1, .int .u64 y2, .int .u64 y3, .slice q np c]) := hF 1 _ rfl rfl (by decide)
  have hs9 := G8.src.keep hT (fun b _ h2 hx => by have hx' : b = w.heap.size := hx; omega)
  have ht9 := G8.tr.trans_new hT (fun b hb hlt => by have hb' : b = w.heap.size := hb; omega)
  have ho9 : Oh w9 w.heap.size (.slice q np c) P := own_base (own_tr (own_tr HO.out.1 hT8 (fun b hb hx => by have hx' : b = w.heap.size + 1 := hx; have h1 := (own_lt HO.out.1 b hb).1; omega)) hT (fun b hb hx => by have hx' : b = w.heap.size := hx; have h1 := (own_lt HO.out.1 b hb).1; omega)) (by omega)
  have H9 := Lib.hid (show _ ∧ _ ∧ _ from ⟨ho9, hs9, ht9⟩)
  clear hT hG hF hQ QQ L r0 r1 G8 hT8 ho9 hs9 ht9
  go_wp2_with fail
  refine bodyPost_ret (results_c rfl aggT198 rfl x0 rfl) rfl ?_
  have hL : (lfc ⟨(n1 : Int), (n2 : Int), a, q, c, P⟩).toArray = #[.int .i64 (n1 : Int), .int .i64 (n2 : Int), .int .u64 y0, .int .u64 y1, .int .u64 y2, .int .u64 y3, .slice q np c] := by unfold lfc Lf.pv; rw [hW]; simp only [HO.out.2]; rfl
  exact ⟨⟨(n1 : Int), (n2 : Int), a, q, c, P⟩, rfl, by rw [hL], by show Oh w9 w.heap.size (.slice q P.length c) P; rw [HO.out.2]; exact H9.out.1, H9.out.2.1, H9.out.2.2⟩
end Go.Proofs.Ytpdenhmkpiafiaa
namespace Go.Proofs.Ytpdenhmkpiafiaa
open Go Go.RowKit K6
def setL (cs : Array Value) (o : Nat) : List Value → Array Value
  | [] => cs
  | v :: r => setL (cs.setIfInBounds o v) (o + 1) r
theorem setL_get : ∀ (l : List Value) (cs : Array Value) (o j : Nat), o + l.length ≤ cs.size → (setL cs o l)[j]? = if o ≤ j ∧ j < o + l.length then l[j - o]? else cs[j]?
  | [], cs, o, j, _ => by
    show cs[j]? = _
    rw [if_neg (by rintro ⟨h1, h2⟩; simp at h2; omega)]
  | v :: r, cs, o, j, h => by
    show (setL (cs.setIfInBounds o v) (o + 1) r)[j]? = _
    rw [List.length_cons] at h ⊢
    rw [setL_get r _ _ j (by rw [Array.size_setIfInBounds]; omega)]
    by_cases h1 : o + 1 ≤ j ∧ j < o + 1 + r.length
    · rw [if_pos h1, if_pos (by omega), show j - o = (j - (o + 1)) + 1 by omega, List.getElem?_cons_succ]
    · rw [if_neg h1]
      by_cases h2 : j = o
      · subst h2
        rw [if_pos (by omega), Nat.sub_self, Array.getElem?_setIfInBounds_self_of_lt (by omega)]
        rfl
      · rw [if_neg (by omega), Array.getElem?_setIfInBounds_ne (by omega)]
theorem row_setL : ∀ (l : List Value) {w : World} {b t : Nat} {cs : Array Value} (o : Nat), Row w b t cs → Row (w.setCells b o l) b t (setL cs o l)
  | [], _, _, _, _, _, h => h
  | v :: r, w, b, t, cs, o, h => by
    rw [World.setCells]
    exact row_setL r (o + 1) (h.set o v)
theorem heap_setCells {w : World} {b o c : Nat} {vs : List Value} (h : c ≠ b) : (w.setCells b o vs).heap[c]? = w.heap[c]? := by
  induction vs generalizing w o with
  | nil => rfl
  | cons v r ih => rw [World.setCells, ih]; exact Below.heap_setCell _ _ _ _ h
theorem size_setCells' {w : World} {b o : Nat} {vs : List Value} : (w.setCells b o vs).heap.size = w.heap.size := by
  induction vs generalizing w o with
  | nil => rfl
  | cons v r ih => rw [World.setCells, ih]; simp
theorem tape_setCells' {w : World} {b o : Nat} {vs : List Value} : (w.setCells b o vs).tape = w.tape := by
  induction vs generalizing w o with
  | nil => rfl
  | cons v r ih => rw [World.setCells, ih]; rfl
theorem there_row {w : World} {b t o n : Nat} {cs : Array Value} (hr : Row w b t cs) (h : o + n ≤ cs.size) : w.there b o n := fun j hj => by
  refine ⟨?_, hr.frozen _⟩
  rw [hr.cell, Array.getElem?_eq_getElem (by omega)]
  rfl
theorem sStoreMid {P : Program} {o : Oper} {a : Act} {w1 : World} {sh : List Sh} {g : Ghost} {X : Nat → Prop} {l : List Sp} {i b t off : Nat} {D : List Nat} {old vs : Array Value} {cells : Ghost → Array Value} {s : Sh} (hl : look6 l s.i = (sO i b t D cells).2) (hs : s = (sO i b t D cells).1)
    {ty : TypeId} {x y : Operand} (ho : o.op = .store ty x y) (hx : a.eval x = .pointer (some ⟨b, off, none⟩)) (hy : a.eval y = .agg vs) (hr : Row w1 b t old) (hX : ¬ X b) (hcs : cells g = setL old off vs.toList) (hoff : off + vs.size ≤ old.size)
    (hi : (P.info? ty).map (·.size) = some vs.size) (h1 : vs.all (·.oneCell') = true) (hik : i ∉ D) (hc : ∀ g g', (∀ x ∈ D, g' x = g x) → cells g' = cells g) : sOut P w1 sh (look6 l) X o a s g := by
  intro w hT hg hu
  have hr' := K6.Row.tr hr hT hX
  have hrun : (execOp a.eval o).run P w = .ok .skip (w.setCells b off vs.toList) := by
    unfold execOp
    simp only [ho, hx, hy, Sem.run_bind, Sem.run_pure, Result.andThen_ok, run_storeAt_mid w b off ty vs (there_row hr' hoff) hi h1]
  rw [hrun]
  exact left_O hl hs hik hc (fun b hb => heap_setCells hb) (World.os_setCells _ _ _ _) tape_setCells' (World.output_setCells _ _ _ _) size_setCells' (hcs ▸ row_setL _ _ hr')
theorem Cm.size {c : Cm} (h : c.tok.length = 32) : c.cs.toArray.size = 38 := by rw [List.size_toArray]; exact Cm.len h
theorem arr_eq {a b : Array Value} (h : ∀ j : Nat, a[j]? = b[j]?) : a = b := Array.ext_getElem? h
theorem Cm.get {c : Cm} (h : c.tok.length = 32) (j : Nat) : c.cs.toArray[j]? = if j < 3 then [Value.int .i64 c.r, .int .i64 c.x, .int .i64 c.e][j]? else if j < 35 then (bv c.tok)[j - 3]? else [c.pv, c.lv, .int .i64 c.z][j - 35]? := by
  rw [List.getElem?_toArray]
  unfold Cm.cs
  by_cases h1 : j < 3
  · rw [if_pos h1, List.getElem?_append_left (by show j < 3; exact h1)]
  · rw [if_neg h1, List.getElem?_append_right (by show 3 ≤ j; omega)]
    by_cases h2 : j < 35
    · rw [if_pos h2, List.getElem?_append_left (by rw [bv_len, h]; show j - 3 < 32; omega)]
      rfl
    · rw [if_neg h2, List.getElem?_append_right (by rw [bv_len, h]; show 32 ≤ j - 3; omega), bv_len, h]
      congr 1
theorem Cm.setLow {c d : Cm} (hc : c.tok.length = 32) (ht : d.tok = c.tok) (hp : d.pv = c.pv) (hl : d.lv = c.lv) (hz : d.z = c.z) {o : Nat} {v : Value} (ho : o < 3) (hv : [Value.int .i64 d.r, .int .i64 d.x, .int .i64 d.e][o]? = some v) (hr : ∀ j, j < 3 → j ≠ o → [Value.int .i64 d.r, .int .i64 d.x, .int .i64 d.e][j]? = [Value.int .i64 c.r, .int .i64 c.x, .int .i64 c.e][j]?) : c.cs.toArray.setIfInBounds o v = d.cs.toArray := by
  refine arr_eq fun j => ?_
  have hd : d.tok.length = 32 := by rw [ht]; exact hc
  rw [Cm.get hd]
  by_cases h : j = o
  · subst h
    rw [Array.getElem?_setIfInBounds_self_of_lt (by rw [Cm.size hc]; omega), if_pos ho, hv]
  · rw [Array.getElem?_setIfInBounds_ne (by omega), Cm.get hc]
    by_cases h1 : j < 3
    · rw [if_pos h1, if_pos h1, hr j h1 h]
    · rw [if_neg h1, if_neg h1, ht, hp, hl, hz]
theorem Cm.setHigh {c d : Cm} (hc : c.tok.length = 32) (ht : d.tok = c.tok) (hr : d.r = c.r) (hx : d.x = c.x) (he : d.e = c.e) {o : Nat} {v : Value} (ho : o < 3) (hv : [d.pv, d.lv, .int .i64 d.z][o]? = some v) (hn : ∀ j, j ≠ o → [d.pv, d.lv, Value.int .i64 d.z][j]? = [c.pv, c.lv, Value.int .i64 c.z][j]?) : c.cs.toArray.setIfInBounds (35 + o) v = d.cs.toArray := by
  refine arr_eq fun j => ?_
  have hd : d.tok.length = 32 := by rw [ht]; exact hc
  rw [Cm.get hd]
  by_cases h : j = 35 + o
  · subst h
    rw [Array.getElem?_setIfInBounds_self_of_lt (by rw [Cm.size hc]; omega), if_neg (by omega), if_neg (by omega), show 35 + o - 35 = o by omega, hv]
  · rw [Array.getElem?_setIfInBounds_ne (by omega), Cm.get hc]
    by_cases h1 : j < 3
    · rw [if_pos h1, if_pos h1, hr, hx, he]
    · rw [if_neg h1, if_neg h1]
      by_cases h2 : j < 35
      · rw [if_pos h2, if_pos h2, ht]
      · rw [if_neg h2, if_neg h2, hn _ (by omega)]
theorem Cm.setTok {c d : Cm} (hc : c.tok.length = 32) (hd : d.tok.length = 32) (hr : d.r = c.r) (hx : d.x = c.x) (he : d.e = c.e) (hp : d.pv = c.pv) (hl : d.lv = c.lv) (hz : d.z = c.z) : setL c.cs.toArray 3 (bv d.tok).toArray.toList = d.cs.toArray := by
  refine arr_eq fun j => ?_
  have hlen : (bv d.tok).toArray.toList.length = 32 := by show (bv d.tok).length = 32; rw [bv_len]; exact hd
  rw [setL_get _ _ _ _ (by rw [hlen, Cm.size hc]; omega), hlen, Cm.get hd, Cm.get hc]
  by_cases h1 : j < 3
  · rw [if_neg (by omega), if_pos h1, if_pos h1, hr, hx, he]
  · by_cases h2 : j < 35
    · rw [if_pos (by omega), if_neg h1, if_pos h2]
    · rw [if_neg (by omega), if_neg h1, if_neg h2, if_neg h1, if_neg h2, hp, hl, hz]
theorem Txv.size {t : Txv} (h : t.c.tok.length = 32) : t.cs.toArray.size = 43 := by rw [List.size_toArray]; exact Txv.len h
theorem Txv.get {t : Txv} (j : Nat) : t.cs.toArray[j]? = if j < 5 then [Value.int .i64 t.k, .int .i64 t.f, t.nv, t.av, t.hv][j]? else t.c.cs.toArray[j - 5]? := by
  rw [List.getElem?_toArray, List.getElem?_toArray]
  unfold Txv.cs
  by_cases h1 : j < 5
  · rw [if_pos h1, List.getElem?_append_left (by show j < 5; exact h1)]
  · rw [if_neg h1, List.getElem?_append_right (by show 5 ≤ j; omega)]
    rfl
theorem Txv.setLow {t u : Txv} (ht : t.c.tok.length = 32) (hcu : u.c = t.c) {o : Nat} {v : Value} (ho : o < 5) (hv : [Value.int .i64 u.k, .int .i64 u.f, u.nv, u.av, u.hv][o]? = some v) (hn : ∀ j, j < 5 → j ≠ o → [Value.int .i64 u.k, .int .i64 u.f, u.nv, u.av, u.hv][j]? = [Value.int .i64 t.k, .int .i64 t.f, t.nv, t.av, t.hv][j]?) : t.cs.toArray.setIfInBounds o v = u.cs.toArray := by
  refine arr_eq fun j => ?_
  rw [Txv.get (t := u)]
  by_cases h : j = o
  · subst h
    rw [Array.getElem?_setIfInBounds_self_of_lt (by rw [Txv.size ht]; omega), if_pos ho, hv]
  · rw [Array.getElem?_setIfInBounds_ne (by omega), Txv.get]
    by_cases h1 : j < 5
    · rw [if_pos h1, if_pos h1, hn j h1 h]
    · rw [if_neg h1, if_neg h1, hcu]
theorem Txv.setC {t u : Txv} (ht : t.c.tok.length = 32) (hu : u.c.tok.length = 32) (hk : u.k = t.k) (hf : u.f = t.f) (hn : u.nv = t.nv) (ha : u.av = t.av) (hh : u.hv = t.hv) : setL t.cs.toArray 5 u.c.cs.toArray.toList = u.cs.toArray := by
  refine arr_eq fun j => ?_
  have hlen : u.c.cs.toArray.toList.length = 38 := by show u.c.cs.length = 38; exact Cm.len hu
  rw [setL_get _ _ _ _ (by rw [hlen, Txv.size ht]; omega), hlen, Txv.get (t := u), Txv.get]
  by_cases h1 : j < 5
  · rw [if_neg (by omega), if_pos h1, if_pos h1, hk, hf, hn, ha, hh]
  · by_cases h2 : j < 43
    · rw [if_pos (by omega), if_neg h1, ← Array.getElem?_toList]
    · rw [if_neg (by omega), if_neg h1, if_neg h1, List.getElem?_toArray, List.getElem?_toArray, List.getElem?_eq_none (by rw [Cm.len ht]; omega), List.getElem?_eq_none (by rw [Cm.len hu]; omega)]
end Go.Proofs.Ytpdenhmkpiafiaa
namespace Go.Proofs.Ytpdenhmkpiafiaa
open Go Go.RowKit K6
structure PureL (X : LfK) : Prop where
  i : I64 X.1
  t : I64 X.2.1
  a : X.2.2.1 < M
  h : HsOk X.2.2.2
theorem SA.byy {w : World} {lo hi g : Nat} {e : Int} {xs : List Int} (h : SA w lo hi g e xs) : By xs := h.2.2.2.1
theorem gV_I64 (most : Int) (s : St) : I64 (((gV most s).1 : Nat) : Int) := ⟨by omega, by have := gV_lt (most := most) (s := s); omega⟩
theorem gPr_ok {s : St} (h : By s.2) : HsOk (gPr s).1 := gHs_ok _ (gV_by h)
theorem gLf_pure {s : St} (h : By s.2) : PureL (gLf s).1 := by
  unfold gLf rSeq gN
  simp only
  exact ⟨gV_I64 _ _, gV_I64 _ _, gA_lt (gV_by (gV_by h)), gPr_ok (gA_by (gV_by (gV_by h)))⟩
def OL (w : World) (b : Nat) (v : Value) (K : List LfK) : Prop := ∃ l, Lo w b v l ∧ l.map Lf.key = K
theorem OL.nil (w : World) (b : Nat) : OL w b (.slice none 0 0) [] := ⟨[], Lo.nil w b, rfl⟩
theorem OL.own {w : World} {b : Nat} {v : Value} {K : List LfK} (h : OL w b v K) : ∃ zs, w.ownsRow b 198 7 v K.length zs := by
  obtain ⟨l, h, rfl⟩ := h
  exact ⟨_, by rw [List.length_map]; exact h.1⟩
theorem Lo.push2 {w w' : World} {base : Nat} {v v' : Value} {l : List Lf} {x : Lf} (h : Lo w base v l) (hT : Tr (fun c => v.ownBlock = some c) w w') (ho : w'.ownsRow base 198 7 v' (l.length + 1) (l.flatMap lfc ++ lfc x))
    (hv : v'.ownBlock = v.ownBlock ∨ v'.ownBlock = some (w.heap.size + 1)) (he : LfIn w base v x) : Lo w' base v' (l ++ [x]) :=
  h.push (lo := w.heap.size + 1) (hi := w.heap.size + 2) hT ho (by rcases hv with hv | hv; exact .inl hv; exact .inr ⟨hv, Nat.lt_succ_self _⟩) (Nat.le_succ _) he
def LfQ (w : World) (lo hi g : Nat) (X : LfK) (e3 : Int) (x3 : List Int) (r : Ending) (w' : World) : Prop := ∃ (i t y0 y1 y2 y3 : Int) (q : Option Addr) (n c : Nat) (x : Lf), x.key = X ∧ (lfc x).toArray = #[.int .i64 i, .int .i64 t, .int .u64 y0, .int .u64 y1, .int .u64 y2, .int .u64 y3, .slice q n c] ∧ r = .returned (.agg #[.int .i64 i, .int .i64 t, .int .u64 y0, .int .u64 y1, .int .u64 y2, .int .u64 y3, .slice q n c]) ∧ Oh w' w.heap.size x.pv x.p ∧ SA w' lo hi g e3 x3 ∧ Tr (fun b => b = g) w w'
theorem LfP.q {w : World} {lo hi g : Nat} {X : LfK} {e3 : Int} {x3 : List Int} {r : Ending} {w' : World} (h : LfP w lo hi g X e3 x3 r w') : LfQ w lo hi g X e3 x3 r w' := by
  obtain ⟨x, hk, hr, ho, hs, ht⟩ := h
  obtain ⟨y0, y1, y2, y3, hW⟩ : ∃ y0 y1 y2 y3 : Int, W4 x.a = #[.int .u64 y0, .int .u64 y1, .int .u64 y2, .int .u64 y3] := ⟨_, _, _, _, rfl⟩
  have hL : (lfc x).toArray = #[.int .i64 x.i, .int .i64 x.t, .int .u64 y0, .int .u64 y1, .int .u64 y2, .int .u64 y3, .slice x.pq x.p.length x.pc] := by unfold lfc Lf.pv; rw [hW]; rfl
  exact ⟨x.i, x.t, y0, y1, y2, y3, x.pq, x.p.length, x.pc, x, hk, hL, by rw [hr, hL], ho, hs, ht⟩
theorem tr_cells7 {X : Nat → Prop} {w : World} {b : Nat} {u0 u1 u2 u3 u4 u5 u6 : Value} (h : X b) : Tr X w (((((((w.setCell ⟨b, 0, none⟩ u0).setCell ⟨b, 1, none⟩ u1).setCell ⟨b, 2, none⟩ u2).setCell ⟨b, 3, none⟩ u3).setCell ⟨b, 4, none⟩ u4).setCell ⟨b, 5, none⟩ u5).setCell ⟨b, 6, none⟩ u6) :=
  (tr_cell (p := ⟨b, 0, none⟩) h).trans ((tr_cell (p := ⟨b, 1, none⟩) h).trans ((tr_cell (p := ⟨b, 2, none⟩) h).trans ((tr_cell (p := ⟨b, 3, none⟩) h).trans ((tr_cell (p := ⟨b, 4, none⟩) h).trans ((tr_cell (p := ⟨b, 5, none⟩) h).trans (tr_cell (p := ⟨b, 6, none⟩) h))))))
theorem row_cells7 {w : World} {b t : Nat} {v0 v1 v2 v3 v4 v5 v6 u0 u1 u2 u3 u4 u5 u6 : Value} (h : Row w b t #[v0, v1, v2, v3, v4, v5, v6]) : Row (((((((w.setCell ⟨b, 0, none⟩ u0).setCell ⟨b, 1, none⟩ u1).setCell ⟨b, 2, none⟩ u2).setCell ⟨b, 3, none⟩ u3).setCell ⟨b, 4, none⟩ u4).setCell ⟨b, 5, none⟩ u5).setCell ⟨b, 6, none⟩ u6) b t #[u0, u1, u2, u3, u4, u5, u6] :=
  Row.congr (Row.set (Row.set (Row.set (Row.set (Row.set (Row.set (Row.set h 0 u0) 1 u1) 2 u2) 3 u3) 4 u4) 5 u5) 6 u6) (by kernel_rfl)
set_option maxRecDepth 100000 in
set_option maxHeartbeats 64000000 in
theorem clos250_at {w : World} {lo hi g bx : Nat} {e e1 : Int} {xs x1 : List Int} {X : LfK} (h : SA w lo hi g e xs) (hhi : hi ≤ w.heap.size) (hbx : bx < w.heap.size) (hc : w.cell? ⟨bx, 0, none⟩ = some (.pointer (some ⟨g, 0, none⟩))) (hg : gLf (e, xs) = (X, e1, x1)) :
    Calls Try.prog 250 #[.pointer (some ⟨bx, 0, none⟩)] w (LfQ w lo hi g X e1 x1) := by
  have hA : Below w.heap.size w (w.alloc (.cells #[.int .i64 0, .int .i64 0, .int .u64 0, .int .u64 0, .int .u64 0, .int .u64 0, .slice none 0 0] 198)) := (Below.refl _ _).alloc (Nat.le_refl _) _
  have r0 : Row (w.alloc (.cells #[.int .i64 0, .int .i64 0, .int .u64 0, .int .u64 0, .int .u64 0, .int .u64 0, .slice none 0 0] 198)) w.heap.size 198 (#[.int .i64 0, .int .i64 0, .int .u64 0, .int .u64 0, .int .u64 0, .int .u64 0, .slice none 0 0]) := Row.new_at rfl
  have hgh : g < w.heap.size := Nat.lt_of_lt_of_le h.2.1 hhi
  have k1 := Lib.hid ((getLeaf_at (h.below hA) (Nat.le_trans hhi hA.size) hg).mono fun _ _ hh => hh.q)
  have cb := (World.cell?_of_block (hA.block bx hbx)).trans hc
  have H0 := Lib.hid (show _ ∧ _ from ⟨hA, r0⟩)
  clear h hA r0 hg hc
  go_enter Try.func250, Try.ntmps250
  go_wp2_with fail
  refine k1.out.mono ?_
  rintro r w1 ⟨li, lt, y0, y1, y2, y3, q, n, c, x, hk, hcx, rfl, ho, hs, ht⟩
  have r1 := K6.Row.tr H0.out.2 ht (by omega)
  have ht0 := (Tr.of H0.out.1 : Tr (fun b => b = g) w _).trans ht
  have c0 := r1.cell 0
  have c1 := r1.cell 1
  have c2 := r1.cell 2
  have c3 := r1.cell 3
  have c4 := r1.cell 4
  have c5 := r1.cell 5
  have c6 := r1.cell 6
  have f0 := r1.frozen 0
  have f1 := r1.frozen 1
  have f2 := r1.frozen 2
  have f3 := r1.frozen 3
  have f4 := r1.frozen 4
  have f5 := r1.frozen 5
  have f6 := r1.frozen 6
  have ho' := own_base ho (show w.heap.size + 1 ≤ (w.alloc (.cells #[.int .i64 0, .int .i64 0, .int .u64 0, .int .u64 0, .int .u64 0, .int .u64 0, .slice none 0 0] 198)).heap.size by simp)
  have H1 := Lib.hid (show _ ∧ _ ∧ _ ∧ _ ∧ _ ∧ _ from ⟨ho', hs, ht0, r1, hk, hcx⟩)
  clear k1 ho ho' hs ht ht0 r1 hk hcx H0 cb
  go_wp2_with fail
  refine bodyPost_ret (results_c rfl aggT198 rfl (row_cells7 H1.out.2.2.2.1) rfl) rfl ?_
  have hT := tr_cells7 (X := fun b => b = w.heap.size) (w := w1) (b := w.heap.size) (u0 := .int .i64 li) (u1 := .int .i64 lt) (u2 := .int .u64 y0) (u3 := .int .u64 y1) (u4 := .int .u64 y2) (u5 := .int .u64 y3) (u6 := .slice q n c) rfl
  exact ⟨li, lt, y0, y1, y2, y3, q, n, c, x, H1.out.2.2.2.2.1, H1.out.2.2.2.2.2, rfl, own_base (own_tr H1.out.1 hT (fun b hb hx => by have hx' : b = w.heap.size := hx; have h1 := (own_lt H1.out.1 b hb).1; omega)) (Nat.le_succ _), H1.out.2.1.keep hT (fun b _ h2 hx => by have hx' : b = w.heap.size := hx; omega), H1.out.2.2.1.trans_new hT (fun b hb hlt => by have hb' : b = w.heap.size := hb; omega)⟩
set_option maxRecDepth 100000 in
set_option maxHeartbeats 64000000 in
theorem manyL_at {w : World} {lo hi g : Nat} {e : Int} {xs : List Int} (h : SA w lo hi g e xs) (hhi : hi ≤ w.heap.size) (n : Nat) (hn : n ≤ 1000) {bx : Nat} (hbx : bx < w.heap.size) (hbg : bx ≠ g) (hc : w.cell? ⟨bx, 0, none⟩ = some (.pointer (some ⟨g, 0, none⟩))) {LX : List LfK} {e3 : Int} {x3 : List Int} (hg : gMany gLf n (e, xs) = (LX, e3, x3)) :
    Calls Try.prog 249 #[.pointer (some ⟨g, 0, none⟩), .int .i64 (n : Int), .func (.func 250) #[] #[.pointer (some ⟨bx, 0, none⟩)]] w (ManP OL w lo hi g LX e3 x3) := by
  have hgh : g < hi := h.2.1
  obtain ⟨B, hB⟩ : ∃ B, w.heap.size = B := ⟨_, rfl⟩
  have H0 : ManyI gLf OL w w lo hi g B (.slice none 0 0) 0 n LX e3 x3 e xs [] := ⟨OL.nil _ _, h, Tr.refl _ _, MI.start hg, rfl, by omega⟩
  replace H0 := Lib.hid H0
  clear h hg
  go_enter Try.func249, Try.ntmps249
  go_wp2_with fail
  go_loopg [7, 9] n (fun gg s7 s9 wr => ∃ (i : Nat) (es : Int) (ys : List Int) (K : List LfK), i + gg = n ∧ s9 = .int .i64 (i : Int) ∧ Hid (ManyI gLf OL w wr lo hi g B s7 i gg LX e3 x3 es ys K))
  case atStart => exact ⟨0, e, xs, [], by omega, rfl, H0⟩
  case round =>
    clear H0
    obtain ⟨i, es, ys, K, him, rfl, hinv⟩ := hrel
    obtain ⟨zs0, hzs0⟩ := hinv.out.own.own
    obtain ⟨q0, c0, hv0⟩ := own_sl hzs0
    rw [hinv.out.len] at hv0
    subst hv0
    clear hzs0
    by_cases hi' : i < n
    · obtain ⟨gn, rfl⟩ : ∃ gn, gk = gn + 1 := ⟨gk - 1, by omega⟩
      have hlt : (i : Int) < (n : Int) := by omega
      have er := Lib.hid (err_at hinv.out.src)
      by_cases hes : es = 0
      · subst hes
        obtain ⟨own, src, tr, mi, hlen, hsz⟩ := hinv.out
        clear hinv
        obtain ⟨a, e4, y4, hg4⟩ := tri (gLf (0, ys))
        have hgo := hg4
        have hpu := gLf_pure (s := (0, ys)) src.byy
        rw [hg4] at hpu
        simp only at hpu
        have ka := Lib.hid (clos250_at src (by omega) (by omega) (tr_old tr hbx hbg hc) hg4)
        have mi' := Lib.hid (mi.step hgo)
        have HO := Lib.hid (show _ ∧ _ ∧ _ ∧ _ from ⟨own, tr, hlen, hsz⟩)
        clear own src tr mi hlen hsz hg4 hgo
        go_wp2_with fail
        refine er.out.mono ?_
        rintro r w8 ⟨rfl, rfl⟩
        clear er
        go_wp2_with fail
        refine ka.out.mono ?_
        rintro r w9 ⟨li, lt, y0, y1, y2, y3, q, n', c, x, hk, hcx, rfl, hox, hs9, ht9⟩
        obtain ⟨own, tr, hlen, hsz⟩ := HO.out
        clear HO ka
        obtain ⟨l, hLo, hlK⟩ := own
        have hll : l.length = i := by rw [← hlen, ← hlK, List.length_map]
        have hlt0 := fun b hb => own_lt hLo.1 b hb
        have hLo9 := hLo.keep ht9 (fun b hb hc => by have hc' : b = g := hc; omega)
        have hsz9 := Nat.le_trans hsz ht9.size
        obtain ⟨v', w', hrun, ho, hT, hv'⟩ := app_step appT112 (cs := #[.int .i64 li, .int .i64 lt, .int .u64 y0, .int .u64 y1, .int .u64 y2, .int .u64 y3, .slice q n' c]) hLo9.1 rfl (by kernel_rfl) (by omega) hsz9
        have hlt9 := fun b hb => (own_lt hLo9.1 b hb).1
        have hin : LfIn w9 B (.slice q0 i c0) x := ⟨⟨hox.hs (by have := hpu.h; rw [← hk] at this; exact this), by have := hpu.h; rw [← hk] at this; exact this, by have := hpu.a; rw [← hk] at this; exact this, by have := hpu.i; rw [← hk] at this; exact this, by have := hpu.t; rw [← hk] at this; exact this⟩, fun b hb => by
          have h1 := own_lt hox b hb
          exact ⟨by omega, h1.2, fun hv => by have := (hlt0 b hv).2; omega⟩⟩
        have hpush := hLo9.push2 hT (by have h := ho; rw [← hcx] at h; exact h) hv' hin
        have H := Lib.hid (show ManyI gLf OL w w' lo hi g B v' (i + 1) gn LX e3 x3 e4 y4 (K ++ [a]) from ⟨⟨l ++ [x], hpush, by rw [List.map_append, hlK]; show K ++ [x.key] = _; rw [hk]⟩, hs9.keep hT (fun b h1 h2 hx => by have := hlt9 b hx; omega), (tr.trans ht9).trans_new hT (fun b hc hlt => by have := hlt9 b hc; omega), mi'.out, by rw [List.length_append, hlen]; rfl, Nat.le_trans hsz9 hT.size⟩)
        clear hLo hLo9 ho hT hs9 ht9 tr mi' hlt9 hlen hsz hsz9 hpush hin hox hk hcx hlK hll hlt0 hpu hv'
        go_wp2_with (at_builtin; refine wpList_app rfl rfl rfl rfl hrun ?_)
        go_roundg gn
        case measure => omega
        case rel => exact ⟨i + 1, e4, y4, K ++ [a], by omega, by go_num, H⟩
      · have hq : (es != 0) = true := by rw [bne_iff_ne]; exact hes
        obtain ⟨rfl, rfl, rfl⟩ := hinv.out.mi.stop (.inl hes)
        go_wp2_with fail
        refine er.out.mono ?_
        rintro r w8 ⟨rfl, rfl⟩
        clear er
        go_wp2_with fail
        go_ret
        exact ⟨_, rfl, by first | exact hinv.out.own | (rw [hB]; exact hinv.out.own), hinv.out.src, hinv.out.tr⟩
    · obtain rfl : gk = 0 := by omega
      obtain rfl : i = n := by omega
      have hlt : ¬ (i : Int) < (i : Int) := by omega
      obtain ⟨rfl, rfl, rfl⟩ := hinv.out.mi.stop (.inr rfl)
      go_wp2_with fail
      go_ret
      exact ⟨_, rfl, by first | exact hinv.out.own | (rw [hB]; exact hinv.out.own), hinv.out.src, hinv.out.tr⟩
end Go.Proofs.Ytpdenhmkpiafiaa
namespace Go.Proofs.Ytpdenhmkpiafiaa.K6
open Go Go.RowKit
section
variable {P : Program} {ops : Array Oper} {md : Region.Mode} {sh : List Sh} {M : Nat → Mean} {Z : Nat → Prop} {w1 : World}
def Fact2 (ops : Array Oper) (md : Region.Mode) (sh : List Sh) (M : Nat → Mean) (listed : Array Bool) (g : Ghost) (w : World) : Prop :=
  ∀ s ∈ sh, listed.getD s.i false = true → (∀ j ∈ s.kill, j ∉ pre md ops s.i → listed.getD j false = false) → (M s.i).F g w
theorem fact2_quiet {listed : Array Bool} {g : Ghost} {w : World} (S : St sh M Z w1) (hC : Cl md ops sh) (I : Inv ops md sh M w1 listed g w) (J : Fact2 ops md sh M listed g w) {i : Nat} (hun : listed.getD i false = false)
    (hi : spOf sh i = none) (x : GV) : Fact2 ops md sh M (listed.setIfInBounds i true) (gput g i x) w := by
  have hsi : ∀ s ∈ sh, s.i ≠ i := fun s hs e => by
    have : spOf sh i ≠ none := by
      unfold spOf
      intro h
      have := List.find?_eq_none.1 h s hs
      simp [e] at this
    exact this hi
  intro s hs hl hk
  rw [getD_set_other (hsi s hs)] at hl
  refine S.depF s hs g _ (fun x hx => gput_ne ?_) w (J s hs hl fun j hj hjp => ?_)
  · rcases hx with rfl | hx
    · exact hsi s hs
    · rintro rfl
      have := listed_pre I.shut hl (hC.1 s hs x hx).2
      rw [hun] at this
      cases this
  · have := hk j hj hjp
    by_cases hji : j = i
    · subst hji; exact hun
    · rwa [getD_set_other hji] at this
theorem fact2_step {listed : Array Bool} {g : Ghost} {w w' : World} (S : St sh M Z w1) (hC : Cl md ops sh) (I : Inv ops md sh M w1 listed g w) (J : Fact2 ops md sh M listed g w) {o : Oper} {s : Sh} {i : Nat} (hs : spOf sh i = some s) (ho : ops[i]? = some o) (hun : listed.getD i true = false)
    (hall : ∀ e ∈ o.after, Region.binds md e = true → listed.getD e.on false = true) (v : Value) (hL : Left M s g w v w') : Fact2 ops md sh M (listed.setIfInBounds i true) (gput g i ⟨v, w.heap.size, w'.heap.size⟩) w' := by
  obtain ⟨hmem, rfl⟩ := spOf_spec hs
  obtain ⟨hV, hT, hF⟩ := hL
  have hun' := getD_of_true hun
  have hXi : ∀ k ∈ s.Xi, listed.getD k false = true ∧ (spOf sh k).isSome = true := fun k hk => by
    obtain ⟨hd, hso⟩ := hC.2.2.2.1 s hmem k hk
    obtain ⟨hne, hp⟩ := hC.1 s hmem k hd
    exact ⟨(ready_pre I.shut ho hall hp).resolve_right hne, hso⟩
  intro t ht hl hk
  by_cases hti : t.i = s.i
  · rw [hti]; exact hF
  · rw [getD_set_other hti] at hl
    have hkill : s.i ∉ t.kill := fun hm => by
      by_cases hp : s.i ∈ pre md ops t.i
      · have := listed_pre I.shut hl hp
        rw [hun'] at this
        cases this
      · have := hk _ hm hp
        rw [getD_set_self (size_of_getD hun)] at this
        cases this
    have hD : ∀ x, x = t.i ∨ x ∈ t.D → x ≠ s.i := fun x hx => by
      rcases hx with rfl | hx
      · exact hti
      · rintro rfl
        have := listed_pre I.shut hl (hC.1 t ht _ hx).2
        rw [hun'] at this
        cases this
    have hF0 := J t ht hl fun j hj hjp => by
      have := hk j hj hjp
      by_cases hji : j = s.i
      · subst hji; exact hun'
      · rwa [getD_set_other hji] at this
    refine S.depF t ht g _ (fun x hx => gput_ne (hD x hx)) w' (S.loc t ht g w w' hF0 (hT.mono fun b hb hX hLb => ?_))
    have hsep := (S.sep t ht s hmem hti).resolve_left hkill
    rcases hX with hx | ⟨k, hkx, h1, h2⟩
    · rcases hLb with hany | hLo | ⟨k, hk, h1, h2⟩
      · exact (hsep.2 hany).1 b hx
      · exact hsep.1 b hLo hx
      · have hlt := (S.xo s hmem b hx).2.2
        obtain ⟨hkD, hks⟩ := hC.2.2.2.2.1 t ht k hk
        have hkl : listed.getD k false = true := by
          rcases hkD with rfl | hkD
          · exact hl
          · exact listed_pre I.shut hl (hC.1 t ht _ hkD).2
        have := (I.ok.1 k hkl hks).1
        omega
    · obtain ⟨hxl, hxs⟩ := hXi k hkx
      rcases hLb with hany | hLo | ⟨m, hm, h3, h4⟩
      · rw [(hsep.2 hany).2] at hkx; cases hkx
      · have hlt := S.lo t ht b hLo
        have := (I.ok.1 k hxl hxs).1
        omega
      · obtain ⟨hmD, hms⟩ := hC.2.2.2.2.1 t ht m hm
        have hml : listed.getD m false = true := by
          rcases hmD with rfl | hmD
          · exact hl
          · exact listed_pre I.shut hl (hC.1 t ht _ hmD).2
        have hne : m ≠ k := fun e => by
          subst e
          exact ((hC.2.2.2.2.2 t ht s hmem hti).resolve_left hkill) m hm hkx
        have := I.ok.2 m k hml hxl hms hxs hne
        omega
theorem wpAny_of_S2 (S : St sh M Z w1) (hC : Cl md ops sh) {Q : Ghost → Act → Prop} {Q' : Exit → Act → World → Prop}
    (hQ : ∀ g a, Q g a → ∀ w listed, Inv ops md sh M w1 listed g w → Fact2 ops md sh M listed g w → (∀ j, j < ops.size → listed.getD j false = true) → Q' .normal a w) : ∀ (fuel : Nat) (listed : Array Bool) (g : Ghost) (a : Act),
    wpAnyS P ops md sh M Z w1 Q fuel listed g a → ∀ w, Inv ops md sh M w1 listed g w → Fact2 ops md sh M listed g w → listed.size = ops.size → wpAny P md ops Q' fuel listed a w
  | 0, listed, g, a, h => fun w hI hJ hz => ⟨h.1, hQ _ _ h.2.2 w listed hI hJ fun j hj => (by have := h.2.1 j hj; simpa [hz, hj] using this)⟩
  | fuel + 1, listed, g, a, h => fun w hI hJ hz => by
    refine ⟨fun h0 => absurd h0 h.1, fun i hi => ?_⟩
    have hs := h.2 i hi
    obtain ⟨hun, o', ho', hall⟩ := mem_ready.1 hi
    unfold sOp at hs
    unfold wpOp
    split
    · rename_i ho; simp only [ho] at hs
    · rename_i o ho
      simp only [ho] at hs
      have hoo : o' = o := by rw [ho'] at ho; exact Option.some.inj ho
      subst hoo
      cases hsp : spOf sh i with
      | some s =>
        simp only [hsp] at hs
        rw [if_pos hs.1.1]
        refine .inl (wp_of_outS S hC hI hsp ho' hun hall hs.1 fun v w' hL => ?_)
        have hst := hI.step S hC hsp ho' hun hall v hL
        have hst2 := fact2_step S hC hI hJ hsp ho' hun hall v hL
        have hi' := (spOf_spec hsp).2
        exact wpAny_of_S2 S hC hQ fuel _ _ _ (hs.2 ⟨v, w.heap.size, w'.heap.size⟩ hI.tr.size hL.2.1.size (by rw [← hi']; exact hL.1)) w' hst hst2 (by simpa using hz)
      | none =>
        simp only [hsp] at hs
        obtain ⟨v, hy, hK⟩ := hs
        have hq := hI.quiet S hC ho' (getD_of_true hun) hall hsp ⟨v, 0, 0⟩
        have hq2 := fact2_quiet S hC hI hJ (getD_of_true hun) hsp ⟨v, 0, 0⟩
        rcases hy with ⟨hw, hr⟩ | ⟨hw, rfl⟩
        · rw [if_pos hw]
          refine .inl ?_
          unfold Oper.wp
          rw [hr w (hI.kn S (getD_of_true hun))]
          exact wpAny_of_S2 S hC hQ fuel _ _ _ hK w hq hq2 (by simpa using hz)
        · rw [if_neg (by simp [hw])]
          exact wpAny_of_S2 S hC hQ fuel _ _ _ hK w hq hq2 (by simpa using hz)
def After2 (ops : Array Oper) (sh : List Sh) (M : Nat → Mean) (Z : Nat → Prop) (w1 : World) (n : Nat) (R : Act → World → Prop) (g : Ghost) (a : Act) : Prop :=
  ∀ w', Tr Z w1 w' → GOk sh w1 (· < n) g w'.heap.size → (∀ i s, spOf sh i = some s → (s.kill.all fun j => (pre .any ops i).contains j) = true → i < n → (M i).F g w') → R a w'
theorem wpAny_six2 {Q : Exit → Act → World → Prop} {a : Act} {l : List Oper} (hB : lex6 .any l.toArray sh = true) (S : St sh M Z w1)
    (h : ∀ QQ : Ghost → Act → Prop, (∀ g a', After2 l.toArray sh M Z w1 l.length (fun a w => Q .normal a w) g a' → QQ g a') → wpS P l.toArray .any sh M Z w1 QQ 0 l (fun _ => ⟨undef, 0, 0⟩) a) :
    wpAny P .any l.toArray Q l.toArray.size (Array.replicate l.toArray.size false) a w1 := by
  simp only [lex6, Bool.and_eq_true, decide_eq_true_eq] at hB
  have hno : ∀ k, (Array.replicate l.toArray.size false).getD k false = true → False := fun k hk => by
    rw [Array.getD_eq_getD_getElem?, Array.getElem?_replicate] at hk
    split at hk <;> cases hk
  have h1 := wpAnyS_lex (md := .any) S hB.2 hB.1.1 l 0 (Array.replicate l.toArray.size false) (fun _ => ⟨undef, 0, 0⟩) a (by simp) (fun k hk => (hno k hk).elim) (by simpa using hB.1.2) (h _ fun _ _ h => h)
  have := wpAny_of_S2 S hB.2 (Q' := Q) (fun g a h w listed I J hall => h w (I.tr.mono fun b _ ⟨s, hs, _, hx⟩ => (S.xo s hs b hx).2.1)
    ⟨fun k hk hsk => I.ok.1 k (hall k (by simpa using hk)) hsk, fun j k hj hk hsj hsk hjk => I.ok.2 j k (hall j (by simpa using hj)) (hall k (by simpa using hk)) hsj hsk hjk⟩
    fun i s hs hk hlt => (spOf_spec hs).2 ▸ J s (spOf_spec hs).1 (by rw [(spOf_spec hs).2]; exact hall _ (by simpa using hlt)) fun j hj hjp => by
      have := List.all_eq_true.1 hk j hj
      rw [(spOf_spec hs).2] at hjp
      exact absurd (by simpa using this) hjp) _ _ _ _ h1 w1
    ⟨Tr.refl _ _, fun k hk => (hno k hk).elim, ⟨fun k hk => (hno k hk).elim, fun j k hj => (hno j hj).elim⟩, fun s _ hl => (hno _ hl).elim⟩ (fun s _ hl => (hno _ hl).elim) (by simp)
  simpa using this
theorem wp_region_sixB {id : Nat} {Q : Exit → Act → World → Prop} {a : Act} {w : World} {l : List Oper} (sh : List Sh) (M : Nat → Mean) (Z : Nat → Prop) (hm : P.follows .mixedOrders = true) (hB : lex6 .any l.toArray sh = true)
    (S : St sh M Z w.drew)
    (h : ∀ QQ : Ghost → Act → Prop, (∀ g a', After2 l.toArray sh M Z w.drew l.length (fun a w => Q .normal a w) g a' → QQ g a') → wpS P l.toArray .any sh M Z w.drew QQ 0 l (fun _ => ⟨undef, 0, 0⟩) a) : (Code.region id l.toArray true).wp P Q a w :=
  wp_region_any hm (wpAny_six2 hB S h)
end
def sepB2 (sh : List Sh) (pr : List (Nat × Nat)) : Bool := sh.all fun s => (!s.any && !s.l) || sh.all fun t => !isX t || t.i == s.i || s.kill.contains t.i || (!s.any && pr.contains (s.i, t.i))
theorem mk_St2 {w1 : World} {Z : Nat → Prop} (l : List Sp) (pr : List (Nat × Nat)) (h1 : onceB l = true) (h2 : sepB2 (shs l) pr = true) (h : AllOk w1 Z l)
    (h3 : ∀ p ∈ pr, ∀ b, (look6 l p.1).Lo b → ¬ (look6 l p.2).Xo b) : St (shs l) (look6 l) Z w1 := by
  have hm : ∀ s ∈ shs l, ∃ m, (s, m) ∈ l ∧ look6 l s.i = m := fun s hs => by
    obtain ⟨⟨s', m⟩, hp, rfl⟩ := List.mem_map.1 hs
    exact ⟨m, hp, look_mem h1 _ hp⟩
  have hx : ∀ s ∈ shs l, isX s = false → (∀ b, ¬ (look6 l s.i).Xo b) ∧ s.Xi = [] := fun s hs he => by
    obtain ⟨m, hp, hl⟩ := hm s hs
    simp only [isX, Bool.or_eq_false_iff, Bool.not_eq_false', List.isEmpty_iff] at he
    refine ⟨fun b hb => ?_, he.2⟩
    rw [hl] at hb
    have := ((h.mem _ hp).xo b hb).1
    simp only at this
    rw [he.1] at this
    cases this
  refine ⟨fun s hs => ?_, fun s hs => ?_, fun s hs => ?_, fun s hs => ?_, fun s hs => ?_, fun s hs => ?_, fun s hs t ht hne => ?_⟩
  · obtain ⟨m, hp, hl⟩ := hm s hs; rw [hl]; exact (h.mem _ hp).some_
  · obtain ⟨m, hp, hl⟩ := hm s hs; rw [hl]; exact (h.mem _ hp).depV
  · obtain ⟨m, hp, hl⟩ := hm s hs; rw [hl]; exact (h.mem _ hp).depF
  · obtain ⟨m, hp, hl⟩ := hm s hs
    unfold LL
    rw [hl]; exact (h.mem _ hp).loc
  · obtain ⟨m, hp, hl⟩ := hm s hs; rw [hl]; exact (h.mem _ hp).xo
  · obtain ⟨m, hp, hl⟩ := hm s hs; rw [hl]; exact fun b hb => ((h.mem _ hp).lo b hb).2
  · have hs2 := List.all_eq_true.1 h2 s hs
    cases ht' : isX t with
    | false =>
      obtain ⟨h5, h6⟩ := hx t ht ht'
      exact .inr ⟨fun b _ => h5 b, fun _ => ⟨h5, h6⟩⟩
    | true =>
      simp only [Bool.or_eq_true, Bool.and_eq_true] at hs2
      rcases hs2 with ⟨hna, hnl⟩ | hk
      · obtain ⟨m, hp, hl⟩ := hm s hs
        refine .inr ⟨fun b hb => ?_, fun ha => by rw [ha] at hna; cases hna⟩
        rw [hl] at hb
        have := ((h.mem _ hp).lo b hb).1
        simp only at this
        rw [this] at hnl
        cases hnl
      · have := List.all_eq_true.1 hk t ht
        simp only [ht', Bool.not_true, Bool.false_or, Bool.or_eq_true, Bool.and_eq_true, beq_iff_eq] at this
        rcases this with (h5 | h5) | ⟨h5, h6⟩
        · exact absurd h5.symm hne
        · exact .inl (by simpa using h5)
        · exact .inr ⟨h3 (s.i, t.i) (by simpa using h6), fun ha => by rw [ha] at h5; cases h5⟩
end Go.Proofs.Ytpdenhmkpiafiaa.K6
namespace Go.Proofs.Ytpdenhmkpiafiaa
open Go Go.RowKit K6
namespace K6
def sU (i : Nat) (D use kill : List Nat) (G : Nat) (Lo : Nat → Prop) (p : GV → Prop) (f : GV → World → Prop) : Sp := (⟨i, D, use, kill, [], [i], false, true, true⟩, ⟨fun _ x => p x, fun g w => f (g i) w, (· = G), Lo⟩)
theorem ok_U {w1 : World} {Z : Nat → Prop} {i : Nat} {D use kill : List Nat} {G : Nat} {Lo : Nat → Prop} {p : GV → Prop} {f : GV → World → Prop} (hp : ∃ x : GV, w1.heap.size ≤ x.lo ∧ x.lo ≤ x.hi ∧ p x) (hl : ∀ (x : GV) w w', f x w → Tr (fun b => ¬ (Lo b ∨ (x.lo ≤ b ∧ b < x.hi))) w w' → f x w') (hG : G < w1.heap.size) (hz : Z G) (hLo : ∀ b, Lo b → b < w1.heap.size) : OpOk w1 Z (sU i D use kill G Lo p f) where
  some_ := fun _ => hp
  depV := fun _ _ _ _ h => h
  depF := fun g g' hg w h => by show f (g' i) w; rw [hg i (.inl rfl)]; exact h
  loc := fun g w w' h hT => hl _ w w' h (hT.mono fun b _ hb hx => hb (by
    rcases hx with hx | hx
    · exact .inr (.inl hx)
    · exact .inr (.inr ⟨i, by simp [sU], hx⟩)))
  xo := fun c hc => by
    have hc' : c = G := hc
    subst hc'; exact ⟨rfl, hz, hG⟩
  lo := fun c hc => ⟨rfl, hLo c hc⟩
theorem left_U {l : List Sp} {i : Nat} {D use kill : List Nat} {G : Nat} {Lo : Nat → Prop} {p : GV → Prop} {f : GV → World → Prop} {s : Sh} (hl : look6 l s.i = (sU i D use kill G Lo p f).2) (hs : s = (sU i D use kill G Lo p f).1) {g : Ghost} {w w' : World} {v : Value}
    (hp : p ⟨v, w.heap.size, w'.heap.size⟩) (ht : Tr (fun b => b = G) w w') (hf : f ⟨v, w.heap.size, w'.heap.size⟩ w') : Left (look6 l) s g w v w' := by
  unfold Left
  rw [hl]
  subst hs
  refine ⟨hp, ht.mono fun b _ hb => ?_, ?_⟩
  · show XX (look6 l) _ g b
    unfold XX
    rw [hl]
    exact .inl hb
  · show f (gput g i _ i) w'
    rw [gput_self]
    exact hf
end K6
theorem conv_emptyA (a : Addr) (c : Nat) (w : World) : (convert 33 9 (.slice (some a) 0 c)).run Try.prog w = .ok (.string (strOfNums [])) w := by
  kernel_rfl
theorem Bs.convA {w : World} {u : Value} {xs : List Int} (h : Bs w u xs) : (convert 33 9 u).run Try.prog w = .ok (.string (strOfNums xs)) w := by
  by_cases h0 : xs = []
  · obtain ⟨q, c, rfl, hn, h1⟩ := h
    subst h0
    cases q with
    | none => kernel_rfl
    | some a => exact conv_emptyA a c w
  · exact h.conv h0
def ObF (I : World → Prop) (L : List Int) (x : GV) (w : World) : Prop := Ob w x.lo x.v L ∧ (∀ b, x.v.ownBlock = some b → b < x.hi) ∧ I w
theorem ObF.loc {I : World → Prop} {Lo : Nat → Prop} {L : List Int} (hI : ∀ w w', I w → Tr (fun b => ¬ Lo b) w w' → I w') (x : GV) (w w' : World) (h : ObF I L x w) (hT : Tr (fun b => ¬ (Lo b ∨ (x.lo ≤ b ∧ b < x.hi))) w w') : ObF I L x w' :=
  ⟨h.1.keep hT fun b hb hx => hx (.inr ⟨(h.1.lt b hb).1, h.2.1 b hb⟩), h.2.1, hI w w' h.2.2 (hT.mono fun _ _ hb hx => hb (.inl hx))⟩
theorem SA.loc {lo hi g : Nat} {e : Int} {xs : List Int} (w w' : World) (h : SA w lo hi g e xs) (hT : Tr (fun b => ¬ (lo ≤ b ∧ b < hi)) w w') : SA w' lo hi g e xs := h.keep hT fun _ h1 h2 hx => hx ⟨h1, h2⟩
end Go.Proofs.Ytpdenhmkpiafiaa
namespace Go.Proofs.Ytpdenhmkpiafiaa
open Go Go.RowKit K6
theorem info114' {Y : Array Value} (h : Y.size = 38) : (Try.prog.info? 114).map (·.size) = some Y.size := by rw [h]; kernel_rfl
theorem bvA {x : List Int} (h : x.length = 32) : (bv x).toArray.size = 32 := by rw [List.size_toArray, bv_len]; exact h
theorem bvA1 (x : List Int) : (bv x).toArray.all (·.oneCell') = true := by rw [List.all_toArray]; exact bv_all x
theorem info35' {Y : Array Value} (h : Y.size = 32) : (Try.prog.info? 35).map (·.size) = some Y.size := by rw [h]; kernel_rfl
structure CmIn (w : World) (base : Nat) (c : Cm) : Prop where
  ok : CmOk w c
  pb : ∀ b, c.pv.ownBlock = some b → base ≤ b ∧ b < w.heap.size
  lb : ∀ b, c.lv.ownBlock = some b → base ≤ b ∧ b < w.heap.size
  qb : ∀ x ∈ c.l, ∀ b, x.pv.ownBlock = some b → base ≤ b ∧ b < w.heap.size
theorem CmIn.keep {X : Nat → Prop} {w w' : World} {base : Nat} {c : Cm} (h : CmIn w base c) (hT : Tr X w w') (hX : ∀ b, base ≤ b → ¬ X b) : CmIn w' base c :=
  ⟨⟨h.ok.tok, h.ok.by_, h.ok.p.keep hT fun b hb => hX b (h.pb b hb).1, h.ok.h, ⟨h.ok.l.1.keep hT fun b hb => hX b (h.lb b hb).1, fun x hx => ⟨(h.ok.l.2 x hx).p.keep hT fun b hb => hX b (h.qb x hx b hb).1, (h.ok.l.2 x hx).h, (h.ok.l.2 x hx).a, (h.ok.l.2 x hx).i, (h.ok.l.2 x hx).t⟩⟩, h.ok.r, h.ok.x, h.ok.e, h.ok.z⟩, fun b hb => ⟨(h.pb b hb).1, Nat.lt_of_lt_of_le (h.pb b hb).2 hT.size⟩, fun b hb => ⟨(h.lb b hb).1, Nat.lt_of_lt_of_le (h.lb b hb).2 hT.size⟩, fun x hx b hb => ⟨(h.qb x hx b hb).1, Nat.lt_of_lt_of_le (h.qb x hx b hb).2 hT.size⟩⟩
theorem CmIn.base {w : World} {b b' : Nat} {c : Cm} (h : CmIn w b c) (hb : b' ≤ b) : CmIn w b' c := ⟨h.ok, fun x hx => ⟨Nat.le_trans hb (h.pb x hx).1, (h.pb x hx).2⟩, fun x hx => ⟨Nat.le_trans hb (h.lb x hx).1, (h.lb x hx).2⟩, fun y hy x hx => ⟨Nat.le_trans hb (h.qb y hy x hx).1, (h.qb y hy x hx).2⟩⟩
theorem CmIn.zero (w : World) (b : Nat) : CmIn w b cm0 := ⟨cm0_ok w, (fun _ h => (by cases h)), (fun _ h => (by cases h)), fun _ h => (by cases h)⟩
structure GC (w wx : World) (lo hi g : Nat) (es : Int) (ys : List Int) (c : Cm) : Prop where
  src : SA wx lo hi g es ys
  tr : Tr (fun b => b = g) w wx
  bx : Row wx w.heap.size 50 #[.pointer (some ⟨g, 0, none⟩)]
  r0 : Row wx (w.heap.size + 1) 114 cm0.cs.toArray
  r1 : Row wx (w.heap.size + 2) 114 c.cs.toArray
  gh : g < w.heap.size
  tk : c.tok.length = 32
theorem GC.call {w wx wy : World} {lo hi g : Nat} {es e1 : Int} {ys x1 : List Int} {c : Cm} (h : GC w wx lo hi g es ys c) (hs : SA wy lo hi g e1 x1) (ht : Tr (fun b => b = g) wx wy) : GC w wy lo hi g e1 x1 c :=
  ⟨hs, h.tr.trans ht, K6.Row.tr h.bx ht (by have := h.gh; omega), K6.Row.tr h.r0 ht (by have := h.gh; omega), K6.Row.tr h.r1 ht (by have := h.gh; omega), h.gh, h.tk⟩
theorem GC.put {w wx wy : World} {lo hi g : Nat} {es : Int} {ys : List Int} {c d : Cm} (h : GC w wx lo hi g es ys c) (hhi : hi ≤ w.heap.size) (ht : Tr (fun b => b = w.heap.size + 2) wx wy) (hr : Row wy (w.heap.size + 2) 114 d.cs.toArray) (hd : d.tok.length = 32) : GC w wy lo hi g es ys d :=
  ⟨h.src.keep ht fun b _ h2 hx => by have hx' : b = w.heap.size + 2 := hx; omega, h.tr.trans_new ht fun b hb hlt => by have hb' : b = w.heap.size + 2 := hb; omega, K6.Row.tr h.bx ht (by omega), K6.Row.tr h.r0 ht (by omega), hr, h.gh, hd⟩
def ClP (w : World) (lo hi g : Nat) (X : CmK) (e3 : Int) (x3 : List Int) (r : Ending) (w' : World) : Prop := ∃ c : Cm, c.key = X ∧ r = .returned (.agg c.cs.toArray) ∧ CmIn w' w.heap.size c ∧ SA w' lo hi g e3 x3 ∧ Tr (fun b => b = g) w w'
theorem olx_loc {lo hi g : Nat} {e8 : Int} {x8 : List Int} {LK : List LfK} (x : GV) (w w' : World) (h : (∃ l : List Lf, Lo w x.lo x.v l ∧ l.map Lf.key = LK ∧ (∀ b, x.v.ownBlock = some b → b < x.hi) ∧ ∀ y ∈ l, ∀ b, y.pv.ownBlock = some b → b < x.hi) ∧ SA w lo hi g e8 x8) (hT : Tr (fun b => ¬ ((lo ≤ b ∧ b < hi) ∨ (x.lo ≤ b ∧ b < x.hi))) w w') :
    (∃ l : List Lf, Lo w' x.lo x.v l ∧ l.map Lf.key = LK ∧ (∀ b, x.v.ownBlock = some b → b < x.hi) ∧ ∀ y ∈ l, ∀ b, y.pv.ownBlock = some b → b < x.hi) ∧ SA w' lo hi g e8 x8 := by
  obtain ⟨⟨l, hl, hk, h1, h2⟩, hs⟩ := h
  refine ⟨⟨l, ⟨own_tr hl.1 hT fun b hb hx => hx (.inr ⟨(own_lt hl.1 b hb).1, h1 b hb⟩), fun y hy => ?_⟩, hk, h1, h2⟩, hs.keep hT fun b h3 h4 hx => hx (.inl ⟨h3, h4⟩)⟩
  have hy0 := hl.2 y hy
  exact ⟨⟨hy0.1.p.keep hT fun b hb hx => hx (.inr ⟨(hy0.2 b hb).1, h2 y hy b hb⟩), hy0.1.h, hy0.1.a, hy0.1.i, hy0.1.t⟩, fun b hb => ⟨(hy0.2 b hb).1, Nat.lt_of_lt_of_le (hy0.2 b hb).2.1 hT.size, (hy0.2 b hb).2.2⟩⟩
theorem ol_sl {w : World} {b : Nat} {v : Value} {l : List Lf} {LK : List LfK} (h : Lo w b v l) (hk : l.map Lf.key = LK) : ∃ q c, v = .slice q LK.length c := by
  obtain ⟨q, c, hv⟩ := own_sl h.1
  exact ⟨q, c, by rw [hv, ← hk, List.length_map]⟩
set_option maxRecDepth 100000 in
set_option maxHeartbeats 64000000 in
theorem getClaim_at {w : World} {lo hi g : Nat} {e : Int} {xs : List Int} (h : SA w lo hi g e xs) (hhi : hi ≤ w.heap.size) {X : CmK} {e9 : Int} {x9 : List Int} (hg : gCl (e, xs) = (X, e9, x9)) :
    Calls Try.prog 227 #[.pointer (some ⟨g, 0, none⟩)] w (ClP w lo hi g X e9 x9) := by
  obtain ⟨n1, e1, x1, hg1⟩ := tri (gV 4294967295 (e, xs))
  obtain ⟨n2, e2, x2, hg2⟩ := tri (gV 4294967295 (e1, x1))
  obtain ⟨n3, e3, x3, hg3⟩ := tri (gV 4294967295 (e2, x2))
  obtain ⟨n4, e4, x4, hg4⟩ := tri (gV 4294967295 (e3, x3))
  obtain ⟨T, e5, x5, hg5⟩ := tri (gH (e4, x4))
  obtain ⟨P, e6, x6, hg6⟩ := tri (gPr (e5, x5))
  obtain ⟨n7, e7, x7, hg7⟩ := tri (gV 8 (e6, x6))
  obtain ⟨LK, e8, x8, hg8⟩ := tri (gMany gLf n7 (e7, x7))
  have hLs : gLs (e6, x6) = (LK, e8, x8) := by unfold gLs; rw [hg7]; exact hg8
  unfold gCl gClX rSeq gN at hg
  simp only [hg1, hg2, hg3, hg4, hg5, hg6, hLs, Prod.mk.injEq] at hg
  obtain ⟨rfl, rfl, rfl⟩ := hg
  have hT32 : T.length = 32 := by have h := gH_len (e4, x4); rw [hg5] at h; exact h
  have hn7 : n7 ≤ 1000 := by
    have h1 := gV_most (most := 8) (s := (e6, x6)) (by decide)
    rw [hg7] at h1
    simp only at h1
    omega
  have i1 := gV_I64 4294967295 (e, xs)
  have i2 := gV_I64 4294967295 (e1, x1)
  have i3 := gV_I64 4294967295 (e2, x2)
  have i4 := gV_I64 4294967295 (e3, x3)
  rw [hg1] at i1
  rw [hg2] at i2
  rw [hg3] at i3
  rw [hg4] at i4
  have HI := Lib.hid (show I64 (n1 : Int) ∧ I64 (n2 : Int) ∧ I64 (n3 : Int) ∧ I64 (n4 : Int) from ⟨i1, i2, i3, i4⟩)
  have hgh : g < w.heap.size := Nat.lt_of_lt_of_le h.2.1 hhi
  have hA : Below w.heap.size w (((w.alloc (.cells #[.pointer (some ⟨g, 0, none⟩)] 50)).alloc (.cells #[.int .i64 0, .int .i64 0, .int .i64 0, .int .u8 0, .int .u8 0, .int .u8 0, .int .u8 0, .int .u8 0, .int .u8 0, .int .u8 0, .int .u8 0, .int .u8 0, .int .u8 0, .int .u8 0, .int .u8 0, .int .u8 0, .int .u8 0, .int .u8 0, .int .u8 0, .int .u8 0, .int .u8 0, .int .u8 0, .int .u8 0, .int .u8 0, .int .u8 0, .int .u8 0, .int .u8 0, .int .u8 0, .int .u8 0, .int .u8 0, .int .u8 0, .int .u8 0, .int .u8 0, .int .u8 0, .int .u8 0, .slice none 0 0, .slice none 0 0, .int .i64 0] 114)).alloc (.cells #[.int .i64 0, .int .i64 0, .int .i64 0, .int .u8 0, .int .u8 0, .int .u8 0, .int .u8 0, .int .u8 0, .int .u8 0, .int .u8 0, .int .u8 0, .int .u8 0, .int .u8 0, .int .u8 0, .int .u8 0, .int .u8 0, .int .u8 0, .int .u8 0, .int .u8 0, .int .u8 0, .int .u8 0, .int .u8 0, .int .u8 0, .int .u8 0, .int .u8 0, .int .u8 0, .int .u8 0, .int .u8 0, .int .u8 0, .int .u8 0, .int .u8 0, .int .u8 0, .int .u8 0, .int .u8 0, .int .u8 0, .slice none 0 0, .slice none 0 0, .int .i64 0] 114)) := (((Below.refl _ _).alloc (Nat.le_refl _) _).alloc (by simp) _).alloc (by simp; omega) _
  have hz : #[.int .i64 0, .int .i64 0, .int .i64 0, .int .u8 0, .int .u8 0, .int .u8 0, .int .u8 0, .int .u8 0, .int .u8 0, .int .u8 0, .int .u8 0, .int .u8 0, .int .u8 0, .int .u8 0, .int .u8 0, .int .u8 0, .int .u8 0, .int .u8 0, .int .u8 0, .int .u8 0, .int .u8 0, .int .u8 0, .int .u8 0, .int .u8 0, .int .u8 0, .int .u8 0, .int .u8 0, .int .u8 0, .int .u8 0, .int .u8 0, .int .u8 0, .int .u8 0, .int .u8 0, .int .u8 0, .int .u8 0, .slice none 0 0, .slice none 0 0, .int .i64 0] = cm0.cs.toArray := by kernel_rfl
  have G0 : GC w (((w.alloc (.cells #[.pointer (some ⟨g, 0, none⟩)] 50)).alloc (.cells #[.int .i64 0, .int .i64 0, .int .i64 0, .int .u8 0, .int .u8 0, .int .u8 0, .int .u8 0, .int .u8 0, .int .u8 0, .int .u8 0, .int .u8 0, .int .u8 0, .int .u8 0, .int .u8 0, .int .u8 0, .int .u8 0, .int .u8 0, .int .u8 0, .int .u8 0, .int .u8 0, .int .u8 0, .int .u8 0, .int .u8 0, .int .u8 0, .int .u8 0, .int .u8 0, .int .u8 0, .int .u8 0, .int .u8 0, .int .u8 0, .int .u8 0, .int .u8 0, .int .u8 0, .int .u8 0, .int .u8 0, .slice none 0 0, .slice none 0 0, .int .i64 0] 114)).alloc (.cells #[.int .i64 0, .int .i64 0, .int .i64 0, .int .u8 0, .int .u8 0, .int .u8 0, .int .u8 0, .int .u8 0, .int .u8 0, .int .u8 0, .int .u8 0, .int .u8 0, .int .u8 0, .int .u8 0, .int .u8 0, .int .u8 0, .int .u8 0, .int .u8 0, .int .u8 0, .int .u8 0, .int .u8 0, .int .u8 0, .int .u8 0, .int .u8 0, .int .u8 0, .int .u8 0, .int .u8 0, .int .u8 0, .int .u8 0, .int .u8 0, .int .u8 0, .int .u8 0, .int .u8 0, .int .u8 0, .int .u8 0, .slice none 0 0, .slice none 0 0, .int .i64 0] 114)) lo hi g e xs cm0 := ⟨h.below hA, Tr.of hA, Row.alloc (Row.alloc (Row.new_at rfl) _) _, by rw [← hz]; exact Row.alloc (Row.new_at (by simp)) _, by rw [← hz]; exact Row.new_at (by simp), hgh, rfl⟩
  have cb := G0.bx.cell 0
  have k1 := Lib.hid (svar_V G0.src hg1)
  replace G0 := Lib.hid G0
  have HG := Lib.hid (show _ ∧ _ ∧ _ ∧ _ ∧ _ ∧ _ ∧ _ from ⟨hg2, hg3, hg4, hg5, hg6, hg7, hg8⟩)
  clear h hA hg1 hg2 hg3 hg4 hg5 hg6 hg7 hg8 hLs hz i1 i2 i3 i4
  go_enter Try.func227, Try.ntmps227
  go_wp2_with fail
  refine k1.out.mono ?_
  rintro r w1 ⟨rfl, hs, ht⟩
  have G1 := G0.out.call hs ht
  have c0 := (G1.r1.cell 0).trans (cA0 cm0)
  have f0 := G1.r1.frozen 0
  have HG1 := Lib.hid G1
  clear k1 G0 hs ht G1 cb
  go_upto_region 3 with (fail)
  refine wp_abs (fun wx => GC w wx lo hi g e1 x1 (⟨(n1 : Int), 0, 0, (List.replicate 32 0), none, 0, [], none, 0, [], 0⟩ : Cm)) (HG1.out.put hhi (tr_cell rfl) (Row.congr (Row.set HG1.out.r1 0 _) (Cm.setLow (c := cm0) (d := (⟨(n1 : Int), 0, 0, (List.replicate 32 0), none, 0, [], none, 0, [], 0⟩ : Cm)) rfl rfl rfl rfl rfl (o := 0) (by decide) rfl (fun j h1 h2 => by have h3 : j = 1 ∨ j = 2 := (by omega); rcases h3 with rfl | rfl <;> rfl))) rfl) ?_
  intro w2 GG1
  have cb := GG1.bx.cell 0
  have k2 := Lib.hid (svar_V GG1.src HG.out.1)
  replace GG1 := Lib.hid GG1
  clear HG1 c0 f0
  go_wp2_with fail
  refine k2.out.mono ?_
  rintro r w3 ⟨rfl, hs, ht⟩
  have G2 := GG1.out.call hs ht
  have c0 := (G2.r1.cell 1).trans (cA1 (⟨(n1 : Int), 0, 0, (List.replicate 32 0), none, 0, [], none, 0, [], 0⟩ : Cm))
  have f0 := G2.r1.frozen 1
  have HG2 := Lib.hid G2
  clear k2 GG1 hs ht G2 cb
  go_upto_region 4 with (fail)
  refine wp_abs (fun wx => GC w wx lo hi g e2 x2 (⟨(n1 : Int), (n2 : Int), 0, (List.replicate 32 0), none, 0, [], none, 0, [], 0⟩ : Cm)) (HG2.out.put hhi (tr_cell rfl) (Row.congr (Row.set HG2.out.r1 1 _) (Cm.setLow (c := (⟨(n1 : Int), 0, 0, (List.replicate 32 0), none, 0, [], none, 0, [], 0⟩ : Cm)) (d := (⟨(n1 : Int), (n2 : Int), 0, (List.replicate 32 0), none, 0, [], none, 0, [], 0⟩ : Cm)) rfl rfl rfl rfl rfl (o := 1) (by decide) rfl (fun j h1 h2 => by have h3 : j = 0 ∨ j = 2 := (by omega); rcases h3 with rfl | rfl <;> rfl))) rfl) ?_
  intro w4 GG2
  have cb := GG2.bx.cell 0
  have k3 := Lib.hid (svar_V GG2.src HG.out.2.1)
  replace GG2 := Lib.hid GG2
  clear HG2 c0 f0
  go_wp2_with fail
  refine k3.out.mono ?_
  rintro r w5 ⟨rfl, hs, ht⟩
  have G3 := GG2.out.call hs ht
  have c0 := (G3.r1.cell 2).trans (cA2 (⟨(n1 : Int), (n2 : Int), 0, (List.replicate 32 0), none, 0, [], none, 0, [], 0⟩ : Cm))
  have f0 := G3.r1.frozen 2
  have HG3 := Lib.hid G3
  clear k3 GG2 hs ht G3 cb
  go_upto_region 5 with (fail)
  refine wp_abs (fun wx => GC w wx lo hi g e3 x3 (⟨(n1 : Int), (n2 : Int), (n3 : Int), (List.replicate 32 0), none, 0, [], none, 0, [], 0⟩ : Cm)) (HG3.out.put hhi (tr_cell rfl) (Row.congr (Row.set HG3.out.r1 2 _) (Cm.setLow (c := (⟨(n1 : Int), (n2 : Int), 0, (List.replicate 32 0), none, 0, [], none, 0, [], 0⟩ : Cm)) (d := (⟨(n1 : Int), (n2 : Int), (n3 : Int), (List.replicate 32 0), none, 0, [], none, 0, [], 0⟩ : Cm)) rfl rfl rfl rfl rfl (o := 2) (by decide) rfl (fun j h1 h2 => by have h3 : j = 0 ∨ j = 1 := (by omega); rcases h3 with rfl | rfl <;> rfl))) rfl) ?_
  intro w6 GG3
  have cb := GG3.bx.cell 0
  have k4 := Lib.hid (svar_V GG3.src HG.out.2.2.1)
  replace GG3 := Lib.hid GG3
  clear HG3 c0 f0
  go_wp2_with fail
  refine k4.out.mono ?_
  rintro r w7 ⟨rfl, hs, ht⟩
  have G4 := GG3.out.call hs ht
  have c0 := (G4.r1.cell 37).trans (cA37 (c := (⟨(n1 : Int), (n2 : Int), (n3 : Int), (List.replicate 32 0), none, 0, [], none, 0, [], 0⟩ : Cm)) rfl)
  have f0 := G4.r1.frozen 37
  have HG4 := Lib.hid G4
  clear k4 GG3 hs ht G4 cb
  go_upto_region 6 with (fail)
  refine wp_abs (fun wx => GC w wx lo hi g e4 x4 (⟨(n1 : Int), (n2 : Int), (n3 : Int), (List.replicate 32 0), none, 0, [], none, 0, [], (n4 : Int)⟩ : Cm)) (HG4.out.put hhi (tr_cell rfl) (Row.congr (Row.set HG4.out.r1 37 _) (Cm.setHigh (c := (⟨(n1 : Int), (n2 : Int), (n3 : Int), (List.replicate 32 0), none, 0, [], none, 0, [], 0⟩ : Cm)) (d := (⟨(n1 : Int), (n2 : Int), (n3 : Int), (List.replicate 32 0), none, 0, [], none, 0, [], (n4 : Int)⟩ : Cm)) rfl rfl rfl rfl rfl (o := 2) (by decide) rfl (fun j h1 => by match j, h1 with | 0, h1 => (first | rfl | exact absurd rfl h1) | 1, h1 => (first | rfl | exact absurd rfl h1) | 2, h1 => (first | rfl | exact absurd rfl h1) | j + 3, _ => rfl))) rfl) ?_
  intro w8 GG4
  have cb := GG4.bx.cell 0
  clear HG4 c0 f0
  obtain ⟨src, tr, bx, r0, r1, -, -⟩ := GG4
  obtain ⟨TA, hTA⟩ : ∃ A, (bv T).toArray = A := ⟨_, rfl⟩
  have hTs := bvA hT32
  have hTo := bvA1 T
  rw [hTA] at hTs hTo
  have ka : ∀ wk, Tr None_ w8 wk → Calls Try.prog 68 #[.pointer (some ⟨g, 0, none⟩)] wk (GotV wk lo hi g (.agg TA) e5 x5) := fun wk hk => by
    have h := shash_at (src.keep hk fun _ _ _ => id) (Nat.le_trans (Nat.le_trans hhi tr.size) hk.size)
    rw [HG.out.2.2.2.1] at h
    rw [← hTA]
    exact h
  replace ka := Lib.hid ka
  clear cb
  let L : List Sp := [sW 1 [] [] [] g (fun b => lo ≤ b ∧ b < hi) (fun u => u = .agg TA) (fun _ w => SA w lo hi g e5 x5), sO 3 (w.heap.size + 2) 114 [] (fun _ => (⟨(n1 : Int), (n2 : Int), (n3 : Int), T, none, 0, [], none, 0, [], (n4 : Int)⟩ : Cm).cs.toArray)]
  refine wp_region_six0 (shs L) (look6 L) (fun c => c = g ∨ c = w.heap.size + 2) (by kernel_rfl) (by kernel_rfl) (mk_St L [1, 3] [1, 3] (by kernel_rfl) (by kernel_rfl) ⟨ok_W ⟨_, rfl⟩ (fun _ _ _ h hT => h.keep hT fun b h1 h2 hx => hx ⟨h1, h2⟩) src.lt (.inl rfl) (fun b hb => Nat.lt_of_lt_of_le hb.2 (Nat.le_trans hhi tr.size)), ok_O (fun _ _ _ => rfl) r1.lt (.inr rfl), trivial⟩ (by intro i hi j hj hne b hb hx; simp only [List.mem_cons, List.not_mem_nil, or_false] at hi hj; rcases hi with rfl | rfl <;> rcases hj with rfl | rfl <;> first | exact absurd rfl hne | (have h1 : lo ≤ b ∧ b < hi := hb; have h2 : b = w.heap.size + 2 := hx; omega) | (have h1 : b = w.heap.size + 2 := hb; have h2 : b = g := hx; omega))) ?_
  intro QQ hQ
  refine stepK rfl (by kernel_rfl) (fun K hK => ?_); go_simp
  apply Exists.intro; apply And.intro; (focus (intro wk hk; have cc : wk.cell? ⟨w.heap.size, 0, none⟩ = some (.pointer (some ⟨g, 0, none⟩)) := (K6.Row.tr bx hk id).cell 0; go_simp; exact ⟨rfl, rfl⟩)); refine hK _ _ ?_; clear hK K
  refine stepS _ rfl (by kernel_rfl) (fun K hK => ?_); go_simp
  refine ⟨?_, ?_⟩
  · intro wk hk hg hu; go_simp; refine upon_enter ((ka.out _ hk).mono ?_); rintro e w' ⟨rfl, hf, ht⟩; exact ⟨_, rfl, left_W (p := fun u => u = .agg TA) (f := fun _ w => SA w lo hi g e5 x5) rfl rfl rfl ht hf⟩
  rintro ⟨v1, lo1, hi1⟩ - - (rfl : v1 = _)
  refine hK _ _ ?_; clear hK K
  refine stepKx [1] (fun c => c = g) rfl (by kernel_rfl) (by intro i hi b hb; simp only [List.mem_cons, List.not_mem_nil, or_false] at hi; subst hi; exact hb) (fun K hK => ?_); go_simp
  apply Exists.intro; apply And.intro; (focus (intro wk hk; go_simp; exact ⟨rfl, rfl⟩)); refine hK _ _ ?_; clear hK K
  refine stepSx _ [1] (fun c => c = g) rfl (by kernel_rfl) (by intro i hi b hb; simp only [List.mem_cons, List.not_mem_nil, or_false] at hi; subst hi; exact hb) (fun K hK => ?_); go_simp
  refine ⟨?_, ?_⟩
  · exact sStoreMid rfl rfl rfl rfl rfl r1 (by intro hc; have hc2 : w.heap.size + 2 = g := hc; omega) (by rw [← hTA]; exact (Cm.setTok (c := (⟨(n1 : Int), (n2 : Int), (n3 : Int), (List.replicate 32 0), none, 0, [], none, 0, [], (n4 : Int)⟩ : Cm)) (d := (⟨(n1 : Int), (n2 : Int), (n3 : Int), T, none, 0, [], none, 0, [], (n4 : Int)⟩ : Cm)) rfl hT32 rfl rfl rfl rfl rfl rfl).symm) (by rw [hTs, Cm.size (c := (⟨(n1 : Int), (n2 : Int), (n3 : Int), (List.replicate 32 0), none, 0, [], none, 0, [], (n4 : Int)⟩ : Cm)) rfl]; decide) (info35' hTs) hTo (by decide) (fun _ _ _ => rfl)
  rintro ⟨v3, lo3, hi3⟩ - - (rfl : v3 = undef)
  refine hK _ _ ?_; clear hK K
  refine stepN ?_
  refine hQ _ _ ?_
  intro w9 hT hG hF
  have hT' := hT
  have src9 : SA w9 lo hi g e5 x5 := hF 1 _ rfl rfl (by decide)
  have r19 : Row w9 (w.heap.size + 2) 114 (⟨(n1 : Int), (n2 : Int), (n3 : Int), T, none, 0, [], none, 0, [], (n4 : Int)⟩ : Cm).cs.toArray := hF 3 _ rfl rfl (by decide)
  have GG5 : GC w w9 lo hi g e5 x5 (⟨(n1 : Int), (n2 : Int), (n3 : Int), T, none, 0, [], none, 0, [], (n4 : Int)⟩ : Cm) := ⟨src9, tr.trans_new hT' (fun b hb hlt => by rcases hb with hb | hb; exact hb; omega), K6.Row.tr bx hT' (by intro hc; rcases hc with hc | hc <;> omega), K6.Row.tr r0 hT' (by intro hc; rcases hc with hc | hc <;> omega), r19, hgh, hT32⟩
  have cb := GG5.bx.cell 0
  have k6 := Lib.hid (getProof_at GG5.src (Nat.le_trans hhi GG5.tr.size) HG.out.2.2.2.2.1)
  have hbyP := gPr_ok (s := (e5, x5)) GG5.src.byy
  rw [HG.out.2.2.2.2.1] at hbyP
  have hbyT := gH_byO (s := (e4, x4)) src.byy
  rw [HG.out.2.2.2.1] at hbyT
  have HBY := Lib.hid (show HsOk P ∧ By T from ⟨hbyP, hbyT⟩)
  have hs9 := GG5.r1.lt
  replace GG5 := Lib.hid GG5
  clear hT hT' hG hF hQ QQ L src tr bx r0 r1 src9 r19 ka hTA hTs hTo hbyP hbyT
  go_wp2_with fail
  refine k6.out.mono ?_
  rintro r w10 ⟨v, rfl, hoP, hs, ht⟩
  obtain ⟨pq, pc, hv⟩ := own_sl hoP
  obtain ⟨np, hnp⟩ : ∃ n, P.length = n := ⟨_, rfl⟩
  have hv' := hv
  rw [hnp] at hv
  subst hv
  have G6 := GG5.out.call hs ht
  have c0 := (G6.r1.cell 35).trans (cA35 (c := (⟨(n1 : Int), (n2 : Int), (n3 : Int), T, none, 0, [], none, 0, [], (n4 : Int)⟩ : Cm)) hT32)
  have f0 := G6.r1.frozen 35
  have HG6 := Lib.hid G6
  have HO6 := Lib.hid (show Oh w10 (w.heap.size + 3) (.slice pq P.length pc) P ∧ P.length = np from ⟨by rw [← hv']; exact own_base hoP (by omega), hnp⟩)
  clear k6 GG5 hs ht G6 cb hoP hnp hv' hs9
  go_upto_region 8 with (fail)
  refine wp_abs (fun wx => GC w wx lo hi g e6 x6 (⟨(n1 : Int), (n2 : Int), (n3 : Int), T, pq, pc, P, none, 0, [], (n4 : Int)⟩ : Cm) ∧ Tr (fun b => b = w.heap.size + 2) w10 wx) ⟨HG6.out.put hhi (tr_cell rfl) (Row.congr (Row.set HG6.out.r1 35 _) (by rw [← HO6.out.2]; exact (Cm.setHigh (c := (⟨(n1 : Int), (n2 : Int), (n3 : Int), T, none, 0, [], none, 0, [], (n4 : Int)⟩ : Cm)) (d := (⟨(n1 : Int), (n2 : Int), (n3 : Int), T, pq, pc, P, none, 0, [], (n4 : Int)⟩ : Cm)) hT32 rfl rfl rfl rfl (o := 0) (by decide) rfl (fun j h1 => by match j, h1 with | 0, h1 => (first | rfl | exact absurd rfl h1) | 1, h1 => (first | rfl | exact absurd rfl h1) | 2, h1 => (first | rfl | exact absurd rfl h1) | j + 3, _ => rfl)))) hT32, tr_cell rfl⟩ ?_
  rintro w11 ⟨GG6, hT11⟩
  have HO11 := Lib.hid (show Oh w11 (w.heap.size + 3) (.slice pq P.length pc) P from own_tr HO6.out.1 hT11 (fun b hb hx => by have hx' : b = w.heap.size + 2 := hx; have h1 := (own_lt HO6.out.1 b hb).1; omega))
  have hnp := HO6.out.2
  obtain ⟨src, tr, bx, r0, r1, -, -⟩ := GG6
  have hw11 := r1.lt
  clear HG6 HO6 c0 f0 hT11
  have kb : ∀ wk, Tr None_ w11 wk → Calls Try.prog 60 #[.pointer (some ⟨g, 0, none⟩), .int .i64 8] wk (GotV wk lo hi g (.int .i64 (n7 : Int)) e7 x7) := fun wk hk => svar_V (src.keep hk fun _ _ _ => id) HG.out.2.2.2.2.2.1
  have kc : ∀ wk, Tr (fun c => c = g) w11 wk → SA wk lo hi g e7 x7 → Calls Try.prog 249 #[.pointer (some ⟨g, 0, none⟩), .int .i64 (n7 : Int), .func (.func 250) #[] #[.pointer (some ⟨w.heap.size, 0, none⟩)]] wk (ManP OL wk lo hi g LK e8 x8) := fun wk hk hs =>
    manyL_at hs (Nat.le_trans (Nat.le_trans hhi tr.size) hk.size) n7 hn7 (Nat.lt_of_lt_of_le bx.lt hk.size) (by omega) ((K6.Row.tr bx hk (by intro hc; have hc' : w.heap.size = g := hc; omega)).cell 0) HG.out.2.2.2.2.2.2
  replace kb := Lib.hid kb
  replace kc := Lib.hid kc
  obtain ⟨C6, hC6⟩ : ∃ A, (⟨(n1 : Int), (n2 : Int), (n3 : Int), T, pq, pc, P, none, 0, [], (n4 : Int)⟩ : Cm).cs.toArray = A := ⟨_, rfl⟩
  have d36 := cA36 (c := (⟨(n1 : Int), (n2 : Int), (n3 : Int), T, pq, pc, P, none, 0, [], (n4 : Int)⟩ : Cm)) hT32
  rw [hC6] at r1 d36
  let L : List Sp := [sW 2 [] [] [4] g (fun b => lo ≤ b ∧ b < hi) (fun u => u = .int .i64 (n7 : Int)) (fun _ w => SA w lo hi g e7 x7), sU 4 [2] [2] [2] g (fun b => lo ≤ b ∧ b < hi) (fun x => ∃ q c, x.v = .slice q LK.length c) (fun x w => (∃ l : List Lf, Lo w x.lo x.v l ∧ l.map Lf.key = LK ∧ (∀ b, x.v.ownBlock = some b → b < x.hi) ∧ ∀ y ∈ l, ∀ b, y.pv.ownBlock = some b → b < x.hi) ∧ SA w lo hi g e8 x8), sO 6 (w.heap.size + 2) 114 [4, 2] (fun gh => C6.setIfInBounds 36 (gh 4).v)]
  refine wp_region_sixB (shs L) (look6 L) (fun c => c = g ∨ c = w.heap.size + 2) (by kernel_rfl) (by kernel_rfl) (mk_St2 L [(2, 6), (4, 6), (6, 2), (6, 4)] (by kernel_rfl) (by kernel_rfl) ⟨ok_W ⟨_, rfl⟩ (fun _ _ _ h hT => h.keep hT fun b h1 h2 hx => hx ⟨h1, h2⟩) src.lt (.inl rfl) (fun b hb => Nat.lt_of_lt_of_le hb.2 (Nat.le_trans hhi tr.size)), ok_U ⟨⟨.slice none LK.length 0, w11.heap.size, w11.heap.size⟩, Nat.le_refl _, Nat.le_refl _, none, 0, rfl⟩ (fun x wa wb h hT => olx_loc x wa wb h hT) src.lt (.inl rfl) (fun b hb => Nat.lt_of_lt_of_le hb.2 (Nat.le_trans hhi tr.size)), ok_O (fun g g' h => by rw [h 4 (by simp)]) r1.lt (.inr rfl), trivial⟩ (by intro p hp b hb hx; simp only [List.mem_cons, List.not_mem_nil, or_false] at hp; rcases hp with rfl | rfl | rfl | rfl <;> first | (have h1 : lo ≤ b ∧ b < hi := hb; have h2 : b = w.heap.size + 2 := hx; omega) | (have h1 : b = w.heap.size + 2 := hb; have h2 : b = g := hx; omega) | (have h1 : lo ≤ b ∧ b < hi := hb; have h2 : b = g := hx; exact absurd rfl hne))) ?_
  intro QQ hQ
  refine stepKx [2] (fun c => c = g) rfl (by kernel_rfl) (by intro i hi b hb; simp only [List.mem_cons, List.not_mem_nil, or_false] at hi; subst hi; exact hb) (fun K hK => ?_); go_simp
  apply Exists.intro; apply And.intro; (focus (intro wk hk; have cc : wk.cell? ⟨w.heap.size, 0, none⟩ = some (.pointer (some ⟨g, 0, none⟩)) := (K6.Row.tr bx hk.undrew (by intro hc; have hc2 : w.heap.size = g := hc; omega)).cell 0; go_simp; exact ⟨rfl, rfl⟩)); refine hK _ _ ?_; clear hK K
  refine stepK rfl (by kernel_rfl) (fun K hK => ?_); go_simp
  apply Exists.intro; apply And.intro; (focus (intro wk hk; have cc : wk.cell? ⟨w.heap.size, 0, none⟩ = some (.pointer (some ⟨g, 0, none⟩)) := (K6.Row.tr bx hk.undrew id).cell 0; go_simp; exact ⟨rfl, rfl⟩)); refine hK _ _ ?_; clear hK K
  refine stepS _ rfl (by kernel_rfl) (fun K hK => ?_); go_simp
  refine ⟨?_, ?_⟩
  · intro wk hk hg hu; go_simp; refine upon_enter ((kb.out _ hk.undrew).mono ?_); rintro e w' ⟨rfl, hf, ht⟩; exact ⟨_, rfl, left_W (p := fun u => u = .int .i64 (n7 : Int)) (f := fun _ w => SA w lo hi g e7 x7) rfl rfl rfl ht hf⟩
  rintro ⟨v2, lo2, hi2⟩ - - (rfl : v2 = _)
  refine hK _ _ ?_; clear hK K
  refine stepKx [2] (fun c => c = g) rfl (by kernel_rfl) (by intro i hi b hb; simp only [List.mem_cons, List.not_mem_nil, or_false] at hi; subst hi; exact hb) (fun K hK => ?_); go_simp
  apply Exists.intro; apply And.intro; (focus (intro wk hk; go_simp; exact ⟨rfl, rfl⟩)); refine hK _ _ ?_; clear hK K
  refine stepSx _ [2] (fun c => c = g) rfl (by kernel_rfl) (by intro i hi b hb; simp only [List.mem_cons, List.not_mem_nil, or_false] at hi; subst hi; exact hb) (fun K hK => ?_); go_simp
  refine ⟨?_, ?_⟩
  · intro wk hk hg hu; have u2 := hu 2 (show 2 ∈ [2] by decide); have s2 : SA wk lo hi g e7 x7 := u2; go_simp; refine upon_enter ((kc.out _ (hk.undrew.mono fun b _ hb => hb) s2).mono ?_); rintro e w' ⟨v, rfl, ⟨l, hl, hlk⟩, hs, ht⟩; exact ⟨_, rfl, left_U (p := (fun x => ∃ q c, x.v = .slice q LK.length c)) (f := (fun x w => (∃ l : List Lf, Lo w x.lo x.v l ∧ l.map Lf.key = LK ∧ (∀ b, x.v.ownBlock = some b → b < x.hi) ∧ ∀ y ∈ l, ∀ b, y.pv.ownBlock = some b → b < x.hi) ∧ SA w lo hi g e8 x8)) rfl rfl (ol_sl hl hlk) ht ⟨⟨l, hl, hlk, fun b hb => (own_lt hl.1 b hb).2, fun y hy b hb => ((hl.2 y hy).2 b hb).2.1⟩, hs⟩⟩
  rintro ⟨v4, lo4, hi4⟩ hlo4 hhi4 ⟨q4, c4, (rfl : v4 = _)⟩
  refine hK _ _ ?_; clear hK K
  refine stepKx [2, 4] (fun c => c = g ∨ c = g) rfl (by kernel_rfl) (by intro i hi b hb; simp only [List.mem_cons, List.not_mem_nil, or_false] at hi; rcases hi with rfl | rfl <;> first | exact Or.inl hb | exact Or.inr hb | exact Or.inr (Or.inl hb) | exact Or.inr (Or.inr hb) | exact Or.inr (Or.inr (Or.inl hb)) | exact Or.inr (Or.inr (Or.inr hb))) (fun K hK => ?_); go_simp
  apply Exists.intro; apply And.intro; (focus (intro wk hk; go_simp; exact ⟨rfl, rfl⟩)); refine hK _ _ ?_; clear hK K
  refine stepSx _ [2, 4] (fun c => c = g ∨ c = g) rfl (by kernel_rfl) (by intro i hi b hb; simp only [List.mem_cons, List.not_mem_nil, or_false] at hi; rcases hi with rfl | rfl <;> first | exact Or.inl hb | exact Or.inr hb | exact Or.inr (Or.inl hb) | exact Or.inr (Or.inr hb) | exact Or.inr (Or.inr (Or.inl hb)) | exact Or.inr (Or.inr (Or.inr hb))) (fun K hK => ?_); go_simp
  refine ⟨?_, ?_⟩
  · intro wk hk hg hu; have rk := K6.Row.tr r1 hk.undrew (by intro hc; have hc2 : w.heap.size + 2 = g := hc; omega); have cc := (rk.cell 36).trans d36; have ff := rk.frozen 36; go_simp; exact left_O (l := L) (s := (sO 6 (w.heap.size + 2) 114 [4, 2] (fun gh => C6.setIfInBounds 36 (gh 4).v)).1) rfl rfl (by decide) (fun g g' h => by rw [h 4 (by simp)]) (fun c hc => Below.heap_setCell _ _ _ _ hc) rfl rfl rfl (by simp) (Row.congr (rk.set 36 _) rfl)
  rintro ⟨v6, lo6, hi6⟩ - - (rfl : v6 = undef)
  refine hK _ _ ?_; clear hK K
  refine stepN ?_
  refine hQ _ _ ?_
  intro w12 hT hG hF
  have hT' := hT.undrew
  obtain ⟨⟨l, hl, hlk, -, hlq⟩, src12⟩ : (∃ l : List Lf, Lo w12 lo4 (.slice q4 LK.length c4) l ∧ l.map Lf.key = LK ∧ (∀ b, (Value.slice q4 LK.length c4).ownBlock = some b → b < hi4) ∧ ∀ y ∈ l, ∀ b, y.pv.ownBlock = some b → b < hi4) ∧ SA w12 lo hi g e8 x8 := hF 4 _ rfl (by kernel_rfl) (by decide)
  have r12 : Row w12 (w.heap.size + 2) 114 (C6.setIfInBounds 36 (.slice q4 LK.length c4)) := hF 6 _ rfl (by kernel_rfl) (by decide)
  replace hlo4 : w11.drew.heap.size ≤ lo4 := hlo4
  have hlo4' : w11.heap.size ≤ lo4 := hlo4
  have hll : l.length = LK.length := by rw [← hlk, List.length_map]
  have hset : C6.setIfInBounds 36 (.slice q4 LK.length c4) = (⟨(n1 : Int), (n2 : Int), (n3 : Int), T, pq, pc, P, q4, c4, l, (n4 : Int)⟩ : Cm).cs.toArray := by
    rw [← hC6, ← hll]
    exact (Cm.setHigh (c := (⟨(n1 : Int), (n2 : Int), (n3 : Int), T, pq, pc, P, none, 0, [], (n4 : Int)⟩ : Cm)) (d := (⟨(n1 : Int), (n2 : Int), (n3 : Int), T, pq, pc, P, q4, c4, l, (n4 : Int)⟩ : Cm)) hT32 rfl rfl rfl rfl (o := 1) (by decide) rfl (fun j h1 => by match j, h1 with | 0, h1 => (first | rfl | exact absurd rfl h1) | 1, h1 => (first | rfl | exact absurd rfl h1) | 2, h1 => (first | rfl | exact absurd rfl h1) | j + 3, _ => rfl))
  rw [hset] at r12
  have r02 := K6.Row.tr r0 hT' (by intro hc; rcases hc with hc | hc <;> omega)
  have tr12 : Tr (fun b => b = g) w w12 := tr.trans_new hT' (fun b hb hlt => by rcases hb with hb | hb; exact hb; omega)
  have hoP12 := own_tr HO11.out hT' (fun b hb hx => by have h1 := (own_lt HO11.out b hb).1; rcases hx with hx | hx <;> omega)
  have hCI : CmIn w12 (w.heap.size + 3) (⟨(n1 : Int), (n2 : Int), (n3 : Int), T, pq, pc, P, q4, c4, l, (n4 : Int)⟩ : Cm) := ⟨⟨hT32, HBY.out.2, Oh.hs hoP12 HBY.out.1, HBY.out.1, by show Ls w12 (.slice q4 l.length c4) l; rw [hll]; exact hl.ls, HI.out.1, HI.out.2.1, HI.out.2.2.1, HI.out.2.2.2⟩, fun b hb => own_lt hoP12 b hb, fun b hb => by have h1 : (Value.slice q4 LK.length c4).ownBlock = some b := (by rw [← hll]; exact hb); have h2 := own_lt hl.1 b h1; omega, fun y hy b hb => by have h3 := (hl.2 y hy).2 b hb; omega⟩
  obtain ⟨CC, hCC⟩ : ∃ c : Cm, (⟨(n1 : Int), (n2 : Int), (n3 : Int), T, pq, pc, P, q4, c4, l, (n4 : Int)⟩ : Cm) = c := ⟨_, rfl⟩
  have hkey : CC.key = ((n1 : Int), (n2 : Int), (n3 : Int), T, (n4 : Int), P, LK) := by rw [← hCC, ← hlk]; rfl
  rw [hCC] at r12 hCI
  have hsz : CC.cs.toArray.size = 38 := Cm.size hCI.ok.tok
  have hone := CC.one
  have HE := Lib.hid (show _ ∧ _ ∧ _ ∧ _ from ⟨hCI, src12, tr12, hkey⟩)
  have hsz0 : cm0.cs.toArray.size = CC.cs.toArray.size := by rw [hsz]; exact Cm.size rfl
  have hinf := info114' hsz
  obtain ⟨CA, hCA⟩ : ∃ A, CC.cs.toArray = A := ⟨_, rfl⟩
  rw [hCA] at r12 hsz hone hsz0 hinf
  clear hT hT' hG hF hQ QQ L src tr bx r0 r1 hl hlk hlq src12 hll hset hoP12 hCI hCC hkey tr12 kb kc hC6 d36 HO11 hnp
  go_upto_region 9 with (fail)
  let L : List Sp := [sO 1 (w.heap.size + 1) 114 [0] (fun g => aggOf g 0)]
  refine wp_region_six0 (shs L) (look6 L) (fun c => c = w.heap.size + 1) (by kernel_rfl) (by kernel_rfl) (mk_St L [1] [1] (by kernel_rfl) (by kernel_rfl) ⟨ok_O aggOf_congr r02.lt (rfl), trivial⟩ (by simp)) ?_
  intro QQ hQ
  refine stepK rfl (by kernel_rfl) (fun K hK => ?_); go_simp
  apply Exists.intro; apply And.intro; (focus exact kLoad rfl rfl aggT114 r12 hsz id); refine hK _ _ ?_; clear hK K
  refine stepS _ rfl (by kernel_rfl) (fun K hK => ?_); go_simp
  refine ⟨?_, ?_⟩
  · exact sStoreO rfl rfl rfl rfl rfl rfl r02 id hinf hsz0 hone (by decide) aggOf_congr
  rintro ⟨v1, lo1, hi1⟩ - - (rfl : v1 = undef)
  refine hK _ _ ?_; clear hK K
  refine stepN ?_
  refine hQ _ _ ?_
  intro w13 hT hG hF
  have hT' := hT
  have x0 : Row w13 (w.heap.size + 1) 114 CA := hF 1 _ rfl rfl (by decide)
  have H := Lib.hid (show _ ∧ _ ∧ _ from ⟨(HE.out.1.keep hT' (fun b hb hx => by have hx' : b = w.heap.size + 1 := hx; omega)).base (b' := w.heap.size) (by omega), HE.out.2.1.keep hT' (fun b _ h2 hx => by have hx' : b = w.heap.size + 1 := hx; omega), HE.out.2.2.1.trans_new hT' (fun b hb hlt => by have hb' : b = w.heap.size + 1 := hb; omega)⟩)
  have hkey := Lib.hid HE.out.2.2.2
  have hCA' := Lib.hid hCA
  clear hT hT' hG hF hQ QQ L r02 r12 HE hCA
  go_wp2_with fail
  refine bodyPost_ret (results_c rfl aggT114 rfl x0 hsz) rfl ?_
  exact ⟨CC, hkey.out, by rw [hCA'.out], H.out.1, H.out.2.1, H.out.2.2⟩
end Go.Proofs.Ytpdenhmkpiafiaa
namespace Go.Proofs.Ytpdenhmkpiafiaa
open Go Go.RowKit K6
def tx0K : TxK := (0, 0, [], [], [], cm0.key)
def prE (xs : List Int) : Int := if edE (gTx (0, xs)).2.1 (gTx (0, xs)).2.2 = 0 then (if goodK (gTx (0, xs)).1 = true then 0 else 2) else edE (gTx (0, xs)).2.1 (gTx (0, xs)).2.2
def prT (xs : List Int) : Int := if 4096 < xs.length then 19 else prE xs
def prK (xs : List Int) : TxK := if prT xs = 0 then (gTx (0, xs)).1 else tx0K
theorem prT_long {xs : List Int} (h : 4096 < xs.length) : prT xs = 19 ∧ prK xs = tx0K := by
  have h1 : prT xs = 19 := if_pos h
  exact ⟨h1, by unfold prK; rw [h1]; rfl⟩
theorem prT_short {xs : List Int} (h : ¬ 4096 < xs.length) : prT xs = prE xs := if_neg h
theorem prT_put {t : TxK} (hk : KeyOk t) (hg : goodK t = true) (hl : (putK t).length ≤ 4096) : prT (putK t) = 0 ∧ prK (putK t) = t := by
  have h := gTx_put (goodK_x hk hg) []
  rw [List.append_nil] at h
  have h1 : prT (putK t) = 0 := by
    rw [prT_short (by omega)]
    unfold prE
    rw [h]
    simp only
    rw [show edE 0 [] = 0 from rfl, if_pos rfl, if_pos hg]
  exact ⟨h1, by unfold prK; rw [if_pos h1, h]⟩
theorem prT_cut {t : TxK} (hk : KeyOk t) (hg : goodK t = true) (hl : (putK t).length ≤ 4096) {j : Nat} (hj : j < (putK t).length) : prT ((putK t).take j) = 3 := by
  have h := gTx_cut (goodK_x hk hg) hj
  rw [prT_short (by rw [List.length_take]; omega)]
  unfold prE
  rw [h]
  rfl
theorem prT_more {t : TxK} (hk : KeyOk t) (hg : goodK t = true) (hl : (putK t).length ≤ 4096) : prT (putK t ++ [0]) = if (putK t).length = 4096 then 19 else 4 := by
  have h := gTx_put (goodK_x hk hg) [0]
  by_cases h9 : (putK t).length = 4096
  · rw [if_pos h9]
    exact (prT_long (by rw [List.length_append]; show _ < _ + 1; omega)).1
  · rw [if_neg h9, prT_short (by rw [List.length_append]; show ¬ _ < _ + 1; omega)]
    unfold prE
    rw [h]
    rfl
theorem prT_back {xs : List Int} (hb : By xs) (h0 : prT xs = 0) (hk : KeyOk (prK xs)) : bytK (prK xs) = xs := by
  have hK : prK xs = (gTx (0, xs)).1 := if_pos h0
  rw [hK] at hk ⊢
  by_cases hl : 4096 < xs.length
  · rw [(prT_long hl).1] at h0; exact absurd h0 (by decide)
  · rw [prT_short hl] at h0
    obtain ⟨t, e, r, hg⟩ : ∃ t e r, gTx (0, xs) = (t, e, r) := ⟨_, _, _, rfl⟩
    unfold prE at h0
    rw [hg] at h0 hk ⊢
    simp only at h0 hk ⊢
    by_cases he : edE e r = 0
    · rw [if_pos he] at h0
      by_cases hgd : goodK t = true
      · have he2 : e = 0 ∧ r = [] := edE_zero.1 he
        obtain ⟨rfl, rfl⟩ := he2
        have h1 := gTx_back hb hg hk hgd
        rw [List.append_nil] at h1
        unfold bytK
        rw [if_pos hgd, ← h1, if_pos (by omega)]
      · rw [if_neg hgd] at h0; exact absurd h0 (by decide)
    · rw [if_neg he] at h0; exact absurd h0 he
end Go.Proofs.Ytpdenhmkpiafiaa
namespace Go.Proofs.Ytpdenhmkpiafiaa
open Go Go.RowKit K6
def sameL (E F : List Lf) : Bool := decide (E.map Lf.key = F.map Lf.key)
set_option maxRecDepth 100000 in
set_option maxHeartbeats 32000000 in
theorem lsEq_at (u v : Value) (E F : List Lf) (w : World) (hE : Ls w u E) (hF : Ls w v F) (hEm : E.length ≤ 100000) (hlen : ∀ e ∈ E, e.p.length ≤ 100000) :
    Calls Try.prog 256 #[u, v, .func (.func 241) #[] #[]] w fun r w' => r = .returned (.bool (sameL E F)) ∧ Below w.heap.size w w' := by
  have HC := Lib.hid (show _ ∧ _ from ⟨hE, hF⟩)
  obtain ⟨⟨q1, c1, rfl, -⟩, -⟩ := hE
  obtain ⟨⟨q2, c2, rfl, -⟩, -⟩ := hF
  obtain ⟨n1, hn1⟩ : ∃ n, E.length = n := ⟨_, rfl⟩
  obtain ⟨n2, hn2⟩ : ∃ n, F.length = n := ⟨_, rfl⟩
  obtain ⟨b, hb⟩ : ∃ b, sameL E F = b := ⟨_, rfl⟩
  rw [hb, hn1, hn2]
  have hni : (n1 : Int) ≤ 100000 := by omega
  have HB := Lib.hid (show _ ∧ _ ∧ _ ∧ _ from ⟨hb, hn1, hn2, hlen⟩)
  rw [hn1, hn2] at HC
  clear hb hn1 hn2 hEm hlen
  by_cases hne : n1 = n2
  case neg =>
    have hd : ¬ (n1 : Int) = (n2 : Int) := by omega
    have hbf : b = false := by rw [← HB.out.1]; exact decide_eq_false (fun h => hne (by rw [← HB.out.2.1, ← HB.out.2.2.1]; have := congrArg List.length h; simpa using this))
    subst hbf
    clear hne HC
    go_enter Try.func256, Try.ntmps256
    go_wp2_with fail
    go_ret
    exact ⟨rfl, Below.refl _ _⟩
  subst hne
  go_enter Try.func256, Try.ntmps256
  go_wp2_with fail
  go_loopg [7, 8, 9, 17] n1 (fun gg s7 s8 s9 s17 wr => ∃ i : Nat, i + gg = n1 ∧ s17 = .int .i64 (i : Int) ∧ Hid ((E.map Lf.key).take i = (F.map Lf.key).take i) ∧ Hid (Below w.heap.size w wr))
  case atStart => exact ⟨0, by omega, rfl, Lib.hid (by rw [List.take_zero, List.take_zero]), Lib.hid (Below.refl _ _)⟩
  case round =>
    obtain ⟨i, him, rfl, heq, hinv⟩ := hrel
    by_cases hi : i < n1
    · obtain ⟨e, hee⟩ : ∃ e, E[i]? = some e := ⟨_, List.getElem?_eq_getElem (by have := HB.out.2.1; omega)⟩
      obtain ⟨f, hff⟩ : ∃ f, F[i]? = some f := ⟨_, List.getElem?_eq_getElem (by have := HB.out.2.2.1; omega)⟩
      obtain ⟨g1, o1, c1', hu, hg1, hcs1⟩ := (HC.out.1.below hinv.out).1.get hee
      simp only [Value.slice.injEq] at hu
      obtain ⟨rfl, -, -⟩ := hu
      obtain ⟨g2, o2, c2', hu, hg2, hcs2⟩ := (HC.out.2.below hinv.out).1.get hff
      simp only [Value.slice.injEq] at hu
      obtain ⟨rfl, -, -⟩ := hu
      have hok1 := HC.out.1.2 e (List.mem_of_getElem? hee)
      have hok2 := HC.out.2.2 f (List.mem_of_getElem? hff)
      have hle := HB.out.2.2.2 e (List.mem_of_getElem? hee)
      have hke : (E.map Lf.key)[i]? = some e.key := by rw [List.getElem?_map, hee]; rfl
      have hkf : (F.map Lf.key)[i]? = some f.key := by rw [List.getElem?_map, hff]; rfl
      have hgo := Lib.hid (show (e.key = f.key → (E.map Lf.key).take (i + 1) = (F.map Lf.key).take (i + 1)) ∧ (e.key ≠ f.key → b = false) from ⟨fun h => take_app_eq' hke hkf heq.out h, fun h => by rw [← HB.out.1]; exact decide_eq_false (get_ne' hke hkf h)⟩)
      clear hee hff hke hkf heq
      have hlt : (i : Int) < (n1 : Int) := by omega
      have k0 := Lib.hid fun wx (hb : Below w.heap.size w wx) => sameLeaf_at e f wx (hok1.below hb) (hok2.below hb) (by omega)
      obtain ⟨d, hd⟩ : ∃ d, decide (e.key = f.key) = d := ⟨_, rfl⟩
      rw [hd] at k0
      have hd' := Lib.hid hd
      clear hok1 hok2 hle hd
      go_upto_region 5 with (fail)
      let L : List Sp := [sA 3 198 [5] #[.int .i64 0, .int .i64 0, .int .u64 0, .int .u64 0, .int .u64 0, .int .u64 0, .slice none 0 0], sT 5 3 198 [2] (fun g => aggOf g 2)]
      refine wp_region_six0 (shs L) (look6 L) (None_) (by kernel_rfl) (by kernel_rfl) (mk_St L [] [] (by kernel_rfl) (by kernel_rfl) ⟨ok_A, ok_T aggOf_congr, trivial⟩ (by simp)) ?_
      intro QQ hQ
      refine stepK rfl (by kernel_rfl) (fun K hK => ?_); go_simp
      apply Exists.intro; apply And.intro; (focus (intro wk hk; go_simp; exact ⟨rfl, rfl⟩)); refine hK _ _ ?_; clear hK K
      refine stepK rfl (by kernel_rfl) (fun K hK => ?_); go_simp
      apply Exists.intro; apply And.intro; (focus (intro wk hk; go_simp; exact ⟨rfl, rfl⟩)); refine hK _ _ ?_; clear hK K
      refine stepK rfl (by kernel_rfl) (fun K hK => ?_); go_simp
      apply Exists.intro; apply And.intro; (focus exact kLoadE rfl rfl aggT198 hcs1 (lfc_len e) hg1 id); refine hK _ _ ?_; clear hK K
      refine stepS _ rfl (by kernel_rfl) (fun K hK => ?_); go_simp
      refine ⟨?_, ?_⟩
      · intro wk hk hg hu; go_simp; exact left_A rfl rfl
      rintro ⟨v3, lo3, hi3⟩ hlo3 hhi3 ⟨e3, f3⟩
      replace e3 : v3 = .pointer (some ⟨lo3, 0, none⟩) := e3; replace f3 : hi3 = lo3 + 1 := f3; replace hlo3 : _ ≤ lo3 := hlo3; subst e3; subst f3
      refine hK _ _ ?_; clear hK K
      refine stepK rfl (by kernel_rfl) (fun K hK => ?_); go_simp
      apply Exists.intro; apply And.intro; (focus (intro wk hk; go_simp; exact ⟨rfl, rfl⟩)); refine hK _ _ ?_; clear hK K
      refine stepS _ rfl (by kernel_rfl) (fun K hK => ?_); go_simp
      refine ⟨?_, ?_⟩
      · exact sStoreT rfl rfl rfl rfl rfl rfl rfl (by kernel_rfl) rfl (by kernel_rfl) (by decide) aggOf_congr
      rintro ⟨v5, lo5, hi5⟩ - - (rfl : v5 = undef)
      refine hK _ _ ?_; clear hK K
      refine stepN ?_
      refine hQ _ _ ?_
      intro w1 hT hG hF
      have hbw1 := hT.below
      have r8 : Row w1 lo3 198 (lfc e).toArray := (hF 5 _ rfl rfl (by decide)).2
      clear hT hG hF hQ QQ L
      have hcs2' : ∀ j v, (lfc f)[j]? = some v → w1.cell? ⟨g2, o2 + i * 7 + j, none⟩ = some v := fun j v hj => (World.cell?_of_block (hbw1.block g2 hg2)).trans (hcs2 j v hj)
      have hg2' : g2 < w1.heap.size := Nat.lt_of_lt_of_le hg2 hbw1.size
      have HW1 := Lib.hid hbw1
      clear hbw1 hcs1 hcs2 hg1 hg2
      go_upto_region 6 with (fail)
      let L : List Sp := [sA 4 198 [5] #[.int .i64 0, .int .i64 0, .int .u64 0, .int .u64 0, .int .u64 0, .int .u64 0, .slice none 0 0], sT 5 4 198 [3] (fun g => aggOf g 3)]
      refine wp_region_six0 (shs L) (look6 L) (None_) (by kernel_rfl) (by kernel_rfl) (mk_St L [] [] (by kernel_rfl) (by kernel_rfl) ⟨ok_A, ok_T aggOf_congr, trivial⟩ (by simp)) ?_
      intro QQ hQ
      refine stepK rfl (by kernel_rfl) (fun K hK => ?_); go_simp
      apply Exists.intro; apply And.intro; (focus (intro wk hk; go_simp; exact ⟨rfl, rfl⟩)); refine hK _ _ ?_; clear hK K
      refine stepK rfl (by kernel_rfl) (fun K hK => ?_); go_simp
      apply Exists.intro; apply And.intro; (focus (intro wk hk; go_simp; exact ⟨rfl, rfl⟩)); refine hK _ _ ?_; clear hK K
      refine stepK rfl (by kernel_rfl) (fun K hK => ?_); go_simp
      apply Exists.intro; apply And.intro; (focus (intro wk hk; go_simp; exact ⟨rfl, rfl⟩)); refine hK _ _ ?_; clear hK K
      refine stepK rfl (by kernel_rfl) (fun K hK => ?_); go_simp
      apply Exists.intro; apply And.intro; (focus exact kLoadE rfl rfl aggT198 hcs2' (lfc_len f) hg2' id); refine hK _ _ ?_; clear hK K
      refine stepS _ rfl (by kernel_rfl) (fun K hK => ?_); go_simp
      refine ⟨?_, ?_⟩
      · intro wk hk hg hu; go_simp; exact left_A rfl rfl
      rintro ⟨v4, lo4, hi4⟩ hlo4 hhi4 ⟨e4, f4⟩
      replace e4 : v4 = .pointer (some ⟨lo4, 0, none⟩) := e4; replace f4 : hi4 = lo4 + 1 := f4; replace hlo4 : _ ≤ lo4 := hlo4; subst e4; subst f4
      refine hK _ _ ?_; clear hK K
      refine stepS _ rfl (by kernel_rfl) (fun K hK => ?_); go_simp
      refine ⟨?_, ?_⟩
      · exact sStoreT rfl rfl rfl rfl rfl rfl rfl (by kernel_rfl) rfl (by kernel_rfl) (by decide) aggOf_congr
      rintro ⟨v5, lo5, hi5⟩ - - (rfl : v5 = undef)
      refine hK _ _ ?_; clear hK K
      refine stepN ?_
      refine hQ _ _ ?_
      intro w2 hT hG hF
      have hbw2 := hT.below
      have r9 : Row w2 lo4 198 (lfc f).toArray := (hF 5 _ rfl rfl (by decide)).2
      clear hT hG hF hQ QQ L
      have r8 := r8.below hbw2 r8.lt
      have hb02 := HW1.out.trans (hbw2.mono HW1.out.size)
      have hl2 := Lib.hid (hinv.out.trans (hb02.mono hinv.out.size))
      clear hbw2 HW1 hcs2' hb02 hinv
      go_upto_region 7 with (fail)
      let L : List Sp := [sV 3 [] [] (fun u => u = .bool d)]
      refine wp_region_six0 (shs L) (look6 L) (None_) (by kernel_rfl) (by kernel_rfl) (mk_St L [] [] (by kernel_rfl) (by kernel_rfl) ⟨ok_V ⟨_, rfl⟩, trivial⟩ (by simp)) ?_
      intro QQ hQ
      refine stepK rfl (by kernel_rfl) (fun K hK => ?_); go_simp
      apply Exists.intro; apply And.intro; (focus (intro wk hk; go_simp; exact ⟨rfl, rfl⟩)); refine hK _ _ ?_; clear hK K
      refine stepK rfl (by kernel_rfl) (fun K hK => ?_); go_simp
      apply Exists.intro; apply And.intro; (focus exact kLoad rfl rfl aggT198 r8 (lfc_len e) id); refine hK _ _ ?_; clear hK K
      refine stepK rfl (by kernel_rfl) (fun K hK => ?_); go_simp
      apply Exists.intro; apply And.intro; (focus exact kLoad rfl rfl aggT198 r9 (lfc_len f) id); refine hK _ _ ?_; clear hK K
      refine stepS _ rfl (by kernel_rfl) (fun K hK => ?_); go_simp
      refine ⟨?_, ?_⟩
      · intro wk hk hg hu; go_simp; refine upon_enter ((k0.out _ (hl2.out.trans (hk.below.mono hl2.out.size))).mono ?_); rintro e w' ⟨rfl, hb⟩; exact ⟨_, rfl, left_V (p := fun u => u = .bool d) rfl (hb) rfl⟩
      rintro ⟨v3, lo3, hi3⟩ - - (rfl : v3 = _)
      refine hK _ _ ?_; clear hK K
      refine stepK rfl (by kernel_rfl) (fun K hK => ?_); go_simp
      apply Exists.intro; apply And.intro; (focus (intro wk hk; go_simp; exact ⟨rfl, rfl⟩)); refine hK _ _ ?_; clear hK K
      refine stepN ?_
      refine hQ _ _ ?_
      intro w3 hT hG hF
      have hl3 := Lib.hid (hl2.out.trans (hT.below.mono hl2.out.size))
      clear hT hG hF hQ QQ L r8 r9 k0 hl2
      cases d
      · have hbf : b = false := hgo.out.2 (of_decide_eq_false hd'.out)
        subst hbf
        go_wp2_with fail
        go_ret
        exact ⟨rfl, hl3.out⟩
      · have hnx := Lib.hid (hgo.out.1 (of_decide_eq_true hd'.out))
        go_wp2_with fail
        go_roundg (gk - 1)
        case measure => omega
        case rel => exact ⟨i + 1, by omega, by go_num, hnx, hl3⟩
    · obtain rfl : i = n1 := by omega
      have hlt : ¬ (i : Int) < (i : Int) := by omega
      have hbt : b = true := by
        rw [← HB.out.1]
        have h := heq.out
        rw [List.take_of_length_le (by rw [List.length_map]; have := HB.out.2.1; omega), List.take_of_length_le (by rw [List.length_map]; have := HB.out.2.2.1; omega)] at h
        exact decide_eq_true h
      subst hbt
      clear heq
      go_wp2_with fail
      go_ret
      exact ⟨rfl, hinv.out⟩
set_option maxRecDepth 100000 in
set_option maxHeartbeats 16000000 in
theorem alike_at (u v : Value) (E F : List Lf) (w : World) (hE : Ls w u E) (hF : Ls w v F) (hEm : E.length ≤ 100000) (hlen : ∀ e ∈ E, e.p.length ≤ 100000) :
    Calls Try.prog 240 #[u, v, .func (.func 241) #[] #[]] w fun r w' => r = .returned (.bool (sameL E F)) ∧ Below w.heap.size w w' := by
  have kk := Lib.hid (lsEq_at u v E F w hE hF hEm hlen)
  obtain ⟨b, hb⟩ : ∃ b, sameL E F = b := ⟨_, rfl⟩
  rw [hb] at kk ⊢
  clear hE hF hEm hlen hb
  go_enter Try.func240, Try.ntmps240
  go_wp2_with fail
  refine kk.out.mono ?_
  rintro e w1 ⟨rfl, hb⟩
  clear kk
  go_wp2_with fail
  go_ret
  exact ⟨rfl, hb⟩
end Go.Proofs.Ytpdenhmkpiafiaa
