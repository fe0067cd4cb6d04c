/-
  The document's source over any bytes: wrong (183), take (230), Byte (182), End (67), Var (178).
-/
import Derived.Test.YtpdenhmkpiafiaaOctPlain
namespace Go.Proofs.Ytpdenhmkpiafiaa
open Go Go.RowKit K6

/-- a slice value over the block q that reads as these bytes -/
def SRv (w : World) (q : Option Nat) (v : Value) (xs : List Int) : Prop :=
  (xs = [] ∧ ∃ a, v = .slice a 0 0) ∨
  ∃ b o c, q = some b ∧ v = .slice (some ⟨b, o, none⟩) xs.length c ∧ xs.length ≤ c ∧ 0 < c ∧ ∀ j x, xs[j]? = some x → w.cell? ⟨b, o + j, none⟩ = some (.int .u8 x)
/-- the document's source in the block g over bytes of the block q -/
def SR (w : World) (g : Nat) (q : Option Nat) (e : Int) (xs : List Int) : Prop :=
  (e ≠ 0 → xs = []) ∧ By xs ∧ xs.length ≤ 100000000 ∧ q ≠ some g ∧ ∃ v, Row w g 66 #[v, .int .i64 e] ∧ SRv w q v xs
theorem SRv.keep {X : Nat → Prop} {w w' : World} {q : Option Nat} {v : Value} {xs : List Int} (h : SRv w q v xs) (hT : Tr X w w') (hq : ∀ b, q = some b → ¬ X b) : SRv w' q v xs := by
  rcases h with h | ⟨b, o, c, h1, h2, h3, h4, h5⟩
  · exact .inl h
  · exact .inr ⟨b, o, c, h1, h2, h3, h4, fun j x hj => (World.cell?_of_block (hT.block b (cell_lt (h5 j x hj)) (hq b h1))).trans (h5 j x hj)⟩
theorem SRv.bs {w : World} {q : Option Nat} {v : Value} {xs : List Int} (h : SRv w q v xs) : Bs w v xs := by
  rcases h with ⟨rfl, a, rfl⟩ | ⟨b, o, c, -, rfl, -, -, h5⟩
  · exact ⟨a, 0, rfl, fun _ => ⟨rfl, rfl⟩, fun _ _ j u hj => by simp [bv] at hj⟩
  · refine ⟨_, c, rfl, (fun h => (by cases h)), fun a ha j u hj => ?_⟩
    cases ha
    rw [add_off]
    unfold bv at hj
    rw [List.getElem?_map] at hj
    rcases hx : xs[j]? with _ | x
    · rw [hx] at hj; cases hj
    · rw [hx] at hj; cases hj
      exact h5 j x hx
theorem SR.lt {w : World} {g : Nat} {q : Option Nat} {e : Int} {xs : List Int} (h : SR w g q e xs) : g < w.heap.size := by
  obtain ⟨-, -, -, -, v, hs, -⟩ := h
  exact Row.lt hs
theorem SR.keep {X : Nat → Prop} {w w' : World} {g : Nat} {q : Option Nat} {e : Int} {xs : List Int} (h : SR w g q e xs) (hT : Tr X w w') (hg : ¬ X g) (hq : ∀ b, q = some b → ¬ X b) : SR w' g q e xs := by
  obtain ⟨h1, h2, h3, h4, v, hs, hv⟩ := h
  exact ⟨h1, h2, h3, h4, v, Row.tr hs hT hg, hv.keep hT hq⟩
theorem SR.below {w w' : World} {g : Nat} {q : Option Nat} {e : Int} {xs : List Int} (h : SR w g q e xs) (hb : Below w.heap.size w w') : SR w' g q e xs := h.keep (X := None_) (Tr.of hb) id fun _ _ => id
def GotR (w : World) (g : Nat) (q : Option Nat) (v : Value) (s : St) (r : Ending) (w' : World) : Prop := r = .returned v ∧ SR w' g q s.1 s.2 ∧ Tr (fun b => b = g) w w'
set_option maxRecDepth 100000 in
set_option maxHeartbeats 2000000 in
theorem wrong_at {w : World} {g : Nat} {q : Option Nat} {e : Int} {xs : List Int} (c : Int) (h : SR w g q e xs) : Calls Try.prog 183 #[.pointer (some ⟨g, 0, none⟩), .int .i64 c] w fun r w' => (∃ u, r = .returned u) ∧ SR w' g q c [] ∧ Tr (fun b => b = g) w w' := by
  obtain ⟨-, -, -, h4, v, hs, -⟩ := h
  have d0 : w.cell? ⟨g, 0, none⟩ = some v := hs.cell 0
  have d1 : w.cell? ⟨g, 1, none⟩ = some (.int .i64 e) := hs.cell 1
  have f0 := hs.frozen 0
  have f1 := hs.frozen 1
  have H := Lib.hid (show _ ∧ _ from ⟨hs, h4⟩)
  clear hs h4
  go_enter Try.func183, Try.ntmps183
  go_wp2_with fail
  first | (refine bodyPost_ret (results_none rfl _ _ _) rfl ?_) | (refine bodyPost_end (results_none rfl _ _ _) rfl ?_)
  exact ⟨⟨_, rfl⟩, ⟨fun _ => rfl, By.nil, Nat.zero_le _, H.out.2, _, Row.congr ((Row.set H.out.1 0 (.slice none 0 0)).set 1 (.int .i64 c)) rfl, .inl ⟨rfl, none, rfl⟩⟩, (tr_cell (X := fun b => b = g) rfl).trans (tr_cell (X := fun b => b = g) rfl)⟩
/-- the slice behind the first n bytes, stored back -/
theorem SR.drop {w : World} {g n : Nat} {q : Option Nat} {v v' : Value} {xs : List Int} (hs : Row w g 66 #[v, .int .i64 0]) (hb : By xs) (hL : xs.length ≤ 100000000) (hq : q ≠ some g) (hn : n ≤ xs.length)
    (hv : SRv (w.setCell ⟨g, 0, none⟩ v') q v' (xs.drop n)) : SR (w.setCell ⟨g, 0, none⟩ v') g q 0 (xs.drop n) :=
  ⟨fun h => absurd rfl h, hb.drop n, by rw [List.length_drop]; omega, hq, v', Row.congr (Row.set hs 0 v') rfl, hv⟩
theorem SRv.drop {w w' : World} {b o c n m g : Nat} {q : Option Nat} {v' : Value} {xs : List Int} (hq : q = some b) (hqg : q ≠ some g) (hT : Tr (fun b => b = g) w w') (hc : m ≤ c) (hm : xs.length = m) (hn : n ≤ m) (hcell : ∀ j x, xs[j]? = some x → w.cell? ⟨b, o + j, none⟩ = some (.int .u8 x))
    (hv : (n < c ∧ v' = .slice (some ⟨b, o + n, none⟩) (m - n) (c - n)) ∨ (n = c ∧ v' = .slice (some ⟨b, o, none⟩) 0 0)) : SRv w' q v' (xs.drop n) := by
  rcases hv with ⟨hlt, rfl⟩ | ⟨rfl, rfl⟩
  · refine .inr ⟨b, o + n, c - n, hq, by rw [List.length_drop, hm], by rw [List.length_drop]; omega, by omega, fun j x hj => ?_⟩
    rw [List.getElem?_drop] at hj
    rw [Nat.add_assoc]
    have h5 := hcell _ _ hj
    exact (World.cell?_of_block (hT.block b (cell_lt h5) (fun e => hqg (by rw [hq, e])))).trans h5
  · exact .inl ⟨List.drop_eq_nil_of_le (by omega), _, rfl⟩
def RTook (w : World) (g n : Nat) (q : Option Nat) (e : Int) (xs : List Int) (r : Ending) (w' : World) : Prop := ∃ v, r = .returned v ∧ Ob w' w.heap.size v (tkO n e xs) ∧ SR w' g q (tkE n e xs) (tkR n e xs) ∧ Tr (fun b => b = g) w w'
set_option maxRecDepth 100000 in
set_option maxHeartbeats 8000000 in
theorem rtake_at {w : World} {g : Nat} {q : Option Nat} {e : Int} {xs : List Int} (n : Nat) (h : SR w g q e xs) : Calls Try.prog 230 #[.pointer (some ⟨g, 0, none⟩), .int .i64 (n : Int)] w (RTook w g n q e xs) := by
  by_cases he : e = 0
  · subst he
    have wr := wrong_at 3 h
    obtain ⟨-, hb, hL, hqg, v, hs, hv⟩ := id h
    have c1 : w.cell? ⟨g, 1, none⟩ = some (.int .i64 0) := hs.cell 1
    have c0 : w.cell? ⟨g, 0, none⟩ = some v := hs.cell 0
    have c0a : (w.alloc (.cells #[] 5)).cell? ⟨g, 0, none⟩ = some v := (Row.below hs ((Below.refl _ _).alloc (Nat.le_refl _) _ : Below w.heap.size w (w.alloc (.cells #[] 5))) (Row.lt hs)).cell 0
    by_cases hn : n ≤ xs.length
    · have hE : tkE n 0 xs = 0 := by unfold tkE; rw [if_pos rfl, if_pos hn]
      have hO : tkO n 0 xs = xs.take n := by unfold tkO; rw [if_pos rfl, if_pos hn]
      have hR : tkR n 0 xs = xs.drop n := by unfold tkR; rw [if_pos rfl, if_pos hn]
      clear wr
      rcases hv with ⟨rfl, a, rfl⟩ | ⟨b, o, c, hqb, rfl, hc, hc0, hcell⟩
      · obtain rfl : n = 0 := Nat.le_zero.1 hn
        have hB9 : Bs w (.slice a 0 0) [] := ⟨a, 0, rfl, fun _ => ⟨rfl, rfl⟩, fun _ _ j u hj => by simp [bv] at hj⟩
        obtain ⟨v2, w2, hrun, ho2, hl2⟩ := fresh_append hB9 (Nat.zero_le _)
        have hs2 := hs.below hl2 hs.lt
        have e0 : w2.cell? ⟨g, 0, none⟩ = some (.slice a 0 0) := hs2.cell 0
        have f0 := hs2.frozen 0
        have hT : ∀ u, Tr (fun b => b = g) w2 (w2.setCell ⟨g, 0, none⟩ u) := fun u => tr_cell (X := fun b => b = g) rfl
        have fin : RTook w g 0 q 0 [] (.returned v2) (w2.setCell ⟨g, 0, none⟩ (.slice a 0 0)) := ⟨v2, rfl, by
            rw [hO]
            refine ho2.keep (hT _) fun b hb2 e2 => ?_
            have := (ho2.lt b hb2).1
            have := hs.lt
            omega, by rw [hE, hR]; exact SR.drop (xs := []) (n := 0) hs2 hb hL hqg hn (.inl ⟨rfl, a, rfl⟩), (Tr.of hl2 : Tr (fun b => b = g) w w2).trans (hT _)⟩
        have H := Lib.hid fin
        clear fin hT ho2 hl2 hs2 hs hE hO hR hb hL hqg hn  h hB9
        cases a with
        | none =>
          go_enter Try.func230, Try.ntmps230
          go_wp2_with (at_builtin; refine wpList_app rfl rfl rfl rfl hrun ?_)
          go_ret
          exact H.out
        | some a =>
          go_enter Try.func230, Try.ntmps230
          go_wp2_with (at_builtin; refine wpList_app rfl rfl rfl rfl hrun ?_)
          go_ret
          exact H.out
      · obtain ⟨m, hm⟩ : ∃ m, xs.length = m := ⟨_, rfl⟩
        have hB9 : Bs w (.slice (some ⟨b, o, none⟩) n c) (xs.take n) := by
          refine ⟨some ⟨b, o, none⟩, c, by rw [List.length_take, Nat.min_eq_left hn], (fun h => (by cases h)), fun a ha j u hj => ?_⟩
          cases ha
          rw [add_off]
          unfold bv at hj
          rw [List.getElem?_map, List.getElem?_take] at hj
          split at hj
          · rcases hx9 : xs[j]? with _ | x
            · rw [hx9] at hj; cases hj
            · rw [hx9] at hj; cases hj
              exact hcell j x hx9
          · cases hj
        obtain ⟨v2, w2, hrun, ho2, hl2⟩ := fresh_append hB9 (by rw [List.length_take]; omega)
        have hs2 := hs.below hl2 hs.lt
        have e0 : w2.cell? ⟨g, 0, none⟩ = some (.slice (some ⟨b, o, none⟩) xs.length c) := hs2.cell 0
        have f0 := hs2.frozen 0
        have hT : ∀ u, Tr (fun b => b = g) w2 (w2.setCell ⟨g, 0, none⟩ u) := fun u => tr_cell (X := fun b => b = g) rfl
        have hcell2 : ∀ j x, xs[j]? = some x → w2.cell? ⟨b, o + j, none⟩ = some (.int .u8 x) := fun j x hj => (World.cell?_of_block (hl2.block b (cell_lt (hcell j x hj)))).trans (hcell j x hj)
        rw [hm] at c0 c0a e0 hn hc
        have fin : ∀ v', ((n < c ∧ v' = .slice (some ⟨b, o + n, none⟩) (m - n) (c - n)) ∨ (n = c ∧ v' = .slice (some ⟨b, o, none⟩) 0 0)) → RTook w g n q 0 xs (.returned v2) (w2.setCell ⟨g, 0, none⟩ v') := fun v' hv' => ⟨v2, rfl, by
            rw [hO]
            refine ho2.keep (hT _) fun b hb2 e2 => ?_
            have := (ho2.lt b hb2).1
            have := hs.lt
            omega, by rw [hE, hR]; exact SR.drop hs2 hb hL hqg (by omega) (SRv.drop hqb hqg (hT v') hc hm hn hcell2 hv'), (Tr.of hl2 : Tr (fun b => b = g) w w2).trans (hT _)⟩
        have hm1 : (n : Int) ≤ (m : Int) := by omega
        have hm2 : (n : Int) ≤ (c : Int) := by omega
        have hm3 : (m : Int) ≤ (c : Int) := by omega
        by_cases hcn : c = n
        · subst hcn
          obtain rfl : m = c := by omega
          have H := Lib.hid (fin _ (.inr ⟨rfl, rfl⟩))
          clear fin hT ho2 hl2 hs2 hs hE hO hR hb hL hqg hcell hcell2 h hB9 hqb hm hc hc0 hn hm2 hm3
          go_enter Try.func230, Try.ntmps230
          go_wp2_with (at_builtin; refine wpList_app rfl rfl rfl rfl hrun ?_)
          all_goals (go_ret; exact H.out)
        · have H := Lib.hid (fin _ (.inl ⟨by omega, rfl⟩))
          clear fin hT ho2 hl2 hs2 hs hE hO hR hb hL hqg hcell hcell2 h hB9 hqb hm hc0
          go_enter Try.func230, Try.ntmps230
          go_wp2_with (at_builtin; refine wpList_app rfl rfl rfl rfl hrun ?_)
          all_goals (go_ret; exact H.out)
    · have hE : tkE n 0 xs = 3 := by unfold tkE; rw [if_pos rfl, if_neg hn]
      have hO : tkO n 0 xs = [] := by unfold tkO; rw [if_pos rfl, if_neg hn]
      have hR : tkR n 0 xs = [] := by unfold tkR; rw [if_pos rfl, if_neg hn]
      obtain ⟨a, c, rfl⟩ : ∃ a c, v = .slice a xs.length c := by
        rcases hv with ⟨rfl, a, rfl⟩ | ⟨b, o, c, -, rfl, -⟩
        · exact ⟨_, _, rfl⟩
        · exact ⟨_, _, rfl⟩
      have W := Lib.hid wr
      have HH := Lib.hid (show _ ∧ _ ∧ _ from ⟨hE, hO, hR⟩)
      have hm1 : (xs.length : Int) < (n : Int) := by omega
      clear wr hE hO hR hv hs hb hL hqg h hn
      go_enter Try.func230, Try.ntmps230
      go_wp2_with fail
      refine W.out.mono ?_
      rintro r w2 ⟨⟨u, rfl⟩, hs, ht⟩
      have H := Lib.hid (show _ ∧ _ from ⟨hs, ht⟩)
      clear W hs ht
      go_wp2_with fail
      go_ret
      obtain ⟨hE, hO, hR⟩ := HH.out
      exact ⟨_, rfl, by rw [hO]; exact Ob.nil _ _, by rw [hE, hR]; exact H.out.1, H.out.2⟩
  · have H := Lib.hid (show RTook w g n q e xs (.returned (.slice none 0 0)) w from ⟨_, rfl, by unfold tkO; rw [if_neg he]; exact Ob.nil _ _, by unfold tkE tkR; rw [if_neg he, if_neg he]; rw [h.1 he] at h; exact h, Tr.refl _ _⟩)
    obtain ⟨-, -, -, -, v, hs, -⟩ := h
    have c1 : w.cell? ⟨g, 1, none⟩ = some (.int .i64 e) := hs.cell 1
    have hq : (e != 0) = true := by simpa using he
    clear hs he
    go_enter Try.func230, Try.ntmps230
    go_wp2_with fail
    go_ret
    exact H.out
theorem tkO1_len (e : Int) (xs : List Int) : (tkO 1 e xs).length ≤ 1 := by
  unfold tkO
  split
  · split
    · rw [List.length_take]; omega
    · exact Nat.zero_le _
  · exact Nat.zero_le _
set_option maxRecDepth 100000 in
set_option maxHeartbeats 2000000 in
theorem rbyte_at {w : World} {g : Nat} {q : Option Nat} {e : Int} {xs : List Int} (h : SR w g q e xs) : Calls Try.prog 182 #[.pointer (some ⟨g, 0, none⟩)] w (GotR w g q (.int .u8 (byO e xs)) (tkE 1 e xs, tkR 1 e xs)) := by
  have tk := Lib.hid (rtake_at 1 h)
  have hlen := tkO1_len e xs
  unfold byO
  obtain ⟨z, hz⟩ : ∃ z, tkO 1 e xs = z := ⟨_, rfl⟩
  rw [hz] at hlen ⊢
  clear h
  go_enter Try.func182, Try.ntmps182
  go_wp2_with fail
  refine tk.out.mono ?_
  rintro r w' ⟨u, rfl, hu, hs, ht⟩
  rw [hz] at hu
  have hu2 := hu.bs
  have H := Lib.hid (show _ ∧ _ from ⟨hs, ht⟩)
  clear tk hs ht hz hu
  obtain ⟨a, c, rfl, hq, hc⟩ := hu2
  rcases z with _ | ⟨y, ys⟩
  · clear hq hc
    go_wp2_with fail
    go_ret
    exact ⟨rfl, H.out.1, H.out.2⟩
  · obtain rfl : ys = [] := List.eq_nil_of_length_eq_zero (by simpa using hlen)
    cases a with
    | none => cases (hq rfl).2
    | some a =>
      have k0 := hc a rfl 0 _ rfl
      rw [show a.add 0 = a from by unfold Addr.add; rfl] at k0
      clear hq hc hlen
      go_wp2_with fail
      go_ret
      exact ⟨rfl, H.out.1, H.out.2⟩
set_option maxRecDepth 100000 in
set_option maxHeartbeats 2000000 in
theorem rend_at {w : World} {g : Nat} {q : Option Nat} {e : Int} {xs : List Int} (h : SR w g q e xs) : Calls Try.prog 67 #[.pointer (some ⟨g, 0, none⟩)] w (GotR w g q (.int .i64 (edE e xs)) (edE e xs, [])) := by
  by_cases he : e = 0
  · subst he
    have wr := wrong_at 4 h
    have h' := Lib.hid h
    obtain ⟨-, -, -, -, v, hs, hv⟩ := h
    have c1 : w.cell? ⟨g, 1, none⟩ = some (.int .i64 0) := hs.cell 1
    have c0 : w.cell? ⟨g, 0, none⟩ = some v := hs.cell 0
    obtain ⟨a, c, rfl⟩ : ∃ a c, v = .slice a xs.length c := by
      rcases hv with ⟨rfl, a, rfl⟩ | ⟨b, o, c, -, rfl, -⟩
      · exact ⟨_, _, rfl⟩
      · exact ⟨_, _, rfl⟩
    have W := Lib.hid wr
    clear wr hs hv
    by_cases h0 : 0 < xs.length
    · have hE : edE 0 xs = 4 := by unfold edE; rw [if_pos h0]
      rw [hE]
      have hm : (0 : Int) < (xs.length : Int) := by omega
      clear hE h0 h'
      go_enter Try.func67, Try.ntmps67
      go_wp2_with fail
      refine W.out.mono ?_
      rintro r w2 ⟨⟨u, rfl⟩, hs, ht⟩
      have c9 : w2.cell? ⟨g, 1, none⟩ = some (.int .i64 4) := by
        obtain ⟨-, -, -, -, v, hs, -⟩ := hs
        exact hs.cell 1
      have H := Lib.hid (show _ ∧ _ from ⟨hs, ht⟩)
      clear W hs ht c0 c1
      go_wp2_with fail
      go_ret
      exact ⟨rfl, H.out.1, H.out.2⟩
    · have h1 : xs = [] := List.eq_nil_of_length_eq_zero (by omega)
      subst h1
      have hE : edE 0 [] = 0 := by unfold edE; rfl
      rw [hE]
      clear hE h0 W
      go_enter Try.func67, Try.ntmps67
      go_wp2_with fail
      go_ret
      exact ⟨rfl, h'.out, Tr.refl _ _⟩
  · obtain rfl := h.1 he
    have hE : edE e [] = e := by unfold edE; rw [if_neg (by simp)]
    rw [hE]
    have H := Lib.hid h
    obtain ⟨-, -, -, -, v, hs, -⟩ := h
    have c1 : w.cell? ⟨g, 1, none⟩ = some (.int .i64 e) := hs.cell 1
    have hq : (e == 0) = false := by rw [beq_eq_false_iff_ne]; exact he
    clear hs he hE
    go_enter Try.func67, Try.ntmps67
    go_wp2_with fail
    go_ret
    exact ⟨rfl, H.out, Tr.refl _ _⟩
/-! ### Var -/
set_option maxRecDepth 100000 in
set_option maxHeartbeats 16000000 in
theorem rvar_at {w : World} {g : Nat} {q : Option Nat} {e : Int} {xs : List Int} (most : Int) (h : SR w g q e xs) : Calls Try.prog 178 #[.pointer (some ⟨g, 0, none⟩), .int .i64 most] w (GotR w g q (.int .i64 (((gV most (e, xs)).1 : Nat) : Int)) (gV most (e, xs)).2) := by
  by_cases he : e = 0
  · subst he
    have wr := Lib.hid (fun c => wrong_at c h)
    have hsp := grp_spec xs 0 (by omega)
    obtain ⟨ke, kn, hk⟩ : ∃ ke kn, grp 0 xs = (ke, kn) := ⟨_, _, rfl⟩
    rw [hk] at hsp
    have HB := Lib.hid (show ∀ c w' , ke = c → c ≠ 0 → SR w' g q c [] → Tr (fun b => b = g) w w' → GotR w g q (.int .i64 (((gV most (0, xs)).1 : Nat) : Int)) (gV most (0, xs)).2 (.returned (.int .i64 0)) w' from fun c w' hc h0 h1 h2 => by
      subst hc
      have hE : svE most 0 xs = ke := by unfold svE; rw [if_pos rfl, hk, if_neg h0]
      unfold gV svN svR
      simp only
      rw [hE, if_neg h0, if_neg h0]
      exact ⟨rfl, h1, h2⟩)
    have HR := Lib.hid (show ∀ G w', ke = 0 → gval (xs.take kn) = G → most < (G : Int) → SR w' g q 5 [] → Tr (fun b => b = g) w w' → GotR w g q (.int .i64 (((gV most (0, xs)).1 : Nat) : Int)) (gV most (0, xs)).2 (.returned (.int .i64 0)) w' from fun G w' hc hG hm h1 h2 => by
      subst hc
      have hE : svE most 0 xs = 5 := by unfold svE; rw [if_pos rfl, hk]; simp only; rw [if_pos trivial, hG, if_pos hm]
      unfold gV svN svR
      simp only
      rw [hE, if_neg (by decide), if_neg (by decide)]
      exact ⟨rfl, h1, h2⟩)
    have HG := Lib.hid (show ∀ G w', ke = 0 → gval (xs.take kn) = G → ¬ most < (G : Int) → SR w' g q 0 (xs.drop kn) → Tr (fun b => b = g) w w' → GotR w g q (.int .i64 (((gV most (0, xs)).1 : Nat) : Int)) (gV most (0, xs)).2 (.returned (.int .i64 (G : Int))) w' from fun G w' hc hG hm h1 h2 => by
      subst hc
      have hE : svE most 0 xs = 0 := by unfold svE; rw [if_pos rfl, hk]; simp only; rw [if_pos trivial, hG, if_neg hm]
      unfold gV svN svR
      simp only
      rw [hE, if_pos rfl, if_pos rfl, hk]
      simp only
      rw [hG]
      exact ⟨rfl, h1, h2⟩)
    have hk0 := Lib.hid (show grp 0 (xs.drop 0) = (ke, kn) from hk)
    have H0 := Lib.hid h
    obtain ⟨-, hb, hL, hqg, v, hs, hv⟩ := h
    have c1 : w.cell? ⟨g, 1, none⟩ = some (.int .i64 0) := hs.cell 1
    have c0 : w.cell? ⟨g, 0, none⟩ = some v := hs.cell 0
    have f0 := hs.frozen 0
    rcases hv with ⟨rfl, a, rfl⟩ | ⟨b, o, c, hqb, rfl, hc, hc0, hcell⟩
    · have e3 : ke = 3 := by
        have : grp 0 [] = (3, 0) := rfl
        rw [hk] at this
        injection this
      have hB := Lib.hid (HB.out 3 · e3 (by decide))
      clear HB HR HG hk hk0 hsp hb hL hqg  hs H0
      go_enter Try.func178, Try.ntmps178
      go_wp2_with fail
      go_loopg [5, 6, 7, 8] 0 (fun gg s5 s6 s7 s8 wr => s6 = .int .i64 0 ∧ wr = w)
      case atStart => exact ⟨rfl, rfl⟩
      case round =>
        obtain ⟨rfl, rfl⟩ := hrel
        go_wp2_with fail
        refine (wr.out 3).mono ?_
        rintro r w' ⟨⟨u, rfl⟩, hs, ht⟩
        have H := Lib.hid (hB.out w' hs ht)
        clear hs ht wr hB
        go_wp2_with fail
        go_ret
        exact H.out
    · obtain ⟨m, hm⟩ : ∃ m, xs.length = m := ⟨_, rfl⟩
      have hT : ∀ u, Tr (fun b => b = g) w (w.setCell ⟨g, 0, none⟩ u) := fun u => tr_cell (X := fun b => b = g) rfl
      have fin := Lib.hid (show ∀ n v', n ≤ m → ((n < c ∧ v' = .slice (some ⟨b, o + n, none⟩) (m - n) (c - n)) ∨ (n = c ∧ v' = .slice (some ⟨b, o, none⟩) 0 0)) → SR (w.setCell ⟨g, 0, none⟩ v') g q 0 (xs.drop n) ∧ Tr (fun b => b = g) w (w.setCell ⟨g, 0, none⟩ v') from fun n v' hn hv' => ⟨SR.drop hs hb hL hqg (by omega) (SRv.drop hqb hqg (hT v') (by omega) hm hn hcell hv'), hT v'⟩)
      have hf : Hid (∀ i : Nat, i < m → ∃ y : Int, xs.drop i = y :: xs.drop (i + 1) ∧ 0 ≤ y ∧ y < 256 ∧ w.cell? ⟨b, o + i, none⟩ = some (.int .u8 y) ∧ gval (xs.take (i + 1)) = gval (xs.take i) + (y % 128).toNat * 128 ^ i ∧ gval (xs.take i) < 128 ^ i) := Lib.hid fun i hi => by
        have hi2 : i < xs.length := by omega
        have h1 : xs[i]? = some xs[i] := List.getElem?_eq_getElem hi2
        refine ⟨xs[i], List.drop_eq_getElem_cons hi2, (hb _ (List.getElem_mem _)).1, (hb _ (List.getElem_mem _)).2, hcell i _ h1, ?_, ?_⟩
        · rw [List.take_succ_eq_append_getElem hi2, gval_snoc, List.length_take, Nat.min_eq_left (by omega)]
        · have := gval_lt (xs.take i)
          rwa [List.length_take, Nat.min_eq_left (by omega)] at this
      have hd : Hid (xs.drop m = []) := Lib.hid (List.drop_eq_nil_of_le (by omega))
      have hg0 : gval (xs.take 0) = 0 := rfl
      rw [hm] at c0 hc hL
      clear hT hk hsp hb hqg hqb hs hcell hm H0 hc0
      go_enter Try.func178, Try.ntmps178
      go_wp2_with fail
      go_loopg [5, 6, 7, 8] m (fun gg s5 s6 s7 s8 wr => ∃ i n : Nat, i + gg = m ∧ i ≤ 9 ∧ s5 = .int .i64 (n : Int) ∧ s6 = .int .i64 (i : Int) ∧ wr = w ∧ Hid (gval (xs.take i) = n) ∧ Hid (grp i (xs.drop i) = (ke, kn)))
      case atStart => exact ⟨0, 0, by omega, by omega, rfl, rfl, rfl, Lib.hid rfl, hk0⟩
      case round =>
        obtain ⟨gk0, rfl⟩ : ∃ m : Nat, m = gk := ⟨_, rfl⟩
        obtain ⟨i, n, hik, hi9, rfl, rfl, hw, hn, hk⟩ := hrel
        replace hw := hw.symm
        subst hw
        by_cases him : i < m
        · obtain ⟨y, hdr, hy0, hy1, cy, hg1, hg2⟩ := hf.out i him
          have hk2 := hk.out
          rw [hdr] at hk2
          unfold grp at hk2
          have hlt : (i : Int) < (m : Int) := by omega
          by_cases h9 : i = 9
          · rw [if_pos h9] at hk2
            injection hk2 with e1 e2
            have hB := Lib.hid (HB.out 4 · e1.symm (by decide))
            subst h9
            clear e1 e2
            clear hdr hk hk0 hg1 hg2 HB HR HG fin hf hd hn
            go_wp2_with fail
            refine (wr.out 4).mono ?_
            rintro r w' ⟨⟨u, rfl⟩, hs, ht⟩
            have H := Lib.hid (hB.out w' hs ht)
            clear hs ht wr hB
            go_wp2_with fail
            go_ret
            exact H.out
          · rw [if_neg h9] at hk2
            have h9' : ¬ (i : Int) = 9 := by omega
            have h9q : ((i : Int) == 9) = false := by rw [beq_eq_false_iff_ne]; omega
            have wi : IntKind.i64.wrap ((i : Int) + 1) = (i : Int) + 1 := by rw [IntKind.wrap_i64]; omega
            obtain ⟨z, hz⟩ : ∃ z, (y % 128).toNat = z := ⟨_, rfl⟩
            have hz2 : y % 128 = (z : Int) := by omega
            have hzt : y.tmod 128 = (z : Int) := by rw [Int.tmod_eq_emod_of_nonneg hy0]; exact hz2
            have wz : IntKind.i64.wrap (z : Int) = (z : Int) := by rw [IntKind.wrap_i64]; omega
            have hz128 : z < 128 := by omega
            rw [hz, hn.out] at hg1
            rw [hn.out] at hg2
            have hpw := Lib.hid (show ∀ j, j ≤ i → z * 128 ^ j < 9223372036854775808 from fun j hj => by
              have h1 : 128 ^ j ≤ 128 ^ 8 := Nat.pow_le_pow_right (by decide) (by omega)
              have h2 : z * 128 ^ j ≤ 127 * 128 ^ 8 := Nat.mul_le_mul (by omega) h1
              omega)
            have hsum : n + z * 128 ^ i < 9223372036854775808 := by
              have h1 : 128 ^ i ≤ 128 ^ 8 := Nat.pow_le_pow_right (by decide) (by omega)
              have h2 : z * 128 ^ i ≤ 127 * 128 ^ 8 := Nat.mul_le_mul (by omega) h1
              have h3 : (128 : Nat) ^ 8 = 72057594037927936 := by decide
              omega
            obtain ⟨S, hS⟩ : ∃ S, z * 128 ^ i = S := ⟨_, rfl⟩
            rw [hS] at hg1 hsum
            have wn : IntKind.i64.wrap ((n : Int) + (S : Int)) = ((n + S : Nat) : Int) := by rw [IntKind.wrap_i64]; omega
            have HN := Lib.hid hg1
            have HD := Lib.hid hdr
            have HS := Lib.hid hS
            clear hg1 hg2 hdr hsum hS hz hz2 hk
            go_wp2_with fail
            go_loopg [7, 8] i (fun gg s7 s8 wr => ∃ j d : Nat, j + gg = i ∧ s7 = .int .i64 (d : Int) ∧ s8 = .int .i64 (j : Int) ∧ wr = w ∧ Hid (z * 128 ^ j = d))
            case atStart => exact ⟨0, z, by omega, rfl, rfl, rfl, Lib.hid (by simp)⟩
            case round =>
              obtain ⟨j, d, hji, rfl, rfl, hw, hd2⟩ := hrel
              replace hw := hw.symm
              subst hw
              by_cases hlt2 : j < i
              · have hlt3 : (j : Int) < (i : Int) := by omega
                have hb2 := hpw.out (j + 1) (by omega)
                rw [Nat.pow_succ, ← Nat.mul_assoc, hd2.out] at hb2
                have wd : IntKind.i64.wrap ((d : Int) * 128) = ((d * 128 : Nat) : Int) := by rw [IntKind.wrap_i64]; omega
                have wj : IntKind.i64.wrap ((j : Int) + 1) = (j : Int) + 1 := by rw [IntKind.wrap_i64]; omega
                have hn2 := Lib.hid (show z * 128 ^ (j + 1) = d * 128 by rw [Nat.pow_succ, ← Nat.mul_assoc, hd2.out])
                clear hb2
                go_wp2_with fail
                go_roundg (gk - 1)
                case measure => omega
                case rel => exact ⟨j + 1, d * 128, by omega, by go_num, by go_num, rfl, hn2⟩
              · obtain rfl : j = i := by omega
                obtain rfl : d = S := hd2.out.symm.trans HS.out
                clear hpw hd2
                by_cases hc1 : 128 ≤ y
                · rw [if_pos hc1] at hk2
                  have hn2 := Lib.hid hk2
                  have hn3 := Lib.hid HN.out
                  clear hk2
                  go_wp2_with fail
                  go_roundg (gk0 - 1)
                  case measure => omega
                  case rel => exact ⟨j + 1, n + d, by omega, by omega, by go_num, by go_num, rfl, hn3, hn2⟩
                · rw [if_neg hc1] at hk2
                  have hc2 : y < 128 := by omega
                  by_cases h0 : y = 0 ∧ 0 < j
                  · rw [if_pos h0] at hk2
                    injection hk2 with e1 e2
                    have hB := Lib.hid (HB.out 4 · e1.symm (by decide))
                    clear e1 e2
                    obtain ⟨rfl, h0⟩ := h0
                    have hp : (0 : Int) < (j : Int) := by omega
                    clear HB HR HG fin hf hd
                    go_wp2_with fail
                    refine (wr.out 4).mono ?_
                    rintro r w' ⟨⟨u, rfl⟩, hs, ht⟩
                    have H := Lib.hid (hB.out w' hs ht)
                    clear hs ht wr hB
                    go_wp2_with fail
                    go_ret
                    exact H.out
                  · rw [if_neg h0] at hk2
                    injection hk2 with e1 e2
                    subst e1
                    subst e2
                    have hcond : (j : Int) ≤ 0 ∨ (0 : Int) < (j : Int) ∧ (y == 0) = false := by
                      rcases Nat.eq_zero_or_pos j with h | h
                      · exact .inl (by omega)
                      · refine .inr ⟨by omega, ?_⟩
                        rw [beq_eq_false_iff_ne]
                        exact fun e => h0 ⟨e, h⟩
                    clear h0
                    by_cases hm5 : most < ((n + d : Nat) : Int)
                    · have hR := Lib.hid (HR.out (n + d) · rfl HN.out (by first | exact hm5 | omega))
                      have hm6 : most < (n : Int) + (d : Int) := by omega
                      clear HB HR HG fin hf hd
                      rcases hcond with hcond | ⟨hcond, hcq⟩
                      all_goals
                        go_wp2_with fail
                        refine (wr.out 5).mono ?_
                        rintro r w' ⟨⟨u, rfl⟩, hs, ht⟩
                        have H := Lib.hid (hR.out w' hs ht)
                        clear hs ht wr hR
                        go_wp2_with fail
                        go_ret
                        exact H.out
                    · have hm6 : (n : Int) + (d : Int) ≤ most := by omega
                      have hm7 : (j : Int) + 1 ≤ (m : Int) := by omega
                      have hm8 : (j : Int) + 1 ≤ (c : Int) := by omega
                      have hm9 : (m : Int) ≤ (c : Int) := by omega
                      have ht1 : ((j : Int) + 1).toNat = j + 1 := by omega
                      by_cases hcn : c = j + 1
                      · subst hcn
                        obtain rfl : m = j + 1 := by omega
                        obtain ⟨f1, f2⟩ := fin.out (j + 1) _ (by omega) (.inr ⟨rfl, rfl⟩)
                        have H := Lib.hid (HG.out (n + d) _ rfl HN.out (by first | exact hm5 | omega) f1 f2)
                        clear HB HR HG fin hf hd hm5 f1 f2 wr
                        rcases hcond with hcond | ⟨hcond, hcq⟩
                        all_goals
                          go_wp2_with fail
                          all_goals (go_ret; exact H.out)
                      · obtain ⟨f1, f2⟩ := fin.out (j + 1) _ (by omega) (.inl ⟨by omega, rfl⟩)
                        have H := Lib.hid (HG.out (n + d) _ rfl HN.out (by first | exact hm5 | omega) f1 f2)
                        clear HB HR HG fin hf hd hm5 f1 f2 wr
                        rcases hcond with hcond | ⟨hcond, hcq⟩
                        all_goals
                          go_wp2_with fail
                          all_goals (go_ret; exact H.out)
        · obtain rfl : i = m := by omega
          have hk2 := hk.out
          rw [hd.out] at hk2
          have e : grp i [] = (3, 0) := rfl
          rw [e] at hk2
          injection hk2 with e1 e2
          have hB := Lib.hid (HB.out 3 · e1.symm (by decide))
          clear e1 e2
          clear hk hk0 e hi9 HB HR HG fin hf hd hn
          go_wp2_with fail
          refine (wr.out 3).mono ?_
          rintro r w' ⟨⟨u, rfl⟩, hs, ht⟩
          have H := Lib.hid (hB.out w' hs ht)
          clear hs ht wr hB
          go_wp2_with fail
          go_ret
          exact H.out
  · obtain rfl := h.1 he
    rw [gV_fault he]
    have H := Lib.hid h
    obtain ⟨-, -, -, -, v, hs, -⟩ := h
    have c1 : w.cell? ⟨g, 1, none⟩ = some (.int .i64 e) := hs.cell 1
    have hq : (e != 0) = true := by simpa using he
    clear hs he
    go_enter Try.func178, Try.ntmps178
    go_wp2_with fail
    go_ret
    exact ⟨rfl, H.out, Tr.refl _ _⟩
end Go.Proofs.Ytpdenhmkpiafiaa
