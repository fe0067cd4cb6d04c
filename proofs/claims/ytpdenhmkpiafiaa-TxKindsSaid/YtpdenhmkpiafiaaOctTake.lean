/-
  octet.Source over any bytes: ok (174), fail (176), take (177), Left (64), Err (66), End (61), Byte (69).
-/
import Derived.Test.YtpdenhmkpiafiaaOctSrc
namespace Go.Proofs.Ytpdenhmkpiafiaa
open Go Go.RowKit K6

/-- a source's state: its fault (0: none) and the bytes left; its blocks lie from lo to below hi -/
def SA (w : World) (lo hi g : Nat) (e : Int) (xs : List Int) : Prop :=
  lo ≤ g ∧ g < hi ∧ (e ≠ 0 → xs = []) ∧ (∀ x ∈ xs, 0 ≤ x ∧ x < 256) ∧ xs.length ≤ 100000000 ∧
  ∃ v, Src w g v e true ∧ ((v = .slice none 0 0 ∧ xs = []) ∨ ∃ b o c, lo ≤ b ∧ b < hi ∧ b ≠ g ∧ v = .slice (some ⟨b, o, none⟩) xs.length c ∧ xs.length ≤ c ∧ ∀ j x, xs[j]? = some x → w.cell? ⟨b, o + j, none⟩ = some (.int .u8 x))
theorem SA.lt {w : World} {lo hi g : Nat} {e : Int} {xs : List Int} (h : SA w lo hi g e xs) : g < w.heap.size := by
  obtain ⟨-, -, -, -, -, v, hs, -⟩ := h
  exact Row.lt hs
theorem SA.keep {X : Nat → Prop} {w w' : World} {lo hi g : Nat} {e : Int} {xs : List Int} (h : SA w lo hi g e xs) (hT : Tr X w w') (hX : ∀ b, lo ≤ b → b < hi → ¬ X b) : SA w' lo hi g e xs := by
  obtain ⟨h1, hh, h2, h3, h4, v, hs, hv⟩ := h
  refine ⟨h1, hh, h2, h3, h4, v, Row.tr hs hT (hX g h1 hh), ?_⟩
  rcases hv with hv | ⟨b, o, c, hb, hbh, hbg, rfl, hc, hcell⟩
  · exact .inl hv
  · refine .inr ⟨b, o, c, hb, hbh, hbg, rfl, hc, fun j x hj => ?_⟩
    have h5 := hcell j x hj
    rw [← h5]
    exact World.cell?_of_block (hT.block b (cell_lt h5) (hX b hb hbh))
theorem SA.below {w w' : World} {lo hi g : Nat} {e : Int} {xs : List Int} (h : SA w lo hi g e xs) (hb : Below w.heap.size w w') : SA w' lo hi g e xs := h.keep (X := None_) (Tr.of hb) fun _ _ _ => id
theorem SA.widen {w : World} {lo hi lo' hi' g : Nat} {e : Int} {xs : List Int} (h : SA w lo hi g e xs) (hl : lo' ≤ lo) (hr : hi ≤ hi') : SA w lo' hi' g e xs := by
  obtain ⟨h1, hh, h2, h3, h4, v, hs, hv⟩ := h
  refine ⟨Nat.le_trans hl h1, Nat.lt_of_lt_of_le hh hr, h2, h3, h4, v, hs, ?_⟩
  rcases hv with hv | ⟨b, o, c, hb, hbh, rest⟩
  · exact .inl hv
  · exact .inr ⟨b, o, c, Nat.le_trans hl hb, Nat.lt_of_lt_of_le hbh hr, rest⟩
/-- Read's source -/
theorem NewSrc.sa {w w' : World} {xs : List Int} {r : Ending} (h : NewSrc w xs r w') (hx : ∀ x ∈ xs, 0 ≤ x ∧ x < 256) (hL : xs.length ≤ 100000000) : ∃ g, r = .returned (.pointer (some ⟨g, 0, none⟩)) ∧ SA w' w.heap.size w'.heap.size g 0 xs ∧ Below w.heap.size w w' := by
  obtain ⟨g, v, rfl, hg, hs, ho, hne, hb⟩ := h
  refine ⟨g, rfl, ⟨hg, Row.lt hs, (fun h => absurd rfl h), hx, hL, v, hs, ?_⟩, hb⟩
  rcases id ho.2 with ⟨rfl, h0⟩ | ⟨b, cap, cur, rfl, h1, h2, h3, -⟩
  · exact .inl ⟨rfl, List.eq_nil_of_length_eq_zero h0⟩
  · refine .inr ⟨b, 0, cap, h1, (ho.lt b rfl).2, hne b rfl, rfl, h3, fun j x hj => ?_⟩
    rw [← add_at]
    exact World.ownsRow.cells ho (g := b) rfl j _ (by unfold bv; rw [List.getElem?_map, hj]; rfl)
set_option maxRecDepth 100000 in
theorem ok_shut {w : World} {g : Nat} {v : Value} {e : Int} (h : Src w g v e true) (he : e ≠ 0) : Calls Try.prog 174 #[.pointer (some ⟨g, 0, none⟩)] w fun e w' => e = .returned (.bool false) ∧ w' = w := by
  have c1 : w.cell? ⟨g, 1, none⟩ = some (.int .i64 e) := h.cell 1
  have c2 : w.cell? ⟨g, 2, none⟩ = some (.bool true) := h.cell 2
  have hq : (e == 0) = false := by rw [beq_eq_false_iff_ne]; exact he
  clear h
  go_enter Try.func174, Try.ntmps174
  go_wp2_with fail
  go_ret
  exact ⟨by simp, rfl⟩
theorem ok_at {w : World} {lo hi g : Nat} {e : Int} {xs : List Int} (h : SA w lo hi g e xs) : Calls Try.prog 174 #[.pointer (some ⟨g, 0, none⟩)] w fun r w' => r = .returned (.bool (decide (e = 0))) ∧ w' = w := by
  obtain ⟨-, -, -, -, -, v, hs, -⟩ := h
  by_cases he : e = 0
  · subst he; exact ok_true hs
  · rw [decide_eq_false he]; exact ok_shut hs he
set_option maxRecDepth 100000 in
set_option maxHeartbeats 2000000 in
theorem fail_at {w : World} {lo hi g : Nat} {e : Int} {xs : List Int} (c : Int) (h : SA w lo hi g e xs) : Calls Try.prog 176 #[.pointer (some ⟨g, 0, none⟩), .int .i64 c] w fun r w' => (∃ u, r = .returned u) ∧ SA w' lo hi g (if e = 0 then c else e) [] ∧ Tr (fun b => b = g) w w' := by
  by_cases he : e = 0
  · subst he
    obtain ⟨h1, hh, -, -, -, v, hs, -⟩ := h
    refine (fail_any c hs).mono fun r w' ⟨hr, hs', ht⟩ => ⟨hr, ⟨h1, hh, fun _ => rfl, (fun x hx => (by cases hx)), Nat.zero_le _, _, hs', .inl ⟨rfl, rfl⟩⟩, ht⟩
  · have ok := Lib.hid (ok_at h)
    rw [decide_eq_false he] at ok
    have H := Lib.hid (show SA w lo hi g e [] by rw [h.2.2.1 he] at h; exact h)
    clear h
    go_enter Try.func176, Try.ntmps176
    go_wp2_with fail
    refine ok.out.mono ?_
    rintro r w' ⟨rfl, rfl⟩
    go_wp2_with fail
    first | (refine bodyPost_ret (results_none rfl _ _ _) rfl ?_) | (refine bodyPost_end (results_none rfl _ _ _) rfl ?_)
    exact ⟨⟨_, rfl⟩, H.out, Tr.refl _ _⟩

/-! ### take -/
def tkE (n : Nat) (e : Int) (xs : List Int) : Int := if e = 0 then (if n ≤ xs.length then 0 else 3) else e
def tkO (n : Nat) (e : Int) (xs : List Int) : List Int := if e = 0 then (if n ≤ xs.length then xs.take n else []) else []
def tkR (n : Nat) (e : Int) (xs : List Int) : List Int := if e = 0 then (if n ≤ xs.length then xs.drop n else []) else []
def Took (w : World) (lo hi g n : Nat) (e : Int) (xs : List Int) (r : Ending) (w' : World) : Prop := ∃ u, r = .returned u ∧ Bs w' u (tkO n e xs) ∧ (∀ b, u.ownBlock = some b → lo ≤ b ∧ b < hi ∧ b ≠ g) ∧ SA w' lo hi g (tkE n e xs) (tkR n e xs) ∧ Tr (fun b => b = g) w w'
set_option maxRecDepth 100000 in
set_option maxHeartbeats 4000000 in
theorem take_at {w : World} {lo hi g : Nat} {e : Int} {xs : List Int} (n : Nat) (h : SA w lo hi g e xs) : Calls Try.prog 177 #[.pointer (some ⟨g, 0, none⟩), .int .i64 (n : Int)] w (Took w lo hi g n e xs) := by
  have ok := Lib.hid (ok_at h)
  by_cases he : e = 0
  · subst he
    rw [decide_eq_true rfl] at ok
    by_cases hn : n ≤ xs.length
    · obtain ⟨h1, hh, -, h3, h4, v, hs, hv⟩ := h
      have hE : tkE n 0 xs = 0 := by unfold tkE; rw [if_pos rfl, if_pos hn]
      have hO : tkO n 0 xs = xs.take n := by unfold tkO; rw [if_pos rfl, if_pos hn]
      have hR : tkR n 0 xs = xs.drop n := by unfold tkR; rw [if_pos rfl, if_pos hn]
      have c0 : w.cell? ⟨g, 0, none⟩ = some v := hs.cell 0
      have f0 := hs.frozen 0
      rcases hv with ⟨rfl, rfl⟩ | ⟨b, o, c, hb, hbh, hbg, rfl, hc, hcell⟩
      · obtain rfl : n = 0 := Nat.le_zero.1 hn
        have fin : Took w lo hi g 0 0 [] (.returned (.slice none 0 0)) (w.setCell ⟨g, 0, none⟩ (.slice none 0 0)) := ⟨_, rfl, by rw [hO]; exact Bs.nil _, (fun b hb => (by cases hb)), by rw [hE, hR]; exact ⟨h1, hh, (fun h => absurd rfl h), (fun x hx => (by cases hx)), Nat.zero_le _, _, Row.congr (Row.set hs 0 _) rfl, .inl ⟨rfl, rfl⟩⟩, tr_cell rfl⟩
        have H := Lib.hid fin
        clear fin hE hO hR h3 h4 hn h1 hs
        go_enter Try.func177, Try.ntmps177
        go_wp2_with fail
        refine ok.out.mono ?_
        rintro r w' ⟨rfl, rfl⟩
        clear ok
        go_wp2_with fail
        go_ret
        exact H.out
      · have hx : ∀ v', Row (w.setCell ⟨g, 0, none⟩ v') g 72 #[v', .int .i64 0, .bool true] := fun v' => Row.congr (Row.set hs 0 v') rfl
        have hT : ∀ v', Tr (fun b => b = g) w (w.setCell ⟨g, 0, none⟩ v') := fun v' => tr_cell (X := fun b => b = g) rfl
        have hcl : ∀ v' j x, xs[j]? = some x → (w.setCell ⟨g, 0, none⟩ v').cell? ⟨b, o + j, none⟩ = some (.int .u8 x) := fun v' j x hj => by
          rw [← hcell j x hj]
          exact World.cell?_of_block ((hT v').block b (cell_lt (hcell j x hj)) hbg)
        have hd3 : ∀ x ∈ xs.drop n, 0 ≤ x ∧ x < 256 := fun x hx => h3 x (List.mem_of_mem_drop hx)
        have fin : ∀ v', (v' = .slice (some ⟨b, o + n, none⟩) (xs.length - n) (c - n) ∨ n = c ∧ v' = .slice (some ⟨b, o, none⟩) 0 0) → Took w lo hi g n 0 xs (.returned (.slice (some ⟨b, o, none⟩) n n)) (w.setCell ⟨g, 0, none⟩ v') := fun v' hv' => by
          refine ⟨_, rfl, ?_, (fun b' hb' => by cases hb'; exact ⟨hb, hbh, hbg⟩), ?_, hT v'⟩
          · rw [hO]
            refine ⟨some ⟨b, o, none⟩, n, by rw [List.length_take, Nat.min_eq_left hn], (fun h => (by cases h)), fun a ha j u hj => ?_⟩
            cases ha
            rw [add_off]
            unfold bv at hj
            rw [List.getElem?_map, List.getElem?_take] at hj
            split at hj
            · rcases hx9 : xs[j]? with _ | x
              · rw [hx9] at hj; cases hj
              · rw [hx9] at hj; cases hj
                exact hcl v' j x hx9
            · cases hj
          · rw [hE, hR]
            refine ⟨h1, hh, (fun h => absurd rfl h), hd3, by rw [List.length_drop]; omega, v', hx v', ?_⟩
            rcases hv' with rfl | ⟨rfl, rfl⟩
            · refine .inr ⟨b, o + n, c - n, hb, hbh, hbg, by rw [List.length_drop], by rw [List.length_drop]; omega, fun j x hj => ?_⟩
              rw [List.getElem?_drop] at hj
              rw [Nat.add_assoc]
              exact hcl _ _ _ hj
            · refine .inr ⟨b, o, 0, hb, hbh, hbg, by rw [List.length_drop, Nat.sub_eq_zero_of_le hc], by rw [List.length_drop]; omega, fun j x hj => ?_⟩
              rw [List.getElem?_drop, List.getElem?_eq_none (by omega)] at hj
              cases hj
        obtain ⟨m, hm⟩ : ∃ m, xs.length = m := ⟨_, rfl⟩
        rw [hm] at c0 hn hc h4
        have hm1 : (n : Int) ≤ (m : Int) := by omega
        have hm2 : (n : Int) ≤ (c : Int) := by omega
        have hm3 : (m : Int) ≤ (c : Int) := by omega
        by_cases hcn : c = n
        · subst hcn
          obtain rfl : m = c := by omega
          have H := Lib.hid (fin _ (.inr ⟨rfl, rfl⟩))
          clear fin hE hO hR hd3 hcl hT hx hcell h3 h4 hs
          go_enter Try.func177, Try.ntmps177
          go_wp2_with fail
          refine ok.out.mono ?_
          rintro r w' ⟨rfl, rfl⟩
          clear ok
          go_wp2_with fail
          all_goals (go_ret; exact H.out)
        · have H := Lib.hid (fin _ (.inl rfl))
          rw [hm] at H
          clear fin hE hO hR hd3 hcl hT hx hcell h3 h4 hs
          go_enter Try.func177, Try.ntmps177
          go_wp2_with fail
          refine ok.out.mono ?_
          rintro r w' ⟨rfl, rfl⟩
          clear ok
          go_wp2_with fail
          all_goals (go_ret; exact H.out)
    · have hE : tkE n 0 xs = 3 := by unfold tkE; rw [if_pos rfl, if_neg hn]
      have hO : tkO n 0 xs = [] := by unfold tkO; rw [if_pos rfl, if_neg hn]
      have hR : tkR n 0 xs = [] := by unfold tkR; rw [if_pos rfl, if_neg hn]
      have hf := Lib.hid (fail_at 3 h)
      obtain ⟨h1, hh, -, h3, h4, v, hs, hv⟩ := h
      have c0 : w.cell? ⟨g, 0, none⟩ = some v := hs.cell 0
      have hE' := Lib.hid (show tkE n 0 xs = 3 ∧ tkO n 0 xs = [] ∧ tkR n 0 xs = [] from ⟨hE, hO, hR⟩)
      obtain ⟨q, c, rfl⟩ : ∃ q c, v = .slice q xs.length c := by
        rcases hv with ⟨rfl, rfl⟩ | ⟨b, o, c, hb, hbh, hbg, rfl, hc, hcell⟩
        · exact ⟨_, _, rfl⟩
        · exact ⟨_, _, rfl⟩
      clear hv hE hO hR h3 h1 hs
      have hm1 : (xs.length : Int) < (n : Int) := by omega
      go_enter Try.func177, Try.ntmps177
      go_wp2_with fail
      refine ok.out.mono ?_
      rintro r w' ⟨rfl, rfl⟩
      clear ok
      go_wp2_with fail
      refine hf.out.mono ?_
      rintro r w2 ⟨⟨u, rfl⟩, hs, ht⟩
      have H := Lib.hid (show _ ∧ _ from ⟨hs, ht⟩)
      clear hf hs ht
      go_wp2_with fail
      go_ret
      refine ⟨_, rfl, ?_, (fun b hb => (by cases hb)), ?_, H.out.2⟩
      · rw [hE'.out.2.1]; exact Bs.nil _
      · rw [hE'.out.1, hE'.out.2.2]; exact H.out.1
  · rw [decide_eq_false he] at ok
    have H := Lib.hid (show Took w lo hi g n e xs (.returned (.slice none 0 0)) w from ⟨_, rfl, by unfold tkO; rw [if_neg he]; exact Bs.nil _, (fun b hb => (by cases hb)), by unfold tkE tkR; rw [if_neg he, if_neg he]; rw [h.2.2.1 he] at h; exact h, Tr.refl _ _⟩)
    clear h
    go_enter Try.func177, Try.ntmps177
    go_wp2_with fail
    refine ok.out.mono ?_
    rintro r w' ⟨rfl, rfl⟩
    clear ok
    go_wp2_with fail
    go_ret
    exact H.out
/-! ### Left, Err, End, Byte -/
theorem SA.len {w : World} {lo hi g : Nat} {e : Int} {xs : List Int} (h : SA w lo hi g e xs) : ∃ q c, w.cell? ⟨g, 0, none⟩ = some (.slice q xs.length c) ∨ e ≠ 0 := by
  obtain ⟨-, -, h2, -, -, v, hs, hv⟩ := h
  rcases hv with ⟨rfl, rfl⟩ | ⟨b, o, c, -, -, -, rfl, -⟩
  · exact ⟨none, 0, .inl (hs.cell 0)⟩
  · exact ⟨_, _, .inl (hs.cell 0)⟩
def lfO (e : Int) (xs : List Int) : Nat := if e = 0 then xs.length else 0
set_option maxRecDepth 100000 in
set_option maxHeartbeats 2000000 in
theorem left_at {w : World} {lo hi g : Nat} {e : Int} {xs : List Int} (h : SA w lo hi g e xs) : Calls Try.prog 64 #[.pointer (some ⟨g, 0, none⟩)] w fun r w' => r = .returned (.int .i64 ((xs.length : Nat) : Int)) ∧ w' = w := by
  have ok := Lib.hid (ok_at h)
  by_cases he : e = 0
  · subst he
    rw [decide_eq_true rfl] at ok
    obtain ⟨q, c, c0⟩ := h.len
    replace c0 := c0.resolve_right (fun h => h rfl)
    clear h
    go_enter Try.func64, Try.ntmps64
    go_wp2_with fail
    refine ok.out.mono ?_
    rintro r w' ⟨rfl, rfl⟩
    clear ok
    go_wp2_with fail
    go_ret
    exact ⟨rfl, rfl⟩
  · rw [decide_eq_false he] at ok
    obtain rfl := h.2.2.1 he
    clear h
    go_enter Try.func64, Try.ntmps64
    go_wp2_with fail
    refine ok.out.mono ?_
    rintro r w' ⟨rfl, rfl⟩
    clear ok
    go_wp2_with fail
    go_ret
    exact ⟨rfl, rfl⟩
theorem err_at {w : World} {lo hi g : Nat} {e : Int} {xs : List Int} (h : SA w lo hi g e xs) : Calls Try.prog 66 #[.pointer (some ⟨g, 0, none⟩)] w fun r w' => r = .returned (.int .i64 e) ∧ w' = w := by
  obtain ⟨-, -, -, -, -, v, hs, -⟩ := h
  exact err_row hs
def edE (e : Int) (xs : List Int) : Int := if 0 < xs.length then 4 else e
theorem edE_zero {e : Int} {xs : List Int} : edE e xs = 0 ↔ e = 0 ∧ xs = [] := by
  unfold edE
  split
  · rename_i h
    constructor
    · intro h4; cases h4
    · rintro ⟨-, rfl⟩; cases h
  · rename_i h
    have : xs = [] := List.eq_nil_of_length_eq_zero (by omega)
    simp [this]
set_option maxRecDepth 100000 in
set_option maxHeartbeats 2000000 in
theorem end_at {w : World} {lo hi g : Nat} {e : Int} {xs : List Int} (h : SA w lo hi g e xs) : Calls Try.prog 61 #[.pointer (some ⟨g, 0, none⟩)] w fun r w' => r = .returned (.int .i64 (edE e xs)) ∧ SA w' lo hi g (edE e xs) [] ∧ Tr (fun b => b = g) w w' := by
  have lf := Lib.hid (left_at h)
  by_cases h0 : 0 < xs.length
  · have he : e = 0 := by
      by_cases he : e = 0
      · exact he
      · rw [h.2.2.1 he] at h0; cases h0
    subst he
    have hE : edE 0 xs = 4 := by unfold edE; rw [if_pos h0]
    have hf := Lib.hid (fail_at 4 h)
    have h1 : (0 : Int) < (xs.length : Int) := by omega
    rw [hE]
    clear h hE h0
    go_enter Try.func61, Try.ntmps61
    go_wp2_with fail
    refine lf.out.mono ?_
    rintro r w' ⟨rfl, rfl⟩
    clear lf
    go_wp2_with fail
    refine hf.out.mono ?_
    rintro r w2 ⟨⟨u, rfl⟩, hs, ht⟩
    replace hs : SA w2 lo hi g 4 [] := by simpa using hs
    have er := Lib.hid (err_at hs)
    have H := Lib.hid (show _ ∧ _ from ⟨hs, ht⟩)
    clear hf hs ht
    go_wp2_with fail
    refine er.out.mono ?_
    rintro r w3 ⟨rfl, rfl⟩
    go_wp2_with fail
    go_ret
    exact ⟨rfl, H.out.1, H.out.2⟩
  · have hE : edE e xs = e := by unfold edE; rw [if_neg h0]
    have h1 : xs = [] := List.eq_nil_of_length_eq_zero (by omega)
    subst h1
    rw [hE]
    have er := Lib.hid (err_at h)
    have H := Lib.hid h
    clear h hE h0
    go_enter Try.func61, Try.ntmps61
    go_wp2_with fail
    refine lf.out.mono ?_
    rintro r w' ⟨rfl, rfl⟩
    clear lf
    go_wp2_with fail
    refine er.out.mono ?_
    rintro r w3 ⟨rfl, rfl⟩
    go_wp2_with fail
    go_ret
    exact ⟨rfl, H.out, Tr.refl _ _⟩
def byO (e : Int) (xs : List Int) : Int := (tkO 1 e xs).headD 0
set_option maxRecDepth 100000 in
set_option maxHeartbeats 2000000 in
theorem byte_at {w : World} {lo hi g : Nat} {e : Int} {xs : List Int} (h : SA w lo hi g e xs) : Calls Try.prog 69 #[.pointer (some ⟨g, 0, none⟩)] w fun r w' => r = .returned (.int .u8 (byO e xs)) ∧ SA w' lo hi g (tkE 1 e xs) (tkR 1 e xs) ∧ Tr (fun b => b = g) w w' := by
  have tk := Lib.hid (take_at 1 h)
  have hlen : (tkO 1 e xs).length ≤ 1 := by
    unfold tkO
    split
    · split
      · rw [List.length_take]; omega
      · exact Nat.zero_le _
    · exact Nat.zero_le _
  unfold byO
  obtain ⟨z, hz⟩ : ∃ z, tkO 1 e xs = z := ⟨_, rfl⟩
  rw [hz] at hlen ⊢
  clear h
  rcases z with _ | ⟨y, ys⟩
  · show Calls Try.prog 69 _ w fun r w' => r = .returned (.int .u8 0) ∧ _ ∧ _
    go_enter Try.func69, Try.ntmps69
    go_wp2_with fail
    refine tk.out.mono ?_
    rintro r w' ⟨u, rfl, hu, -, hs, ht⟩
    rw [hz] at hu
    have H := Lib.hid (show _ ∧ _ from ⟨hs, ht⟩)
    clear tk hs ht hz
    obtain ⟨q, c, rfl, -, -⟩ := hu
    go_wp2_with fail
    go_loopg [8] 0 (fun gg s8 wr => s8 = .int .i64 0 ∧ wr = w')
    case atStart => exact ⟨rfl, rfl⟩
    case round =>
      obtain ⟨rfl, rfl⟩ := hrel
      go_wp2_with fail
      go_ret
      exact ⟨rfl, H.out.1, H.out.2⟩
  · show Calls Try.prog 69 _ w fun r w' => r = .returned (.int .u8 y) ∧ _ ∧ _
    obtain rfl : ys = [] := List.eq_nil_of_length_eq_zero (by simpa using hlen)
    go_enter Try.func69, Try.ntmps69
    go_wp2_with fail
    refine tk.out.mono ?_
    rintro r w' ⟨u, rfl, hu, -, hs, ht⟩
    rw [hz] at hu
    have H := Lib.hid (show _ ∧ _ from ⟨hs, ht⟩)
    clear tk hs ht hz
    obtain ⟨q, c, rfl, hq, hc⟩ := hu
    cases q with
    | none => cases (hq rfl).2
    | some a =>
      have k0 := hc a rfl 0 _ rfl
      rw [show a.add 0 = a from by unfold Addr.add; rfl] at k0
      clear hq hc hlen
      go_wp2_with fail
      go_loopg [8] 1 (fun gg s8 wr => gg = 1 ∧ s8 = .int .i64 0 ∧ wr = w')
      case atStart => exact ⟨rfl, rfl, rfl⟩
      case round =>
        obtain ⟨rfl, rfl, rfl⟩ := hrel
        go_wp2_with fail
        go_ret
        exact ⟨rfl, H.out.1, H.out.2⟩
end Go.Proofs.Ytpdenhmkpiafiaa
