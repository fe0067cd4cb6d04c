/-
  octet.Source: ok (174), fail (176), Read (59), Err (66); group (175) and Var (60) at the bytes of the statements' example; all at a source that no call made.
-/
import Derived.Test.YtpdenhmkpiafiaaOctVar
namespace Go.Proofs.Ytpdenhmkpiafiaa
open Go Go.RowKit K6

theorem tr_cell {X : Nat → Prop} {w : World} {p : Addr} {u : Value} (h : X p.block) : Tr X w (w.setCell p u) :=
  ⟨rfl, rfl, rfl, by simp, fun b _ hb => by
    obtain ⟨g, o, s⟩ := p
    exact Below.heap_setCell _ _ _ _ (fun e => hb (e ▸ h))⟩
/-- a source's row -/
def Src (w : World) (g : Nat) (v : Value) (e : Int) (m : Bool) : Prop := Row w g 72 #[v, .int .i64 e, .bool m]
set_option maxRecDepth 100000 in
theorem ok_true {w : World} {g : Nat} {v : Value} (h : Src w g v 0 true) : Calls Try.prog 174 #[.pointer (some ⟨g, 0, none⟩)] w fun e w' => e = .returned (.bool true) ∧ w' = w := by
  have c1 : w.cell? ⟨g, 1, none⟩ = some (.int .i64 0) := h.cell 1
  have c2 : w.cell? ⟨g, 2, none⟩ = some (.bool true) := h.cell 2
  clear h
  go_enter Try.func174, Try.ntmps174
  go_wp2_with fail
  go_ret
  exact ⟨rfl, rfl⟩
set_option maxRecDepth 100000 in
theorem ok_made {w : World} {g : Nat} {v : Value} {e : Int} (h : Src w g v e false) : Calls Try.prog 174 #[.pointer (some ⟨g, 0, none⟩)] w fun e w' => e = .returned (.bool false) ∧ w' = w := by
  have c2 : w.cell? ⟨g, 2, none⟩ = some (.bool false) := h.cell 2
  clear h
  go_enter Try.func174, Try.ntmps174
  go_wp2_with fail
  go_ret
  exact ⟨rfl, rfl⟩
set_option maxRecDepth 100000 in
theorem ok_nil (w : World) : Calls Try.prog 174 #[.pointer none] w fun e w' => e = .returned (.bool false) ∧ w' = w := by
  go_enter Try.func174, Try.ntmps174
  go_wp2_with fail
  go_ret
  exact ⟨rfl, rfl⟩
set_option maxRecDepth 100000 in
set_option maxHeartbeats 2000000 in
theorem fail_any {w : World} {g : Nat} {v : Value} (c : Int) (h : Src w g v 0 true) : Calls Try.prog 176 #[.pointer (some ⟨g, 0, none⟩), .int .i64 c] w fun e w' => (∃ u, e = .returned u) ∧ Src w' g (.slice none 0 0) c true ∧ Tr (fun b => b = g) w w' := by
  have ok := Lib.hid (ok_true h)
  have c0 : (w.cell? ⟨g, 0, none⟩).isSome = true := by rw [show w.cell? ⟨g, 0, none⟩ = some v from h.cell 0]; rfl
  have c1 : w.cell? ⟨g, 1, none⟩ = some (.int .i64 0) := h.cell 1
  have d0 : w.cell? ⟨g, 0, none⟩ = some v := h.cell 0
  have f0 := h.frozen 0
  have f1 := h.frozen 1
  have H := Lib.hid h
  clear h c0
  go_enter Try.func176, Try.ntmps176
  go_wp2_with fail
  refine ok.out.mono ?_
  rintro e w' ⟨rfl, rfl⟩
  go_wp2_with fail
  first | (refine bodyPost_ret (results_none rfl _ _ _) rfl ?_) | (refine bodyPost_end (results_none rfl _ _ _) rfl ?_)
  exact ⟨⟨_, rfl⟩, Row.congr ((Row.set H.out 0 (.slice none 0 0)).set 1 (.int .i64 c)) rfl, (tr_cell (X := fun b => b = g) rfl).trans (tr_cell (X := fun b => b = g) rfl)⟩
set_option maxRecDepth 100000 in
theorem err_row {w : World} {g : Nat} {v : Value} {e : Int} (h : Src w g v e true) : Calls Try.prog 66 #[.pointer (some ⟨g, 0, none⟩)] w fun x w' => x = .returned (.int .i64 e) ∧ w' = w := by
  have c1 : w.cell? ⟨g, 1, none⟩ = some (.int .i64 e) := h.cell 1
  have c2 : w.cell? ⟨g, 2, none⟩ = some (.bool true) := h.cell 2
  clear h
  go_enter Try.func66, Try.ntmps66
  go_wp2_with fail
  go_ret
  exact ⟨rfl, rfl⟩
/-- Read: a new source over a copy -/
def NewSrc (w : World) (xs : List Int) (e : Ending) (w' : World) : Prop := ∃ g v, e = .returned (.pointer (some ⟨g, 0, none⟩)) ∧ w.heap.size ≤ g ∧ Src w' g v 0 true ∧ Ob w' w.heap.size v xs ∧ (∀ b, v.ownBlock = some b → b ≠ g) ∧ Below w.heap.size w w'
set_option maxRecDepth 100000 in
set_option maxHeartbeats 2000000 in
theorem read_any (u : Value) (xs : List Int) (w : World) (h : Bs w u xs) (hL : xs.length ≤ 100000000) : Calls Try.prog 59 #[u] w (NewSrc w xs) := by
  have hcl := Lib.hid (clone_any u xs w h hL)
  clear h hL
  go_enter Try.func59, Try.ntmps59
  go_wp2_with fail
  refine hcl.out.mono ?_
  rintro e w1 ⟨v1, rfl, ho, hl⟩
  clear hcl
  have fin : ∀ x : Array Value, Below w1.heap.size w1 (w1.alloc (.cells x 72)) := fun x => (Below.refl _ _).alloc (Nat.le_refl _) _
  have H : Hid (∀ v, Ob w1 w.heap.size v xs → NewSrc w xs (.returned (.pointer (some ⟨w1.heap.size, 0, none⟩))) (w1.alloc (.cells #[v, .int .i64 0, .bool true] 72))) := Lib.hid fun v hv =>
    ⟨w1.heap.size, v, rfl, hl.size, Row.new_at rfl, hv.below (fin _), fun b hb e => by have := (hv.lt b hb).2; omega, hl.trans ((fin _).mono hl.size)⟩
  rcases id ho.2 with ⟨rfl, h0⟩ | ⟨g, cap, cur, rfl, -⟩
  · have H2 := Lib.hid (H.out _ ho)
    clear H fin ho h0 hl
    go_wp2_with fail
    go_ret
    exact H2.out
  · have H2 := Lib.hid (H.out _ ho)
    clear H fin ho hl
    go_wp2_with fail
    go_ret
    exact H2.out
/-! ### the example's bytes -/
set_option maxRecDepth 100000 in
set_option maxHeartbeats 4000000 in
theorem group_bad {w : World} {g b cap : Nat} (h : Src w g (.slice (some ⟨b, 0, none⟩) 2 cap) 0 true) (k0 : w.cell? ⟨b, 0, none⟩ = some (.int .u8 128)) (k1 : w.cell? ⟨b, 1, none⟩ = some (.int .u8 0)) :
    Calls Try.prog 175 #[.pointer (some ⟨g, 0, none⟩)] w fun e w' => e = .returned (.int .i64 0) ∧ Src w' g (.slice none 0 0) 4 true ∧ Tr (fun b => b = g) w w' := by
  have hf := Lib.hid (fail_any 4 h)
  have c0 : w.cell? ⟨g, 0, none⟩ = some (.slice (some ⟨b, 0, none⟩) 2 cap) := h.cell 0
  clear h
  go_enter Try.func175, Try.ntmps175
  go_wp2_with fail
  go_loopg [13] 2 (fun gg s13 wr => ∃ i : Nat, i + gg = 2 ∧ i ≤ 1 ∧ s13 = .int .i64 (i : Int) ∧ wr = w)
  case atStart => exact ⟨0, rfl, by omega, rfl, rfl⟩
  case round =>
    obtain ⟨i, hi, hi1, rfl, rfl⟩ := hrel
    have hc : i = 0 ∨ i = 1 := by omega
    rcases hc with rfl | rfl
    · go_wp2_with fail
      go_roundg 1
      case measure => omega
      case rel => exact ⟨1, rfl, by omega, by go_num, rfl⟩
    · go_wp2_with fail
      refine hf.out.mono ?_
      rintro e w' ⟨⟨u, rfl⟩, hs, ht⟩
      have H := Lib.hid (show _ ∧ _ from ⟨hs, ht⟩)
      clear hs ht hf
      go_wp2_with fail
      go_ret
      exact ⟨rfl, H.out.1, H.out.2⟩
set_option maxRecDepth 100000 in
set_option maxHeartbeats 4000000 in
theorem svar_bad {w : World} {g b cap : Nat} {n : Int} (h : Src w g (.slice (some ⟨b, 0, none⟩) 2 cap) 0 true) (k0 : w.cell? ⟨b, 0, none⟩ = some (.int .u8 128)) (k1 : w.cell? ⟨b, 1, none⟩ = some (.int .u8 0)) :
    Calls Try.prog 60 #[.pointer (some ⟨g, 0, none⟩), .int .i64 n] w fun e w' => e = .returned (.int .i64 0) ∧ Src w' g (.slice none 0 0) 4 true ∧ Tr (fun b => b = g) w w' := by
  have ok := Lib.hid (ok_true h)
  have hg := Lib.hid (group_bad h k0 k1)
  clear h k0 k1
  go_enter Try.func60, Try.ntmps60
  go_wp2_with fail
  refine ok.out.mono ?_
  rintro e w' ⟨rfl, rfl⟩
  clear ok
  go_wp2_with fail
  refine hg.out.mono ?_
  rintro e w' ⟨rfl, hs, ht⟩
  have H := Lib.hid (show _ ∧ _ from ⟨hs, ht⟩)
  clear hs ht hg
  go_wp2_with fail
  go_ret
  exact ⟨rfl, H.out.1, H.out.2⟩
/-! ### a source that no call made -/
def Bad (w : World) (p : Value) : Prop := p = .pointer none ∨ ∃ g, p = .pointer (some ⟨g, 0, none⟩) ∧ Src w g (.slice none 0 0) 0 false
theorem Bad.below {w w' : World} {p : Value} (h : Bad w p) (hb : Below w.heap.size w w') : Bad w' p := by
  rcases h with h | ⟨g, h, hs⟩
  · exact .inl h
  · exact .inr ⟨g, h, Row.below hs hb (Row.lt hs)⟩
theorem ok_bad {w : World} {p : Value} (h : Bad w p) : Calls Try.prog 174 #[p] w fun e w' => e = .returned (.bool false) ∧ w' = w := by
  rcases h with rfl | ⟨g, rfl, hs⟩
  · exact ok_nil w
  · exact ok_made hs
set_option maxRecDepth 100000 in
theorem take_bad {w : World} {p : Value} (n : Int) (h : Bad w p) : Calls Try.prog 177 #[p, .int .i64 n] w fun e w' => e = .returned (.slice none 0 0) ∧ w' = w := by
  have ok := Lib.hid (ok_bad h)
  clear h
  go_enter Try.func177, Try.ntmps177
  go_wp2_with fail
  refine ok.out.mono ?_
  rintro e w' ⟨rfl, rfl⟩
  go_wp2_with fail
  go_ret
  exact ⟨rfl, rfl⟩
set_option maxRecDepth 100000 in
theorem svar_none {w : World} {p : Value} (n : Int) (h : Bad w p) : Calls Try.prog 60 #[p, .int .i64 n] w fun e w' => e = .returned (.int .i64 0) ∧ w' = w := by
  have ok := Lib.hid (ok_bad h)
  clear h
  go_enter Try.func60, Try.ntmps60
  go_wp2_with fail
  refine ok.out.mono ?_
  rintro e w' ⟨rfl, rfl⟩
  go_wp2_with fail
  go_ret
  exact ⟨rfl, rfl⟩
set_option maxRecDepth 100000 in
theorem byte_none {w : World} {p : Value} (h : Bad w p) : Calls Try.prog 69 #[p] w fun e w' => e = .returned (.int .u8 0) ∧ w' = w := by
  have tk := Lib.hid (take_bad 1 h)
  clear h
  go_enter Try.func69, Try.ntmps69
  go_wp2_with fail
  refine tk.out.mono ?_
  rintro e w' ⟨rfl, rfl⟩
  clear tk
  go_wp2_with fail
  go_loopg [8] 0 (fun gg s8 wr => s8 = .int .i64 0 ∧ wr = w')
  case atStart => exact ⟨rfl, rfl⟩
  case round =>
    obtain ⟨rfl, rfl⟩ := hrel
    go_wp2_with fail
    go_ret
    exact ⟨rfl, rfl⟩
set_option maxRecDepth 100000 in
theorem left_none {w : World} {p : Value} (h : Bad w p) : Calls Try.prog 64 #[p] w fun e w' => e = .returned (.int .i64 0) ∧ w' = w := by
  have ok := Lib.hid (ok_bad h)
  clear h
  go_enter Try.func64, Try.ntmps64
  go_wp2_with fail
  refine ok.out.mono ?_
  rintro e w' ⟨rfl, rfl⟩
  go_wp2_with fail
  go_ret
  exact ⟨rfl, rfl⟩
set_option maxRecDepth 100000 in
theorem err_none {w : World} {p : Value} (h : Bad w p) : Calls Try.prog 66 #[p] w fun e w' => e = .returned (.int .i64 1) ∧ w' = w := by
  rcases h with rfl | ⟨g, rfl, hs⟩
  · go_enter Try.func66, Try.ntmps66
    go_wp2_with fail
    go_ret
    exact ⟨rfl, rfl⟩
  · have c2 : w.cell? ⟨g, 2, none⟩ = some (.bool false) := hs.cell 2
    clear hs
    go_enter Try.func66, Try.ntmps66
    go_wp2_with fail
    go_ret
    exact ⟨rfl, rfl⟩
set_option maxRecDepth 100000 in
theorem end_none {w : World} {p : Value} (h : Bad w p) : Calls Try.prog 61 #[p] w fun e w' => e = .returned (.int .i64 1) ∧ w' = w := by
  have lf := Lib.hid (left_none h)
  have er := Lib.hid (err_none h)
  clear h
  go_enter Try.func61, Try.ntmps61
  go_wp2_with fail
  refine lf.out.mono ?_
  rintro e w' ⟨rfl, rfl⟩
  clear lf
  go_wp2_with fail
  refine er.out.mono ?_
  rintro e w2 ⟨rfl, rfl⟩
  go_wp2_with fail
  go_ret
  exact ⟨rfl, rfl⟩
set_option maxRecDepth 100000 in
theorem stext_none {w : World} {p : Value} (n : Int) (h : Bad w p) : Calls Try.prog 63 #[p, .int .i64 n] w fun e w' => e = .returned (.slice none 0 0) ∧ w' = w := by
  have sv := Lib.hid (svar_none n h)
  have ok := Lib.hid (ok_bad h)
  clear h
  go_enter Try.func63, Try.ntmps63
  go_wp2_with fail
  refine sv.out.mono ?_
  rintro e w' ⟨rfl, rfl⟩
  clear sv
  go_wp2_with fail
  refine ok.out.mono ?_
  rintro e w2 ⟨rfl, rfl⟩
  go_wp2_with fail
  go_ret
  exact ⟨rfl, rfl⟩
set_option maxRecDepth 100000 in
set_option maxHeartbeats 2000000 in
theorem samt_none {w : World} {p : Value} (h : Bad w p) : Calls Try.prog 62 #[p] w fun e w' => e = .returned (.agg #[.int .u64 0, .int .u64 0, .int .u64 0, .int .u64 0]) ∧ Below w.heap.size w w' := by
  have ha : Below w.heap.size w (w.alloc (.cells #[.int .u64 0, .int .u64 0, .int .u64 0, .int .u64 0] 31)) := (Below.refl _ _).alloc (Nat.le_refl _) _
  have hb := Lib.hid (byte_none (h.below ha))
  have ok := Lib.hid (ok_bad (h.below ha))
  have r0 : Row (w.alloc (.cells #[Value.int .u64 0, .int .u64 0, .int .u64 0, .int .u64 0] 31)) w.heap.size 31 #[.int .u64 0, .int .u64 0, .int .u64 0, .int .u64 0] := Row.new_at rfl
  have H := Lib.hid r0
  clear h ha r0
  go_enter Try.func62, Try.ntmps62
  go_wp2_with fail
  refine hb.out.mono ?_
  rintro e w' ⟨rfl, rfl⟩
  clear hb
  go_wp2_with fail
  refine ok.out.mono ?_
  rintro e w2 ⟨rfl, rfl⟩
  clear ok
  go_wp2_with fail
  refine bodyPost_ret (results_c rfl aggT31 rfl H.out rfl) rfl ?_
  exact ⟨rfl, by go_grown⟩
end Go.Proofs.Ytpdenhmkpiafiaa
