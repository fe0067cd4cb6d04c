/-
  What the statement rests on, part 4: OctVar OctSrc OctTake OctGrp OctK7 OctAmt OctCopy.
-/
import Derived.Laws.BitsAllLaws
import Derived.Laws.CopyRow
import Derived.Laws.IdiomCopy
import Derived.Test.YtpdenhmkpiafiaaQTC0
import Derived.Test.YtpdenhmkpiafiaaQTC1
namespace Go.Proofs.Ytpdenhmkpiafiaa
open Go Go.RowKit K6
theorem fresh_append {u : Value} {xs : List Int} {w : World} (h : Bs w u xs) (hL : xs.length ≤ 100000000) : ∃ v2 w2, (Builtin.append_ #[33, 33] 33 #[.slice (some ⟨w.heap.size, 0, none⟩) 0 0, u]).run Try.prog (w.alloc (.cells #[] 5)) = .ok v2 w2 ∧ Ob w2 w.heap.size v2 xs ∧ Below w.heap.size w w2 := by
  have ha : Below w.heap.size w (w.alloc (.cells #[] 5)) := (Below.refl _ _).alloc (Nat.le_refl _) _
  have ho : Ob (w.alloc (.cells #[] 5)) w.heap.size (.slice (some ⟨w.heap.size, 0, none⟩) 0 0) [] := ⟨rfl, .inr ⟨w.heap.size, 0, #[], rfl, Nat.le_refl _, Row.new_at (t := 5) (cs := #[]) rfl, Nat.le_refl _, Nat.zero_le _, rfl, rfl⟩⟩
  obtain ⟨v2, w2, hrun, ho2, hg, hw⟩ := append_run ho (h.below ha) (by simp; omega) (by simp)
  refine ⟨v2, w2, hrun, ho2, hg.os, hg.tape, hg.output, Nat.le_trans ha.size hg.size, fun k hk => ?_⟩
  rw [hg.block k (Nat.lt_of_lt_of_le hk ha.size) (fun e => by have : k = w.heap.size := Option.some.inj e; omega)]
  exact ha.block k hk
theorem wpList_app {ops : Array Oper} {rest : List Oper} {o : Oper} {a : Act} {Q : Exit → Act → World → Prop} {w w' : World} {x y : Operand} {t1 t2 : TypeId} {v u v' : Value} (hgd : o.guard = none)
    (ho : o.op = .call { callee := .builtin .append, args := #[x, y], argTypes := #[t1, t2] }) (hx : a.eval x = v) (hy : a.eval y = u)
    (hrun : (Builtin.append_ #[t1, t2] o.type #[v, u]).run Try.prog w = .ok v' w') (h : wpList Try.prog ops Q rest (a.put o.dst v') w') : wpList Try.prog ops Q (o :: rest) a w := by
  refine wpList_plain hgd fun K hK => ?_
  unfold Oper.wp execOp
  simp only [ho, resolve, invoke, builtin, Sem.run_bind, Sem.run_pure, Result.andThen_ok, List.map_toArray, List.map_cons, List.map_nil, hx, hy, hrun]
  exact hK _ _ h
theorem slice_nil (w : World) : (binOp .eql 33 (.slice none 0 0) (.slice none 0 0)).run Try.prog w = .ok (.bool true) w := by kernel_rfl
theorem slice_not (a : Addr) (n c : Nat) (w : World) : (binOp .eql 33 (.slice (some a) n c) (.slice none 0 0)).run Try.prog w = .ok (.bool false) w := by kernel_rfl
set_option maxRecDepth 100000 in
set_option maxHeartbeats 4000000 in
theorem clone_any (u : Value) (xs : List Int) (w : World) (h : Bs w u xs) (hL : xs.length ≤ 100000000) : Calls Try.prog 157 #[u] w fun e w' => ∃ v, e = .returned v ∧ Ob w' w.heap.size v xs ∧ Below w.heap.size w w' := by
  have hb := h
  obtain ⟨q, c, rfl, hn, h1⟩ := h
  cases q with
  | none =>
    obtain ⟨rfl, rfl⟩ := hn rfl
    clear hb hn h1 hL
    have hq := slice_nil
    go_enter Try.func157, Try.ntmps157
    go_wp2_with fail
    go_ret
    exact ⟨_, rfl, Ob.nil _ _, Below.refl _ _⟩
  | some a =>
    obtain ⟨n, hn'⟩ : ∃ n, xs.length = n := ⟨_, rfl⟩
    obtain ⟨v2, w2, hrun, ho2, hl⟩ := fresh_append hb hL
    rw [hn'] at hrun ⊢
    have H := Lib.hid (show _ ∧ _ from ⟨ho2, hl⟩)
    clear hb hn h1 hL ho2 hl hn'
    have hq := fun w => slice_not a n c w
    go_enter Try.func157, Try.ntmps157
    go_wp2_with (at_builtin; refine wpList_app rfl rfl rfl rfl hrun ?_)
    go_ret
    exact ⟨_, rfl, H.out.1, H.out.2⟩
def enc (m : Nat) : List Int := if h : m < 128 then [(m : Int)] else ((m % 128 + 128 : Nat) : Int) :: enc (m / 128)
termination_by m
decreasing_by omega
theorem enc_low {m : Nat} (h : m < 128) : enc m = [(m : Int)] := by unfold enc; rw [dif_pos h]
theorem enc_high {m : Nat} (h : ¬ m < 128) : enc m = ((m % 128 + 128 : Nat) : Int) :: enc (m / 128) := by rw [enc, dif_neg h]
set_option maxRecDepth 100000 in
theorem or128_key : ∀ x : Fin 256, bits .or .u8 ((x.val : Nat) : Int) 128 = ((x.val % 128 + 128 : Nat) : Int) := by decide
theorem enc_len : ∀ (k m : Nat), m < 128 ^ (k + 1) → (enc m).length ≤ k + 1
  | 0, m, h => by rw [enc_low (by simpa using h)]; simp
  | k + 1, m, h => by
    by_cases h1 : m < 128
    · rw [enc_low h1]; simp
    · rw [enc_high h1, List.length_cons]
      have := enc_len k (m / 128) (by rw [Nat.div_lt_iff_lt_mul (by decide)]; rw [Nat.pow_succ] at h; exact h)
      omega
theorem or128 (m : Nat) : bits .or .u8 ((m : Int) % 256) 128 = ((m % 128 + 128 : Nat) : Int) := by
  have h : (m : Int) % 256 = ((m % 256 : Nat) : Int) := by omega
  rw [h]
  have := or128_key ⟨m % 256, Nat.mod_lt _ (by decide)⟩
  simp only at this
  rw [this, Nat.mod_mod_of_dvd _ (by decide)]
theorem shr7 (m : Nat) (w : World) : (binOp .shr 3 (.int .i64 (m : Int)) (.int .u64 7)).run Try.prog w = .ok (.int .i64 ((m / 128 : Nat) : Int)) w := by
  have e : (m : Int).fdiv (2 ^ 7) = ((m / 128 : Nat) : Int) := by
    rw [Int.fdiv_eq_ediv_of_nonneg _ (by decide)]; omega
  show (Op.shift .shr .i64 (m : Int) .u64 7).run Try.prog w = _
  unfold Op.shift
  rw [if_neg (by decide)]
  show Result.ok (Value.int .i64 ((m : Int).fdiv (2 ^ 7))) w = _
  rw [e]
theorem Bs_new {w : World} (x : Int) : Bs (w.alloc (.cells #[.int .u8 x] 5)) (.slice (some ⟨w.heap.size, 0, none⟩) 1 1) [x] := by
  refine ⟨_, _, rfl, (fun h => (by cases h)), fun a ha j u hj => ?_⟩
  cases ha
  match j, hj with
  | 0, hj =>
    cases hj
    rw [add_at]
    exact (Row.new_at (w := w) (cs := #[.int .u8 x]) (t := 5) rfl).cell 0
theorem grew_below {w w2 : World} {B : Nat} {x : Obj} {v : Value} (hB : B ≤ w.heap.size) (ho : ∀ b, v.ownBlock = some b → B ≤ b) (hg : (w.alloc x).grownBy w2 v.ownBlock) : Below B w w2 := by
  have ha : Below w.heap.size w (w.alloc x) := (Below.refl _ _).alloc (Nat.le_refl _) _
  refine ⟨hg.os, hg.tape, hg.output, Nat.le_trans ha.size hg.size, fun k hk => ?_⟩
  rw [hg.block k (Nat.lt_of_lt_of_le (Nat.lt_of_lt_of_le hk hB) ha.size) (fun e => by have := ho k e.symm; omega)]
  exact ha.block k (Nat.lt_of_lt_of_le hk hB)
set_option maxRecDepth 100000 in
set_option maxHeartbeats 8000000 in
theorem var_any (u : Value) (xs : List Int) (n0 : Int) (w : World) (h : Bs w u xs) (hL : xs.length ≤ 10000000) (hn0 : n0 < 9223372036854775808) :
    Calls Try.prog 38 #[u, .int .i64 n0] w fun e w' => ∃ v, e = .returned v ∧ Ob w' w.heap.size v (xs ++ enc n0.toNat) ∧ Below w.heap.size w w' := by
  obtain ⟨n, hnn⟩ : ∃ n, n0.toNat = n := ⟨_, rfl⟩
  have hn : n < 9223372036854775808 := by omega
  have hneg : n0 < 0 ∧ (0 : Int) = (n : Int) ∨ 0 ≤ n0 ∧ n0 = (n : Int) := by omega
  rw [hnn]
  have hcl := Lib.hid (clone_any u xs w h (by omega))
  have hlen : (xs ++ enc n).length ≤ 10000010 := by rw [List.length_append]; have := enc_len 8 n (by omega); omega
  obtain ⟨N, hN⟩ : ∃ N, w.heap.size = N := ⟨_, rfl⟩
  obtain ⟨all, hall⟩ : ∃ all, xs ++ enc n = all := ⟨_, rfl⟩
  rw [hall] at hlen ⊢
  clear h hL hn0 hnn
  rcases hneg with ⟨h1, h2⟩ | ⟨h1, h2⟩
  · obtain rfl : n = 0 := by omega
    clear h2
    go_enter Try.func38, Try.ntmps38
    go_wp2_with fail
    refine hcl.out.mono ?_
    rintro e w1 ⟨v1, rfl, ho1, hl1⟩
    clear hcl
    have H0 := Lib.hid (show _ ∧ _ ∧ _ ∧ _ ∧ _ from ⟨ho1, hl1, hall, hlen, hn⟩)
    clear ho1 hl1 hall hlen hn
    go_wp2_with fail
    go_loopg [1, 5] 0 (fun gg s1 s5 wr => ∃ zs, s1 = .int .i64 ((gg : Nat) : Int) ∧ gg < 9223372036854775808 ∧ Ob wr w.heap.size s5 zs ∧ zs ++ enc gg = all ∧ Below w.heap.size w wr)
    case atStart => exact ⟨xs, rfl, H0.out.2.2.2.2, H0.out.1, H0.out.2.2.1, H0.out.2.1⟩
    case round =>
      obtain ⟨zs, rfl, hm, ho, hz, hl⟩ := hrel
      obtain ⟨m, rfl⟩ : ∃ m : Nat, m = gk := ⟨_, rfl⟩
      obtain ⟨wo, rfl⟩ : ∃ wo : World, wo = wr := ⟨_, rfl⟩
      have hzl : zs.length ≤ 10000010 := by
        have h1 := H0.out.2.2.2.1
        rw [← hz, List.length_append] at h1
        omega
      by_cases hlt : m < 128
      · have hd : (m : Int) < 128 := by omega
        have wm : IntKind.u8.wrap (m : Int) = (m : Int) := by rw [IntKind.wrap_u8]; omega
        have hob := hl.size
        have ha : Below wo.heap.size wo (wo.alloc (.cells #[.int .u8 (m : Int)] 5)) := (Below.refl _ _).alloc (Nat.le_refl _) _
        obtain ⟨v2, w2, hrun, ho2, hg, hw⟩ := append_run (ho.below ha) (Bs_new (w := wo) (m : Int)) (by simp; omega) (Nat.le_trans hl.size ha.size)
        have hl2 := hl.trans (grew_below hl.size (fun b hb => (ho.lt b hb).1) hg)
        rw [enc_low hlt] at hz
        rw [hz] at ho2
        have H := Lib.hid (show _ ∧ _ from ⟨ho2, hl2⟩)
        clear ha ho2 hg hw hl2 hz ho hl hlt hzl hob
        go_wp2_with (at_builtin; refine wpList_app rfl rfl rfl rfl hrun ?_)
        go_ret
        exact ⟨_, rfl, H.out.1, H.out.2⟩
      · have hd : (128 : Int) ≤ (m : Int) := by omega
        have ho128 := or128 m
        have hshr := shr7 m
        obtain ⟨y, hy⟩ : ∃ y, ((m % 128 + 128 : Nat) : Int) = y := ⟨_, rfl⟩
        rw [hy] at ho128
        have ha : Below wo.heap.size wo (wo.alloc (.cells #[.int .u8 y] 5)) := (Below.refl _ _).alloc (Nat.le_refl _) _
        obtain ⟨v2, w2, hrun, ho2, hg, hw⟩ := append_run (ho.below ha) (Bs_new (w := wo) y) (by simp; omega) (Nat.le_trans hl.size ha.size)
        have hl2 := hl.trans (grew_below hl.size (fun b hb => (ho.lt b hb).1) hg)
        have hz2 : (zs ++ [y]) ++ enc (m / 128) = all := by rw [List.append_assoc, ← hz, enc_high hlt, hy]; rfl
        have H := Lib.hid (show _ ∧ _ ∧ _ from ⟨ho2, hl2, hz2⟩)
        clear ha ho2 hg hw hl2 hz2 hz ho hl hzl hy
        go_wp2_with (at_builtin; refine wpList_app rfl rfl rfl rfl hrun ?_)
        go_roundg (m / 128)
        case measure => omega
        case rel => exact ⟨zs ++ [y], by go_num, by omega, H.out.1, H.out.2.2, H.out.2.1⟩
  · subst h2
    have h3 : ¬ (n : Int) < 0 := by omega
    clear h1
    go_enter Try.func38, Try.ntmps38
    go_wp2_with fail
    refine hcl.out.mono ?_
    rintro e w1 ⟨v1, rfl, ho1, hl1⟩
    clear hcl
    have H0 := Lib.hid (show _ ∧ _ ∧ _ ∧ _ ∧ _ from ⟨ho1, hl1, hall, hlen, hn⟩)
    clear ho1 hl1 hall hlen hn
    go_wp2_with fail
    go_loopg [1, 5] n (fun gg s1 s5 wr => ∃ zs, s1 = .int .i64 ((gg : Nat) : Int) ∧ gg < 9223372036854775808 ∧ Ob wr w.heap.size s5 zs ∧ zs ++ enc gg = all ∧ Below w.heap.size w wr)
    case atStart => exact ⟨xs, rfl, H0.out.2.2.2.2, H0.out.1, H0.out.2.2.1, H0.out.2.1⟩
    case round =>
      obtain ⟨zs, rfl, hm, ho, hz, hl⟩ := hrel
      obtain ⟨m, rfl⟩ : ∃ m : Nat, m = gk := ⟨_, rfl⟩
      obtain ⟨wo, rfl⟩ : ∃ wo : World, wo = wr := ⟨_, rfl⟩
      have hzl : zs.length ≤ 10000010 := by
        have h1 := H0.out.2.2.2.1
        rw [← hz, List.length_append] at h1
        omega
      by_cases hlt : m < 128
      · have hd : (m : Int) < 128 := by omega
        have wm : IntKind.u8.wrap (m : Int) = (m : Int) := by rw [IntKind.wrap_u8]; omega
        have hob := hl.size
        have ha : Below wo.heap.size wo (wo.alloc (.cells #[.int .u8 (m : Int)] 5)) := (Below.refl _ _).alloc (Nat.le_refl _) _
        obtain ⟨v2, w2, hrun, ho2, hg, hw⟩ := append_run (ho.below ha) (Bs_new (w := wo) (m : Int)) (by simp; omega) (Nat.le_trans hl.size ha.size)
        have hl2 := hl.trans (grew_below hl.size (fun b hb => (ho.lt b hb).1) hg)
        rw [enc_low hlt] at hz
        rw [hz] at ho2
        have H := Lib.hid (show _ ∧ _ from ⟨ho2, hl2⟩)
        clear ha ho2 hg hw hl2 hz ho hl hlt hzl hob
        go_wp2_with (at_builtin; refine wpList_app rfl rfl rfl rfl hrun ?_)
        go_ret
        exact ⟨_, rfl, H.out.1, H.out.2⟩
      · have hd : (128 : Int) ≤ (m : Int) := by omega
        have ho128 := or128 m
        have hshr := shr7 m
        obtain ⟨y, hy⟩ : ∃ y, ((m % 128 + 128 : Nat) : Int) = y := ⟨_, rfl⟩
        rw [hy] at ho128
        have ha : Below wo.heap.size wo (wo.alloc (.cells #[.int .u8 y] 5)) := (Below.refl _ _).alloc (Nat.le_refl _) _
        obtain ⟨v2, w2, hrun, ho2, hg, hw⟩ := append_run (ho.below ha) (Bs_new (w := wo) y) (by simp; omega) (Nat.le_trans hl.size ha.size)
        have hl2 := hl.trans (grew_below hl.size (fun b hb => (ho.lt b hb).1) hg)
        have hz2 : (zs ++ [y]) ++ enc (m / 128) = all := by rw [List.append_assoc, ← hz, enc_high hlt, hy]; rfl
        have H := Lib.hid (show _ ∧ _ ∧ _ from ⟨ho2, hl2, hz2⟩)
        clear ha ho2 hg hw hl2 hz2 hz ho hl hzl hy
        go_wp2_with (at_builtin; refine wpList_app rfl rfl rfl rfl hrun ?_)
        go_roundg (m / 128)
        case measure => omega
        case rel => exact ⟨zs ++ [y], by go_num, by omega, H.out.1, H.out.2.2, H.out.2.1⟩
end Go.Proofs.Ytpdenhmkpiafiaa
namespace Go.Proofs.Ytpdenhmkpiafiaa
open Go Go.RowKit K6
theorem tr_cell {X : Nat → Prop} {w : World} {p : Addr} {u : Value} (h : X p.block) : Tr X w (w.setCell p u) :=
  ⟨rfl, rfl, rfl, by simp, fun b _ hb => by
    obtain ⟨g, o, s⟩ := p
    exact Below.heap_setCell _ _ _ _ (fun e => hb (e ▸ h))⟩
def Src (w : World) (g : Nat) (v : Value) (e : Int) (m : Bool) : Prop := Row w g 72 #[v, .int .i64 e, .bool m]
set_option maxRecDepth 100000 in
theorem ok_true {w : World} {g : Nat} {v : Value} (h : Src w g v 0 true) : Calls Try.prog 174 #[.pointer (some ⟨g, 0, none⟩)] w fun e w' => e = .returned (.bool true) ∧ w' = w := by
  have c1 : w.cell? ⟨g, 1, none⟩ = some (.int .i64 0) := h.cell 1
  have c2 : w.cell? ⟨g, 2, none⟩ = some (.bool true) := h.cell 2
  clear h
  go_enter Try.func174, Try.ntmps174
  go_wp2_with fail
  go_ret
  exact ⟨rfl, rfl⟩
set_option maxRecDepth 100000 in
set_option maxHeartbeats 2000000 in
theorem fail_any {w : World} {g : Nat} {v : Value} (c : Int) (h : Src w g v 0 true) : Calls Try.prog 176 #[.pointer (some ⟨g, 0, none⟩), .int .i64 c] w fun e w' => (∃ u, e = .returned u) ∧ Src w' g (.slice none 0 0) c true ∧ Tr (fun b => b = g) w w' := by
  have ok := Lib.hid (ok_true h)
  have c0 : (w.cell? ⟨g, 0, none⟩).isSome = true := by rw [show w.cell? ⟨g, 0, none⟩ = some v from h.cell 0]; rfl
  have c1 : w.cell? ⟨g, 1, none⟩ = some (.int .i64 0) := h.cell 1
  have d0 : w.cell? ⟨g, 0, none⟩ = some v := h.cell 0
  have f0 := h.frozen 0
  have f1 := h.frozen 1
  have H := Lib.hid h
  clear h c0
  go_enter Try.func176, Try.ntmps176
  go_wp2_with fail
  refine ok.out.mono ?_
  rintro e w' ⟨rfl, rfl⟩
  go_wp2_with fail
  first | (refine bodyPost_ret (results_none rfl _ _ _) rfl ?_) | (refine bodyPost_end (results_none rfl _ _ _) rfl ?_)
  exact ⟨⟨_, rfl⟩, Row.congr ((Row.set H.out 0 (.slice none 0 0)).set 1 (.int .i64 c)) rfl, (tr_cell (X := fun b => b = g) rfl).trans (tr_cell (X := fun b => b = g) rfl)⟩
set_option maxRecDepth 100000 in
theorem err_row {w : World} {g : Nat} {v : Value} {e : Int} (h : Src w g v e true) : Calls Try.prog 66 #[.pointer (some ⟨g, 0, none⟩)] w fun x w' => x = .returned (.int .i64 e) ∧ w' = w := by
  have c1 : w.cell? ⟨g, 1, none⟩ = some (.int .i64 e) := h.cell 1
  have c2 : w.cell? ⟨g, 2, none⟩ = some (.bool true) := h.cell 2
  clear h
  go_enter Try.func66, Try.ntmps66
  go_wp2_with fail
  go_ret
  exact ⟨rfl, rfl⟩
def NewSrc (w : World) (xs : List Int) (e : Ending) (w' : World) : Prop := ∃ g v, e = .returned (.pointer (some ⟨g, 0, none⟩)) ∧ w.heap.size ≤ g ∧ Src w' g v 0 true ∧ Ob w' w.heap.size v xs ∧ (∀ b, v.ownBlock = some b → b ≠ g) ∧ Below w.heap.size w w'
set_option maxRecDepth 100000 in
set_option maxHeartbeats 2000000 in
theorem read_any (u : Value) (xs : List Int) (w : World) (h : Bs w u xs) (hL : xs.length ≤ 100000000) : Calls Try.prog 59 #[u] w (NewSrc w xs) := by
  have hcl := Lib.hid (clone_any u xs w h hL)
  clear h hL
  go_enter Try.func59, Try.ntmps59
  go_wp2_with fail
  refine hcl.out.mono ?_
  rintro e w1 ⟨v1, rfl, ho, hl⟩
  clear hcl
  have fin : ∀ x : Array Value, Below w1.heap.size w1 (w1.alloc (.cells x 72)) := fun x => (Below.refl _ _).alloc (Nat.le_refl _) _
  have H : Hid (∀ v, Ob w1 w.heap.size v xs → NewSrc w xs (.returned (.pointer (some ⟨w1.heap.size, 0, none⟩))) (w1.alloc (.cells #[v, .int .i64 0, .bool true] 72))) := Lib.hid fun v hv =>
    ⟨w1.heap.size, v, rfl, hl.size, Row.new_at rfl, hv.below (fin _), fun b hb e => by have := (hv.lt b hb).2; omega, hl.trans ((fin _).mono hl.size)⟩
  rcases id ho.2 with ⟨rfl, h0⟩ | ⟨g, cap, cur, rfl, -⟩
  · have H2 := Lib.hid (H.out _ ho)
    clear H fin ho h0 hl
    go_wp2_with fail
    go_ret
    exact H2.out
  · have H2 := Lib.hid (H.out _ ho)
    clear H fin ho hl
    go_wp2_with fail
    go_ret
    exact H2.out
def Bad (w : World) (p : Value) : Prop := p = .pointer none ∨ ∃ g, p = .pointer (some ⟨g, 0, none⟩) ∧ Src w g (.slice none 0 0) 0 false
theorem Bad.below {w w' : World} {p : Value} (h : Bad w p) (hb : Below w.heap.size w w') : Bad w' p := by
  rcases h with h | ⟨g, h, hs⟩
  · exact .inl h
  · exact .inr ⟨g, h, Row.below hs hb (Row.lt hs)⟩
end Go.Proofs.Ytpdenhmkpiafiaa
namespace Go.Proofs.Ytpdenhmkpiafiaa
open Go Go.RowKit K6
def SA (w : World) (lo hi g : Nat) (e : Int) (xs : List Int) : Prop :=
  lo ≤ g ∧ g < hi ∧ (e ≠ 0 → xs = []) ∧ (∀ x ∈ xs, 0 ≤ x ∧ x < 256) ∧ xs.length ≤ 100000000 ∧
  ∃ v, Src w g v e true ∧ ((v = .slice none 0 0 ∧ xs = []) ∨ ∃ b o c, lo ≤ b ∧ b < hi ∧ b ≠ g ∧ v = .slice (some ⟨b, o, none⟩) xs.length c ∧ xs.length ≤ c ∧ ∀ j x, xs[j]? = some x → w.cell? ⟨b, o + j, none⟩ = some (.int .u8 x))
theorem SA.lt {w : World} {lo hi g : Nat} {e : Int} {xs : List Int} (h : SA w lo hi g e xs) : g < w.heap.size := by
  obtain ⟨-, -, -, -, -, v, hs, -⟩ := h
  exact Row.lt hs
theorem SA.keep {X : Nat → Prop} {w w' : World} {lo hi g : Nat} {e : Int} {xs : List Int} (h : SA w lo hi g e xs) (hT : Tr X w w') (hX : ∀ b, lo ≤ b → b < hi → ¬ X b) : SA w' lo hi g e xs := by
  obtain ⟨h1, hh, h2, h3, h4, v, hs, hv⟩ := h
  refine ⟨h1, hh, h2, h3, h4, v, Row.tr hs hT (hX g h1 hh), ?_⟩
  rcases hv with hv | ⟨b, o, c, hb, hbh, hbg, rfl, hc, hcell⟩
  · exact .inl hv
  · refine .inr ⟨b, o, c, hb, hbh, hbg, rfl, hc, fun j x hj => ?_⟩
    have h5 := hcell j x hj
    rw [← h5]
    exact World.cell?_of_block (hT.block b (cell_lt h5) (hX b hb hbh))
theorem SA.below {w w' : World} {lo hi g : Nat} {e : Int} {xs : List Int} (h : SA w lo hi g e xs) (hb : Below w.heap.size w w') : SA w' lo hi g e xs := h.keep (X := None_) (Tr.of hb) fun _ _ _ => id
theorem NewSrc.sa {w w' : World} {xs : List Int} {r : Ending} (h : NewSrc w xs r w') (hx : ∀ x ∈ xs, 0 ≤ x ∧ x < 256) (hL : xs.length ≤ 100000000) : ∃ g, r = .returned (.pointer (some ⟨g, 0, none⟩)) ∧ SA w' w.heap.size w'.heap.size g 0 xs ∧ Below w.heap.size w w' := by
  obtain ⟨g, v, rfl, hg, hs, ho, hne, hb⟩ := h
  refine ⟨g, rfl, ⟨hg, Row.lt hs, (fun h => absurd rfl h), hx, hL, v, hs, ?_⟩, hb⟩
  rcases id ho.2 with ⟨rfl, h0⟩ | ⟨b, cap, cur, rfl, h1, h2, h3, -⟩
  · exact .inl ⟨rfl, List.eq_nil_of_length_eq_zero h0⟩
  · refine .inr ⟨b, 0, cap, h1, (ho.lt b rfl).2, hne b rfl, rfl, h3, fun j x hj => ?_⟩
    rw [← add_at]
    exact World.ownsRow.cells ho (g := b) rfl j _ (by unfold bv; rw [List.getElem?_map, hj]; rfl)
set_option maxRecDepth 100000 in
theorem ok_shut {w : World} {g : Nat} {v : Value} {e : Int} (h : Src w g v e true) (he : e ≠ 0) : Calls Try.prog 174 #[.pointer (some ⟨g, 0, none⟩)] w fun e w' => e = .returned (.bool false) ∧ w' = w := by
  have c1 : w.cell? ⟨g, 1, none⟩ = some (.int .i64 e) := h.cell 1
  have c2 : w.cell? ⟨g, 2, none⟩ = some (.bool true) := h.cell 2
  have hq : (e == 0) = false := by rw [beq_eq_false_iff_ne]; exact he
  clear h
  go_enter Try.func174, Try.ntmps174
  go_wp2_with fail
  go_ret
  exact ⟨by simp, rfl⟩
theorem ok_at {w : World} {lo hi g : Nat} {e : Int} {xs : List Int} (h : SA w lo hi g e xs) : Calls Try.prog 174 #[.pointer (some ⟨g, 0, none⟩)] w fun r w' => r = .returned (.bool (decide (e = 0))) ∧ w' = w := by
  obtain ⟨-, -, -, -, -, v, hs, -⟩ := h
  by_cases he : e = 0
  · subst he; exact ok_true hs
  · rw [decide_eq_false he]; exact ok_shut hs he
set_option maxRecDepth 100000 in
set_option maxHeartbeats 2000000 in
theorem fail_at {w : World} {lo hi g : Nat} {e : Int} {xs : List Int} (c : Int) (h : SA w lo hi g e xs) : Calls Try.prog 176 #[.pointer (some ⟨g, 0, none⟩), .int .i64 c] w fun r w' => (∃ u, r = .returned u) ∧ SA w' lo hi g (if e = 0 then c else e) [] ∧ Tr (fun b => b = g) w w' := by
  by_cases he : e = 0
  · subst he
    obtain ⟨h1, hh, -, -, -, v, hs, -⟩ := h
    refine (fail_any c hs).mono fun r w' ⟨hr, hs', ht⟩ => ⟨hr, ⟨h1, hh, fun _ => rfl, (fun x hx => (by cases hx)), Nat.zero_le _, _, hs', .inl ⟨rfl, rfl⟩⟩, ht⟩
  · have ok := Lib.hid (ok_at h)
    rw [decide_eq_false he] at ok
    have H := Lib.hid (show SA w lo hi g e [] by rw [h.2.2.1 he] at h; exact h)
    clear h
    go_enter Try.func176, Try.ntmps176
    go_wp2_with fail
    refine ok.out.mono ?_
    rintro r w' ⟨rfl, rfl⟩
    go_wp2_with fail
    first | (refine bodyPost_ret (results_none rfl _ _ _) rfl ?_) | (refine bodyPost_end (results_none rfl _ _ _) rfl ?_)
    exact ⟨⟨_, rfl⟩, H.out, Tr.refl _ _⟩
def tkE (n : Nat) (e : Int) (xs : List Int) : Int := if e = 0 then (if n ≤ xs.length then 0 else 3) else e
def tkO (n : Nat) (e : Int) (xs : List Int) : List Int := if e = 0 then (if n ≤ xs.length then xs.take n else []) else []
def tkR (n : Nat) (e : Int) (xs : List Int) : List Int := if e = 0 then (if n ≤ xs.length then xs.drop n else []) else []
def Took (w : World) (lo hi g n : Nat) (e : Int) (xs : List Int) (r : Ending) (w' : World) : Prop := ∃ u, r = .returned u ∧ Bs w' u (tkO n e xs) ∧ (∀ b, u.ownBlock = some b → lo ≤ b ∧ b < hi ∧ b ≠ g) ∧ SA w' lo hi g (tkE n e xs) (tkR n e xs) ∧ Tr (fun b => b = g) w w'
set_option maxRecDepth 100000 in
set_option maxHeartbeats 4000000 in
theorem take_at {w : World} {lo hi g : Nat} {e : Int} {xs : List Int} (n : Nat) (h : SA w lo hi g e xs) : Calls Try.prog 177 #[.pointer (some ⟨g, 0, none⟩), .int .i64 (n : Int)] w (Took w lo hi g n e xs) := by
  have ok := Lib.hid (ok_at h)
  by_cases he : e = 0
  · subst he
    rw [decide_eq_true rfl] at ok
    by_cases hn : n ≤ xs.length
    · obtain ⟨h1, hh, -, h3, h4, v, hs, hv⟩ := h
      have hE : tkE n 0 xs = 0 := by unfold tkE; rw [if_pos rfl, if_pos hn]
      have hO : tkO n 0 xs = xs.take n := by unfold tkO; rw [if_pos rfl, if_pos hn]
      have hR : tkR n 0 xs = xs.drop n := by unfold tkR; rw [if_pos rfl, if_pos hn]
      have c0 : w.cell? ⟨g, 0, none⟩ = some v := hs.cell 0
      have f0 := hs.frozen 0
      rcases hv with ⟨rfl, rfl⟩ | ⟨b, o, c, hb, hbh, hbg, rfl, hc, hcell⟩
      · obtain rfl : n = 0 := Nat.le_zero.1 hn
        have fin : Took w lo hi g 0 0 [] (.returned (.slice none 0 0)) (w.setCell ⟨g, 0, none⟩ (.slice none 0 0)) := ⟨_, rfl, by rw [hO]; exact Bs.nil _, (fun b hb => (by cases hb)), by rw [hE, hR]; exact ⟨h1, hh, (fun h => absurd rfl h), (fun x hx => (by cases hx)), Nat.zero_le _, _, Row.congr (Row.set hs 0 _) rfl, .inl ⟨rfl, rfl⟩⟩, tr_cell rfl⟩
        have H := Lib.hid fin
        clear fin hE hO hR h3 h4 hn h1 hs
        go_enter Try.func177, Try.ntmps177
        go_wp2_with fail
        refine ok.out.mono ?_
        rintro r w' ⟨rfl, rfl⟩
        clear ok
        go_wp2_with fail
        go_ret
        exact H.out
      · have hx : ∀ v', Row (w.setCell ⟨g, 0, none⟩ v') g 72 #[v', .int .i64 0, .bool true] := fun v' => Row.congr (Row.set hs 0 v') rfl
        have hT : ∀ v', Tr (fun b => b = g) w (w.setCell ⟨g, 0, none⟩ v') := fun v' => tr_cell (X := fun b => b = g) rfl
        have hcl : ∀ v' j x, xs[j]? = some x → (w.setCell ⟨g, 0, none⟩ v').cell? ⟨b, o + j, none⟩ = some (.int .u8 x) := fun v' j x hj => by
          rw [← hcell j x hj]
          exact World.cell?_of_block ((hT v').block b (cell_lt (hcell j x hj)) hbg)
        have hd3 : ∀ x ∈ xs.drop n, 0 ≤ x ∧ x < 256 := fun x hx => h3 x (List.mem_of_mem_drop hx)
        have fin : ∀ v', (v' = .slice (some ⟨b, o + n, none⟩) (xs.length - n) (c - n) ∨ n = c ∧ v' = .slice (some ⟨b, o, none⟩) 0 0) → Took w lo hi g n 0 xs (.returned (.slice (some ⟨b, o, none⟩) n n)) (w.setCell ⟨g, 0, none⟩ v') := fun v' hv' => by
          refine ⟨_, rfl, ?_, (fun b' hb' => by cases hb'; exact ⟨hb, hbh, hbg⟩), ?_, hT v'⟩
          · rw [hO]
            refine ⟨some ⟨b, o, none⟩, n, by rw [List.length_take, Nat.min_eq_left hn], (fun h => (by cases h)), fun a ha j u hj => ?_⟩
            cases ha
            rw [add_off]
            unfold bv at hj
            rw [List.getElem?_map, List.getElem?_take] at hj
            split at hj
            · rcases hx9 : xs[j]? with _ | x
              · rw [hx9] at hj; cases hj
              · rw [hx9] at hj; cases hj
                exact hcl v' j x hx9
            · cases hj
          · rw [hE, hR]
            refine ⟨h1, hh, (fun h => absurd rfl h), hd3, by rw [List.length_drop]; omega, v', hx v', ?_⟩
            rcases hv' with rfl | ⟨rfl, rfl⟩
            · refine .inr ⟨b, o + n, c - n, hb, hbh, hbg, by rw [List.length_drop], by rw [List.length_drop]; omega, fun j x hj => ?_⟩
              rw [List.getElem?_drop] at hj
              rw [Nat.add_assoc]
              exact hcl _ _ _ hj
            · refine .inr ⟨b, o, 0, hb, hbh, hbg, by rw [List.length_drop, Nat.sub_eq_zero_of_le hc], by rw [List.length_drop]; omega, fun j x hj => ?_⟩
              rw [List.getElem?_drop, List.getElem?_eq_none (by omega)] at hj
              cases hj
        obtain ⟨m, hm⟩ : ∃ m, xs.length = m := ⟨_, rfl⟩
        rw [hm] at c0 hn hc h4
        have hm1 : (n : Int) ≤ (m : Int) := by omega
        have hm2 : (n : Int) ≤ (c : Int) := by omega
        have hm3 : (m : Int) ≤ (c : Int) := by omega
        by_cases hcn : c = n
        · subst hcn
          obtain rfl : m = c := by omega
          have H := Lib.hid (fin _ (.inr ⟨rfl, rfl⟩))
          clear fin hE hO hR hd3 hcl hT hx hcell h3 h4 hs
          go_enter Try.func177, Try.ntmps177
          go_wp2_with fail
          refine ok.out.mono ?_
          rintro r w' ⟨rfl, rfl⟩
          clear ok
          go_wp2_with fail
          all_goals (go_ret; exact H.out)
        · have H := Lib.hid (fin _ (.inl rfl))
          rw [hm] at H
          clear fin hE hO hR hd3 hcl hT hx hcell h3 h4 hs
          go_enter Try.func177, Try.ntmps177
          go_wp2_with fail
          refine ok.out.mono ?_
          rintro r w' ⟨rfl, rfl⟩
          clear ok
          go_wp2_with fail
          all_goals (go_ret; exact H.out)
    · have hE : tkE n 0 xs = 3 := by unfold tkE; rw [if_pos rfl, if_neg hn]
      have hO : tkO n 0 xs = [] := by unfold tkO; rw [if_pos rfl, if_neg hn]
      have hR : tkR n 0 xs = [] := by unfold tkR; rw [if_pos rfl, if_neg hn]
      have hf := Lib.hid (fail_at 3 h)
      obtain ⟨h1, hh, -, h3, h4, v, hs, hv⟩ := h
      have c0 : w.cell? ⟨g, 0, none⟩ = some v := hs.cell 0
      have hE' := Lib.hid (show tkE n 0 xs = 3 ∧ tkO n 0 xs = [] ∧ tkR n 0 xs = [] from ⟨hE, hO, hR⟩)
      obtain ⟨q, c, rfl⟩ : ∃ q c, v = .slice q xs.length c := by
        rcases hv with ⟨rfl, rfl⟩ | ⟨b, o, c, hb, hbh, hbg, rfl, hc, hcell⟩
        · exact ⟨_, _, rfl⟩
        · exact ⟨_, _, rfl⟩
      clear hv hE hO hR h3 h1 hs
      have hm1 : (xs.length : Int) < (n : Int) := by omega
      go_enter Try.func177, Try.ntmps177
      go_wp2_with fail
      refine ok.out.mono ?_
      rintro r w' ⟨rfl, rfl⟩
      clear ok
      go_wp2_with fail
      refine hf.out.mono ?_
      rintro r w2 ⟨⟨u, rfl⟩, hs, ht⟩
      have H := Lib.hid (show _ ∧ _ from ⟨hs, ht⟩)
      clear hf hs ht
      go_wp2_with fail
      go_ret
      refine ⟨_, rfl, ?_, (fun b hb => (by cases hb)), ?_, H.out.2⟩
      · rw [hE'.out.2.1]; exact Bs.nil _
      · rw [hE'.out.1, hE'.out.2.2]; exact H.out.1
  · rw [decide_eq_false he] at ok
    have H := Lib.hid (show Took w lo hi g n e xs (.returned (.slice none 0 0)) w from ⟨_, rfl, by unfold tkO; rw [if_neg he]; exact Bs.nil _, (fun b hb => (by cases hb)), by unfold tkE tkR; rw [if_neg he, if_neg he]; rw [h.2.2.1 he] at h; exact h, Tr.refl _ _⟩)
    clear h
    go_enter Try.func177, Try.ntmps177
    go_wp2_with fail
    refine ok.out.mono ?_
    rintro r w' ⟨rfl, rfl⟩
    clear ok
    go_wp2_with fail
    go_ret
    exact H.out
theorem SA.len {w : World} {lo hi g : Nat} {e : Int} {xs : List Int} (h : SA w lo hi g e xs) : ∃ q c, w.cell? ⟨g, 0, none⟩ = some (.slice q xs.length c) ∨ e ≠ 0 := by
  obtain ⟨-, -, h2, -, -, v, hs, hv⟩ := h
  rcases hv with ⟨rfl, rfl⟩ | ⟨b, o, c, -, -, -, rfl, -⟩
  · exact ⟨none, 0, .inl (hs.cell 0)⟩
  · exact ⟨_, _, .inl (hs.cell 0)⟩
set_option maxRecDepth 100000 in
set_option maxHeartbeats 2000000 in
theorem left_at {w : World} {lo hi g : Nat} {e : Int} {xs : List Int} (h : SA w lo hi g e xs) : Calls Try.prog 64 #[.pointer (some ⟨g, 0, none⟩)] w fun r w' => r = .returned (.int .i64 ((xs.length : Nat) : Int)) ∧ w' = w := by
  have ok := Lib.hid (ok_at h)
  by_cases he : e = 0
  · subst he
    rw [decide_eq_true rfl] at ok
    obtain ⟨q, c, c0⟩ := h.len
    replace c0 := c0.resolve_right (fun h => h rfl)
    clear h
    go_enter Try.func64, Try.ntmps64
    go_wp2_with fail
    refine ok.out.mono ?_
    rintro r w' ⟨rfl, rfl⟩
    clear ok
    go_wp2_with fail
    go_ret
    exact ⟨rfl, rfl⟩
  · rw [decide_eq_false he] at ok
    obtain rfl := h.2.2.1 he
    clear h
    go_enter Try.func64, Try.ntmps64
    go_wp2_with fail
    refine ok.out.mono ?_
    rintro r w' ⟨rfl, rfl⟩
    clear ok
    go_wp2_with fail
    go_ret
    exact ⟨rfl, rfl⟩
theorem err_at {w : World} {lo hi g : Nat} {e : Int} {xs : List Int} (h : SA w lo hi g e xs) : Calls Try.prog 66 #[.pointer (some ⟨g, 0, none⟩)] w fun r w' => r = .returned (.int .i64 e) ∧ w' = w := by
  obtain ⟨-, -, -, -, -, v, hs, -⟩ := h
  exact err_row hs
def edE (e : Int) (xs : List Int) : Int := if 0 < xs.length then 4 else e
theorem edE_zero {e : Int} {xs : List Int} : edE e xs = 0 ↔ e = 0 ∧ xs = [] := by
  unfold edE
  split
  · rename_i h
    constructor
    · intro h4; cases h4
    · rintro ⟨-, rfl⟩; cases h
  · rename_i h
    have : xs = [] := List.eq_nil_of_length_eq_zero (by omega)
    simp [this]
set_option maxRecDepth 100000 in
set_option maxHeartbeats 2000000 in
theorem end_at {w : World} {lo hi g : Nat} {e : Int} {xs : List Int} (h : SA w lo hi g e xs) : Calls Try.prog 61 #[.pointer (some ⟨g, 0, none⟩)] w fun r w' => r = .returned (.int .i64 (edE e xs)) ∧ SA w' lo hi g (edE e xs) [] ∧ Tr (fun b => b = g) w w' := by
  have lf := Lib.hid (left_at h)
  by_cases h0 : 0 < xs.length
  · have he : e = 0 := by
      by_cases he : e = 0
      · exact he
      · rw [h.2.2.1 he] at h0; cases h0
    subst he
    have hE : edE 0 xs = 4 := by unfold edE; rw [if_pos h0]
    have hf := Lib.hid (fail_at 4 h)
    have h1 : (0 : Int) < (xs.length : Int) := by omega
    rw [hE]
    clear h hE h0
    go_enter Try.func61, Try.ntmps61
    go_wp2_with fail
    refine lf.out.mono ?_
    rintro r w' ⟨rfl, rfl⟩
    clear lf
    go_wp2_with fail
    refine hf.out.mono ?_
    rintro r w2 ⟨⟨u, rfl⟩, hs, ht⟩
    replace hs : SA w2 lo hi g 4 [] := by simpa using hs
    have er := Lib.hid (err_at hs)
    have H := Lib.hid (show _ ∧ _ from ⟨hs, ht⟩)
    clear hf hs ht
    go_wp2_with fail
    refine er.out.mono ?_
    rintro r w3 ⟨rfl, rfl⟩
    go_wp2_with fail
    go_ret
    exact ⟨rfl, H.out.1, H.out.2⟩
  · have hE : edE e xs = e := by unfold edE; rw [if_neg h0]
    have h1 : xs = [] := List.eq_nil_of_length_eq_zero (by omega)
    subst h1
    rw [hE]
    have er := Lib.hid (err_at h)
    have H := Lib.hid h
    clear h hE h0
    go_enter Try.func61, Try.ntmps61
    go_wp2_with fail
    refine lf.out.mono ?_
    rintro r w' ⟨rfl, rfl⟩
    clear lf
    go_wp2_with fail
    refine er.out.mono ?_
    rintro r w3 ⟨rfl, rfl⟩
    go_wp2_with fail
    go_ret
    exact ⟨rfl, H.out, Tr.refl _ _⟩
def byO (e : Int) (xs : List Int) : Int := (tkO 1 e xs).headD 0
set_option maxRecDepth 100000 in
set_option maxHeartbeats 2000000 in
theorem byte_at {w : World} {lo hi g : Nat} {e : Int} {xs : List Int} (h : SA w lo hi g e xs) : Calls Try.prog 69 #[.pointer (some ⟨g, 0, none⟩)] w fun r w' => r = .returned (.int .u8 (byO e xs)) ∧ SA w' lo hi g (tkE 1 e xs) (tkR 1 e xs) ∧ Tr (fun b => b = g) w w' := by
  have tk := Lib.hid (take_at 1 h)
  have hlen : (tkO 1 e xs).length ≤ 1 := by
    unfold tkO
    split
    · split
      · rw [List.length_take]; omega
      · exact Nat.zero_le _
    · exact Nat.zero_le _
  unfold byO
  obtain ⟨z, hz⟩ : ∃ z, tkO 1 e xs = z := ⟨_, rfl⟩
  rw [hz] at hlen ⊢
  clear h
  rcases z with _ | ⟨y, ys⟩
  · show Calls Try.prog 69 _ w fun r w' => r = .returned (.int .u8 0) ∧ _ ∧ _
    go_enter Try.func69, Try.ntmps69
    go_wp2_with fail
    refine tk.out.mono ?_
    rintro r w' ⟨u, rfl, hu, -, hs, ht⟩
    rw [hz] at hu
    have H := Lib.hid (show _ ∧ _ from ⟨hs, ht⟩)
    clear tk hs ht hz
    obtain ⟨q, c, rfl, -, -⟩ := hu
    go_wp2_with fail
    go_loopg [8] 0 (fun gg s8 wr => s8 = .int .i64 0 ∧ wr = w')
    case atStart => exact ⟨rfl, rfl⟩
    case round =>
      obtain ⟨rfl, rfl⟩ := hrel
      go_wp2_with fail
      go_ret
      exact ⟨rfl, H.out.1, H.out.2⟩
  · show Calls Try.prog 69 _ w fun r w' => r = .returned (.int .u8 y) ∧ _ ∧ _
    obtain rfl : ys = [] := List.eq_nil_of_length_eq_zero (by simpa using hlen)
    go_enter Try.func69, Try.ntmps69
    go_wp2_with fail
    refine tk.out.mono ?_
    rintro r w' ⟨u, rfl, hu, -, hs, ht⟩
    rw [hz] at hu
    have H := Lib.hid (show _ ∧ _ from ⟨hs, ht⟩)
    clear tk hs ht hz
    obtain ⟨q, c, rfl, hq, hc⟩ := hu
    cases q with
    | none => cases (hq rfl).2
    | some a =>
      have k0 := hc a rfl 0 _ rfl
      rw [show a.add 0 = a from by unfold Addr.add; rfl] at k0
      clear hq hc hlen
      go_wp2_with fail
      go_loopg [8] 1 (fun gg s8 wr => gg = 1 ∧ s8 = .int .i64 0 ∧ wr = w')
      case atStart => exact ⟨rfl, rfl, rfl⟩
      case round =>
        obtain ⟨rfl, rfl, rfl⟩ := hrel
        go_wp2_with fail
        go_ret
        exact ⟨rfl, H.out.1, H.out.2⟩
end Go.Proofs.Ytpdenhmkpiafiaa
namespace Go.Proofs.Ytpdenhmkpiafiaa
open Go Go.RowKit K6
def grp (i : Nat) : List Int → Int × Nat
  | [] => (3, 0)
  | c :: cs => if i = 9 then (4, 0) else if 128 ≤ c then grp (i + 1) cs else if c = 0 ∧ 0 < i then (4, 0) else (0, i + 1)
def gval : List Int → Nat
  | [] => 0
  | c :: cs => (c % 128).toNat + 128 * gval cs
theorem grp_spec : ∀ (xs : List Int) (i : Nat), i ≤ 9 → ((grp i xs).1 = 0 ∧ i < (grp i xs).2 ∧ (grp i xs).2 ≤ 9 ∧ (grp i xs).2 ≤ i + xs.length) ∨ (((grp i xs).1 = 3 ∨ (grp i xs).1 = 4) ∧ (grp i xs).2 = 0)
  | [], i, _ => .inr ⟨.inl rfl, rfl⟩
  | c :: cs, i, h => by
    unfold grp
    by_cases h9 : i = 9
    · rw [if_pos h9]; exact .inr ⟨.inr rfl, rfl⟩
    · rw [if_neg h9]
      by_cases hc : 128 ≤ c
      · rw [if_pos hc]
        rcases grp_spec cs (i + 1) (by omega) with ⟨h1, h2, h3, h4⟩ | h1
        · refine .inl ⟨h1, by omega, h3, ?_⟩
          rw [List.length_cons]; omega
        · exact .inr h1
      · rw [if_neg hc]
        by_cases h0 : c = 0 ∧ 0 < i
        · rw [if_pos h0]; exact .inr ⟨.inr rfl, rfl⟩
        · rw [if_neg h0]
          refine .inl ⟨rfl, Nat.lt_succ_self _, ?_, ?_⟩
          · show i + 1 ≤ 9; omega
          · show i + 1 ≤ i + (c :: cs).length; rw [List.length_cons]; omega
theorem gval_lt : ∀ xs : List Int, gval xs < 128 ^ xs.length
  | [] => by decide
  | c :: cs => by
    have h := gval_lt cs
    rw [List.length_cons, Nat.pow_succ]
    show (c % 128).toNat + 128 * gval cs < _
    have : (c % 128).toNat < 128 := by omega
    omega
theorem gval_snoc : ∀ (xs : List Int) (c : Int), gval (xs ++ [c]) = gval xs + (c % 128).toNat * 128 ^ xs.length
  | [], c => by show (c % 128).toNat + 128 * 0 = 0 + (c % 128).toNat * 1; omega
  | x :: xs, c => by
    show (x % 128).toNat + 128 * gval (xs ++ [c]) = ((x % 128).toNat + 128 * gval xs) + (c % 128).toNat * 128 ^ (xs.length + 1)
    rw [gval_snoc xs c, Nat.pow_succ, Nat.mul_add]
    have : 128 * ((c % 128).toNat * 128 ^ xs.length) = (c % 128).toNat * (128 ^ xs.length * 128) := by
      rw [Nat.mul_comm 128, Nat.mul_assoc]
    omega
theorem gval_63 {xs : List Int} (h : xs.length ≤ 9) : gval xs < 9223372036854775808 :=
  Nat.lt_of_lt_of_le (gval_lt xs) (Nat.le_trans (Nat.pow_le_pow_right (by decide) h) (by decide))
set_option maxRecDepth 100000 in
set_option maxHeartbeats 4000000 in
theorem group_at {w : World} {lo hi g : Nat} {xs : List Int} (h : SA w lo hi g 0 xs) : Calls Try.prog 175 #[.pointer (some ⟨g, 0, none⟩)] w fun r w' => r = .returned (.int .i64 (((grp 0 xs).2 : Nat) : Int)) ∧ SA w' lo hi g (grp 0 xs).1 (if (grp 0 xs).1 = 0 then xs else []) ∧ Tr (fun b => b = g) w w' := by
  obtain ⟨ke, kn, hk⟩ : ∃ ke kn, grp 0 xs = (ke, kn) := ⟨_, _, rfl⟩
  rw [hk]
  show Calls Try.prog 175 _ w fun r w' => r = .returned (.int .i64 ((kn : Nat) : Int)) ∧ SA w' lo hi g ke (if ke = 0 then xs else []) ∧ _
  have f3 := Lib.hid (fail_at 3 h)
  have f4 := Lib.hid (fail_at 4 h)
  have H0 := Lib.hid h
  obtain ⟨-, -, -, hx, hL, v, hs, hv⟩ := h
  have c0 : w.cell? ⟨g, 0, none⟩ = some v := hs.cell 0
  clear hs
  rcases hv with ⟨rfl, rfl⟩ | ⟨b, o, c, -, -, -, rfl, hc, hcell⟩
  · obtain ⟨rfl, rfl⟩ : 3 = ke ∧ 0 = kn := by
      have : grp 0 [] = (3, 0) := rfl
      rw [this] at hk
      injection hk with h1 h2
      exact ⟨h1, h2⟩
    clear hk hx hL
    go_enter Try.func175, Try.ntmps175
    go_wp2_with fail
    go_loopg [13] 0 (fun gg s13 wr => s13 = .int .i64 0 ∧ wr = w)
    case atStart => exact ⟨rfl, rfl⟩
    case round =>
      obtain ⟨rfl, rfl⟩ := hrel
      go_wp2_with fail
      refine f3.out.mono ?_
      rintro r w' ⟨⟨u, rfl⟩, hs, ht⟩
      have H := Lib.hid (show SA w' lo hi g 3 [] ∧ _ from ⟨by simpa using hs, ht⟩)
      clear hs ht f3 f4
      go_wp2_with fail
      go_ret
      exact ⟨rfl, by simpa using H.out.1, H.out.2⟩
  · obtain ⟨m, hm⟩ : ∃ m, xs.length = m := ⟨_, rfl⟩
    rw [hm] at c0 hc hL
    have hf : Hid (∀ i : Nat, i < m → ∃ y : Int, xs[i]? = some y ∧ xs.drop i = y :: xs.drop (i + 1) ∧ 0 ≤ y ∧ y < 256 ∧ w.cell? ⟨b, o + i, none⟩ = some (.int .u8 y)) := Lib.hid fun i hi => by
      have h1 : xs[i]? = some (xs[i]'(by omega)) := List.getElem?_eq_getElem (by omega)
      exact ⟨_, h1, List.drop_eq_getElem_cons (by omega), (hx _ (List.getElem_mem _)).1, (hx _ (List.getElem_mem _)).2, hcell i _ h1⟩
    have hd : Hid (xs.drop m = []) := Lib.hid (List.drop_eq_nil_of_le (by omega))
    have hk0 := Lib.hid (show grp 0 (xs.drop 0) = (ke, kn) from hk)
    clear hk hx hcell hm
    go_enter Try.func175, Try.ntmps175
    go_wp2_with fail
    go_loopg [13] m (fun gg s13 wr => ∃ i : Nat, i + gg = m ∧ i ≤ 9 ∧ s13 = .int .i64 (i : Int) ∧ wr = w ∧ Hid (grp i (xs.drop i) = (ke, kn)))
    case atStart => exact ⟨0, by omega, by omega, rfl, rfl, hk0⟩
    case round =>
      obtain ⟨i, hik, hi9, rfl, rfl, hk⟩ := hrel
      by_cases him : i < m
      · obtain ⟨y, -, hdr, hy0, hy1, cy⟩ := hf.out i him
        have hk2 := hk.out
        rw [hdr] at hk2
        unfold grp at hk2
        have hlt : (i : Int) < (m : Int) := by omega
        by_cases h9 : i = 9
        · rw [if_pos h9] at hk2
          injection hk2 with e1 e2
          subst e1; subst e2; subst h9
          clear hdr hk hk0
          go_wp2_with fail
          refine f4.out.mono ?_
          rintro r w' ⟨⟨u, rfl⟩, hs, ht⟩
          have H := Lib.hid (show SA w' lo hi g 4 [] ∧ _ from ⟨by simpa using hs, ht⟩)
          clear hs ht f3 f4
          go_wp2_with fail
          go_ret
          exact ⟨rfl, by simpa using H.out.1, H.out.2⟩
        · rw [if_neg h9] at hk2
          have h9' : ¬ (i : Int) = 9 := by omega
          by_cases hc1 : 128 ≤ y
          · rw [if_pos hc1] at hk2
            have hn := Lib.hid hk2
            have wi : IntKind.i64.wrap ((i : Int) + 1) = (i : Int) + 1 := by rw [IntKind.wrap_i64]; omega
            clear hk2 hdr hk hk0
            go_wp2_with fail
            go_roundg (gk - 1)
            case measure => omega
            case rel => exact ⟨i + 1, by omega, by omega, by go_num, rfl, hn⟩
          · rw [if_neg hc1] at hk2
            have hc2 : y < 128 := by omega
            by_cases h0 : y = 0 ∧ 0 < i
            · rw [if_pos h0] at hk2
              injection hk2 with e1 e2
              subst e1; subst e2
              obtain ⟨rfl, h0⟩ := h0
              have hp : (0 : Int) < (i : Int) := by omega
              clear hdr hk hk0
              go_wp2_with fail
              refine f4.out.mono ?_
              rintro r w' ⟨⟨u, rfl⟩, hs, ht⟩
              have H := Lib.hid (show SA w' lo hi g 4 [] ∧ _ from ⟨by simpa using hs, ht⟩)
              clear hs ht f3 f4
              go_wp2_with fail
              go_ret
              exact ⟨rfl, by simpa using H.out.1, H.out.2⟩
            · rw [if_neg h0] at hk2
              injection hk2 with e1 e2
              subst e1; subst e2
              have wi : IntKind.i64.wrap ((i : Int) + 1) = (i : Int) + 1 := by rw [IntKind.wrap_i64]; omega
              clear hdr hk hk0
              by_cases hy : y = 0
              · subst hy
                obtain rfl : i = 0 := by omega
                rw [Nat.add_zero] at cy
                clear wi h0 hc1 hc2 h9 h9' hlt
                have hlt : (0 : Int) < (m : Int) := by omega
                go_wp2_with fail
                go_ret
                exact ⟨by simp, by simpa using H0.out, Tr.refl _ _⟩
              · have hq : (y == 0) = false := by rw [beq_eq_false_iff_ne]; exact hy
                clear h0
                go_wp2_with fail
                go_ret
                exact ⟨by simp, by simpa using H0.out, Tr.refl _ _⟩
      · obtain rfl : i = m := by omega
        have hk2 := hk.out
        rw [hd.out] at hk2
        have e : grp i [] = (3, 0) := rfl
        rw [e] at hk2
        injection hk2 with e1 e2
        subst e1; subst e2
        clear hk hk0 e hi9
        go_wp2_with fail
        refine f3.out.mono ?_
        rintro r w' ⟨⟨u, rfl⟩, hs, ht⟩
        have H := Lib.hid (show SA w' lo hi g 3 [] ∧ _ from ⟨by simpa using hs, ht⟩)
        clear hs ht f3 f4
        go_wp2_with fail
        go_ret
        exact ⟨rfl, by simpa using H.out.1, H.out.2⟩
def svE (most e : Int) (xs : List Int) : Int := if e = 0 then (if (grp 0 xs).1 = 0 then (if most < (gval (xs.take (grp 0 xs).2) : Int) then 5 else 0) else (grp 0 xs).1) else e
def svN (most e : Int) (xs : List Int) : Nat := if svE most e xs = 0 then gval (xs.take (grp 0 xs).2) else 0
def svR (most e : Int) (xs : List Int) : List Int := if svE most e xs = 0 then xs.drop (grp 0 xs).2 else []
def Varred (w : World) (lo hi g : Nat) (most e : Int) (xs : List Int) (r : Ending) (w' : World) : Prop := r = .returned (.int .i64 ((svN most e xs : Nat) : Int)) ∧ SA w' lo hi g (svE most e xs) (svR most e xs) ∧ Tr (fun b => b = g) w w'
theorem and127 {y : Int} (h0 : 0 ≤ y) (h1 : y < 256) : bits .and .u8 y 127 = (((y % 128).toNat : Nat) : Int) := by
  rw [u8_and y 127 h0 h1 (by decide) (by decide)]
  have : y.toNat &&& (127 : Int).toNat = (y % 128).toNat := by
    show y.toNat &&& 127 = _
    rw [nat_mask7]; omega
  rw [this]
theorem i64_or_nat (a b : Nat) (ha : a < 9223372036854775808) (hb : b < 9223372036854775808) : bits .or .i64 (a : Int) (b : Int) = ((a ||| b : Nat) : Int) := by
  simp only [bits]
  show IntKind.i64.wrap ((BitVec.ofInt 64 (a : Int) ||| BitVec.ofInt 64 (b : Int)).toNat : Int) = _
  rw [BitVec.toNat_or, ofInt_u64 a (by omega), ofInt_u64 b (by omega), IntKind.wrap_i64]
  have : a ||| b < 2 ^ 63 := Nat.or_lt_two_pow ha hb
  omega
theorem shl7 (z i s : Nat) (hs : z * 128 ^ i = s) (hlt : s < 9223372036854775808) : wrap64 ((z : Int) * 2 ^ (7 * i)) = (s : Int) := by
  have e2 : (z : Int) * 2 ^ (7 * i) = (s : Int) := by
    have h1 : (128 : Nat) ^ i = 2 ^ (7 * i) := by rw [Nat.pow_mul]
    rw [← hs, h1, Int.natCast_mul, Int.natCast_pow]; rfl
  rw [e2]
  unfold wrap64
  omega
theorem or_step (n z i s : Nat) (hs : z * 128 ^ i = s) (hn : n < 128 ^ i) (hlt : n + s < 9223372036854775808) : bits .or .i64 (n : Int) (s : Int) = ((n + s : Nat) : Int) := by
  rw [i64_or_nat n s (by omega) (by omega), Nat.or_comm]
  have h128 : (128 : Nat) ^ i = 2 ^ (7 * i) := by rw [Nat.pow_mul]
  rw [nat_join (7 * i) s n (by rw [← hs, h128]; exact Nat.mul_mod_left _ _) (by rw [← h128]; exact hn), Nat.add_comm]
set_option maxRecDepth 100000 in
set_option maxHeartbeats 8000000 in
theorem svar_at {w : World} {lo hi g : Nat} {e : Int} {xs : List Int} (most : Int) (h : SA w lo hi g e xs) : Calls Try.prog 60 #[.pointer (some ⟨g, 0, none⟩), .int .i64 most] w (Varred w lo hi g most e xs) := by
  have ok := Lib.hid (ok_at h)
  by_cases he : e = 0
  · subst he
    rw [decide_eq_true rfl] at ok
    have gr := group_at h
    have hsp := grp_spec xs 0 (by omega)
    have H : ∀ r w', (r = Ending.returned (.int .i64 ((svN most 0 xs : Nat) : Int)) ∧ SA w' lo hi g (svE most 0 xs) (svR most 0 xs) ∧ Tr (fun b => b = g) w w') → Varred w lo hi g most 0 xs r w' := fun _ _ h => h
    unfold svN svR svE at H
    obtain ⟨ke, kn, hk⟩ : ∃ ke kn, grp 0 xs = (ke, kn) := ⟨_, _, rfl⟩
    rw [hk] at gr hsp
    simp only [hk] at H
    simp only at gr hsp
    have ok2 : ke ≠ 0 ∨ ke = 0 := by omega
    rcases ok2 with h1 | h1
    · obtain rfl : kn = 0 := by rcases hsp with ⟨h2, -⟩ | ⟨-, h2⟩; exact absurd h2 h1; exact h2
      have HH := Lib.hid (fun r w' => H r w')
      simp only [if_pos, if_neg h1] at HH
      have gg := Lib.hid gr
      have hke := Lib.hid h1
      clear gr hsp H hk h
      go_enter Try.func60, Try.ntmps60
      go_wp2_with fail
      refine ok.out.mono ?_
      rintro r w' ⟨rfl, rfl⟩
      clear ok
      go_wp2_with fail
      refine gg.out.mono ?_
      rintro r w2 ⟨rfl, hs, ht⟩
      have HS := Lib.hid (show SA w2 lo hi g ke [] ∧ _ from ⟨by simpa [hke.out] using hs, ht⟩)
      clear gg hs ht
      go_wp2_with fail
      go_ret
      refine HH.out _ _ ⟨rfl, HS.out.1, HS.out.2⟩
    · subst h1
      obtain ⟨h2, h3, h4⟩ : 0 < kn ∧ kn ≤ 9 ∧ kn ≤ xs.length := by rcases hsp with ⟨-, a, b, c⟩ | ⟨a, -⟩; exact ⟨a, b, by omega⟩; exact absurd a (by decide)
      have hlt := gval_63 (xs := xs.take kn) (by rw [List.length_take]; omega)
      have hstep : ∀ i, i < kn → ∃ y : Int, xs[i]? = some y ∧ 0 ≤ y ∧ y < 256 ∧ gval (xs.take (i + 1)) = gval (xs.take i) + (y % 128).toNat * 128 ^ i ∧ gval (xs.take i) < 128 ^ i ∧ gval (xs.take (i + 1)) < 9223372036854775808 := fun i hi => by
        have hx := h.2.2.2.1
        have hi2 : i < xs.length := by omega
        refine ⟨xs[i], List.getElem?_eq_getElem hi2, (hx _ (List.getElem_mem _)).1, (hx _ (List.getElem_mem _)).2, ?_, ?_, gval_63 (by rw [List.length_take]; omega)⟩
        · rw [List.take_succ_eq_append_getElem hi2, gval_snoc, List.length_take, Nat.min_eq_left (by omega)]
        · have := gval_lt (xs.take i)
          rwa [List.length_take, Nat.min_eq_left (by omega)] at this
      have hg0 : gval (xs.take 0) = 0 := rfl
      have HH := Lib.hid (fun r w' => H r w')
      simp only [if_pos] at HH
      have gg := Lib.hid gr
      have hst := Lib.hid hstep
      have hkn : ((kn : Int) == 0) = false := by rw [beq_eq_false_iff_ne]; omega
      have hkn' : ¬ (kn : Int) = 0 := by omega
      obtain ⟨G, hG⟩ : ∃ G, gval (xs.take kn) = G := ⟨_, rfl⟩
      rw [hG] at HH hlt
      have h4' := Lib.hid h4
      have hGg := Lib.hid hG
      clear gr hsp H hk hG hstep h h4
      go_enter Try.func60, Try.ntmps60
      go_wp2_with fail
      refine ok.out.mono ?_
      rintro r w' ⟨rfl, rfl⟩
      clear ok
      go_wp2_with fail
      refine gg.out.mono ?_
      rintro r w2 ⟨rfl, hs, ht⟩
      replace hs : SA w2 lo hi g 0 xs := by simpa using hs
      have ff := Lib.hid (fail_at 5 hs)
      have tk := Lib.hid (take_at kn hs)
      have HS := Lib.hid (show _ ∧ _ from ⟨hs, ht⟩)
      clear gg ht
      obtain ⟨-, -, -, -, hL, v, hs, hv⟩ := hs
      have c0 : w2.cell? ⟨g, 0, none⟩ = some v := hs.cell 0
      clear hs
      rcases hv with ⟨-, rfl⟩ | ⟨b, o, c, -, -, -, rfl, hc, hcell⟩
      · exact absurd h4'.out (by simp; omega)
      · have hk1 : (kn : Int) ≤ (c : Int) := by have := h4'.out; omega
        have hcl := Lib.hid hcell
        clear hcell hc hL
        go_wp2_with fail
        go_loopg [6, 23] kn (fun gg s6 s23 wr => ∃ i n : Nat, i + gg = kn ∧ s6 = .int .i64 (n : Int) ∧ s23 = .int .i64 (i : Int) ∧ wr = w2 ∧ Hid (gval (xs.take i) = n))
        case atStart => exact ⟨0, 0, by omega, rfl, rfl, rfl, Lib.hid rfl⟩
        case round =>
          obtain ⟨i, n, hin, rfl, rfl, rfl, hn⟩ := hrel
          by_cases hik : i < kn
          · obtain ⟨y, hy, hy0, hy1, e1, e2, e3⟩ := hst.out i hik
            have cy := hcl.out i y hy
            rw [hn.out] at e1 e2
            obtain ⟨z, hz⟩ : ∃ z, (y % 128).toNat = z := ⟨_, rfl⟩
            obtain ⟨s, hs⟩ : ∃ s, z * 128 ^ i = s := ⟨_, rfl⟩
            rw [hz, hs] at e1
            rw [e1] at e3
            have hand := and127 hy0 hy1
            rw [hz] at hand
            have hor := Lib.hid (or_step n z i s hs e2 e3)
            have hw64 := Lib.hid (shl7 z i s hs (by omega))
            have hn2 := Lib.hid e1
            have hzl : z < 128 := by omega
            have wz : IntKind.i64.wrap (z : Int) = (z : Int) := by rw [IntKind.wrap_i64]; omega
            have w7 : IntKind.i64.wrap (7 * (i : Int)) = 7 * (i : Int) := by rw [IntKind.wrap_i64]; omega
            have hlt9 : (i : Int) < (kn : Int) := by omega
            clear hy hz hs e1 e2 e3 hy0 hy1
            go_wp2_with fail
            go_roundg (gk - 1)
            case measure => omega
            case rel => exact ⟨i + 1, n + s, by omega, by rw [hw64.out, hor.out], by go_num, rfl, hn2⟩
          · obtain rfl : i = kn := by omega
            obtain rfl : n = G := hn.out.symm.trans hGg.out
            by_cases hm : most < (n : Int)
            · have HH2 := Lib.hid HH.out
              simp only [if_pos hm] at HH2
              clear HH hst
              go_wp2_with fail
              refine ff.out.mono ?_
              rintro r w3 ⟨⟨u, rfl⟩, hs, ht⟩
              have H3 := Lib.hid (show SA w3 lo hi g 5 [] ∧ _ from ⟨by simpa using hs, ht⟩)
              clear ff hs ht
              go_wp2_with fail
              go_ret
              exact HH2.out _ _ ⟨rfl, H3.out.1, HS.out.2.trans H3.out.2⟩
            · have HH2 := Lib.hid HH.out
              simp only [if_neg hm] at HH2
              clear HH hst
              have hm2 : (n : Int) ≤ most := by omega
              go_wp2_with fail
              refine tk.out.mono ?_
              rintro r w3 ⟨u, rfl, -, -, hs, ht⟩
              unfold tkE tkR at hs
              rw [if_pos rfl, if_pos rfl, if_pos h4'.out, if_pos h4'.out] at hs
              have H3 := Lib.hid (show _ ∧ _ from ⟨hs, ht⟩)
              clear tk hs ht
              go_wp2_with fail
              go_ret
              exact HH2.out _ _ ⟨rfl, H3.out.1, HS.out.2.trans H3.out.2⟩
  · rw [decide_eq_false he] at ok
    have hE : svE most e xs = e := by unfold svE; rw [if_neg he]
    have H := Lib.hid (show Varred w lo hi g most e xs (.returned (.int .i64 0)) w from ⟨by unfold svN; rw [hE, if_neg he]; rfl, by rw [hE]; unfold svR; rw [hE, if_neg he]; rw [h.2.2.1 he] at h; exact h, Tr.refl _ _⟩)
    clear h hE
    go_enter Try.func60, Try.ntmps60
    go_wp2_with fail
    refine ok.out.mono ?_
    rintro r w' ⟨rfl, rfl⟩
    clear ok
    go_wp2_with fail
    go_ret
    exact H.out
end Go.Proofs.Ytpdenhmkpiafiaa
namespace Go.Proofs.Ytpdenhmkpiafiaa.K6
open Go Go.RowKit
def C7 (sh : List Sh) : Prop := ∀ s ∈ sh, ∀ t ∈ sh, s.i ≠ t.i → t.i ∈ s.kill ∨ t.i ∈ s.D ∨ ∀ k ∈ s.Li, k ∉ t.Xi
instance (sh : List Sh) : Decidable (C7 sh) := by unfold C7; infer_instance
def Cl7 (md : Region.Mode) (ops : Array Oper) (sh : List Sh) : Prop := C1 md ops sh ∧ C2 sh ∧ C3 md ops sh ∧ C4 sh ∧ C5 sh ∧ C7 sh
instance (md : Region.Mode) (ops : Array Oper) (sh : List Sh) : Decidable (Cl7 md ops sh) := by unfold Cl7; infer_instance
section
variable {P : Program} {ops : Array Oper} {md : Region.Mode} {sh : List Sh} {M : Nat → Mean} {Z : Nat → Prop} {w1 : World}
theorem Inv.quiet7 {listed : Array Bool} {g : Ghost} {w : World} (S : St sh M Z w1) (hC : Cl7 md ops sh) (I : Inv ops md sh M w1 listed g w) {i : Nat} {o : Oper} (ho : ops[i]? = some o) (hun : listed.getD i false = false)
    (hall : ∀ e ∈ o.after, Region.binds md e = true → listed.getD e.on false = true) (hi : spOf sh i = none) (x : GV) : Inv ops md sh M w1 (listed.setIfInBounds i true) (gput g i x) w := by
  have hne : ∀ k, (spOf sh k).isSome = true → k ≠ i := fun k hk e => by subst e; rw [hi] at hk; cases hk
  have hsi : ∀ s ∈ sh, s.i ≠ i := fun s hs e => by
    have : spOf sh i ≠ none := by
      unfold spOf
      intro h
      have := List.find?_eq_none.1 h s hs
      simp [e] at this
    exact this hi
  refine ⟨I.tr.mono fun b _ ⟨s, hs, hl, hx⟩ => ⟨s, hs, getD_set_true hl, hx⟩, shut_set ho I.shut hall, ⟨fun k hk hs => ?_, fun j k hj hk hsj hsk hjk => ?_⟩, fun s hs hl hk => ?_⟩
  · rw [gput_ne (hne k hs)]
    exact I.ok.1 k ((getD_set_other (hne k hs)).symm.trans hk) hs
  · rw [gput_ne (hne k hsk), gput_ne (hne j hsj)]
    exact I.ok.2 j k ((getD_set_other (hne j hsj)).symm.trans hj) ((getD_set_other (hne k hsk)).symm.trans hk) hsj hsk hjk
  · rw [getD_set_other (hsi s hs)] at hl
    refine S.depF s hs g _ (fun x hx => gput_ne ?_) w (I.fact s hs hl fun j hj => ?_)
    · rcases hx with rfl | hx
      · exact hsi s hs
      · rintro rfl
        have := listed_pre I.shut hl (hC.1 s hs x hx).2
        rw [hun] at this
        cases this
    · have := hk j hj
      by_cases hji : j = i
      · subst hji; exact hun
      · rwa [getD_set_other hji] at this
theorem Inv.step7 {listed : Array Bool} {g : Ghost} {w w' : World} (S : St sh M Z w1) (hC : Cl7 md ops sh) (I : Inv ops md sh M w1 listed g w) {o : Oper} {s : Sh} {i : Nat} (hs : spOf sh i = some s) (ho : ops[i]? = some o) (hun : listed.getD i true = false)
    (hall : ∀ e ∈ o.after, Region.binds md e = true → listed.getD e.on false = true) (v : Value) (hL : Left M s g w v w') : Inv ops md sh M w1 (listed.setIfInBounds i true) (gput g i ⟨v, w.heap.size, w'.heap.size⟩) w' := by
  obtain ⟨hmem, rfl⟩ := spOf_spec hs
  obtain ⟨hV, hT, hF⟩ := hL
  have hun' := getD_of_true hun
  have hlt := size_of_getD hun
  have hB : w1.heap.size ≤ w.heap.size := I.tr.size
  have hXi : ∀ k ∈ s.Xi, listed.getD k false = true ∧ (spOf sh k).isSome = true := fun k hk => by
    obtain ⟨hd, hso⟩ := hC.2.2.2.1 s hmem k hk
    obtain ⟨hne, hp⟩ := hC.1 s hmem k hd
    exact ⟨(ready_pre I.shut ho hall hp).resolve_right hne, hso⟩
  refine ⟨⟨hT.os.trans I.tr.os, hT.tape.trans I.tr.tape, hT.output.trans I.tr.output, Nat.le_trans hB hT.size, fun b hb hx => ?_⟩, shut_set ho I.shut hall, ⟨fun k hk hsk => ?_, fun j k hj hk hsj hsk hjk => ?_⟩, fun t ht hl hk => ?_⟩
  · rw [hT.block b (Nat.lt_of_lt_of_le hb hB) ?_, I.tr.block b hb fun ⟨t, ht, hl, hxt⟩ => hx ⟨t, ht, getD_set_true hl, hxt⟩]
    rintro (hx' | ⟨k, hk, h1, h2⟩)
    · exact hx ⟨s, hmem, getD_set_self hlt, hx'⟩
    · have := (I.ok.1 k (hXi k hk).1 (hXi k hk).2).1
      omega
  · by_cases hki : k = s.i
    · subst hki; simp only [gput, if_true]; exact ⟨hB, hT.size, Nat.le_refl _⟩
    · rw [gput_ne hki]
      have := I.ok.1 k ((getD_set_other hki).symm.trans hk) hsk
      exact ⟨this.1, this.2.1, Nat.le_trans this.2.2 hT.size⟩
  · by_cases hji : j = s.i
    · by_cases hki : k = s.i
      · exact absurd (hji.trans hki.symm) hjk
      · rw [gput_ne hki, hji]
        have := I.ok.1 k ((getD_set_other hki).symm.trans hk) hsk
        simp only [gput, if_true]
        omega
    · rw [gput_ne hji]
      have hj := (getD_set_other hji).symm.trans hj
      by_cases hki : k = s.i
      · rw [hki]
        have := I.ok.1 j hj hsj
        simp only [gput, if_true]
        omega
      · rw [gput_ne hki]
        exact I.ok.2 j k hj ((getD_set_other hki).symm.trans hk) hsj hsk hjk
  · by_cases hti : t.i = s.i
    · rw [hti]; exact hF
    · rw [getD_set_other hti] at hl
      have hkill : s.i ∉ t.kill := fun hm => by
        have := hk _ hm
        rw [getD_set_self hlt] at this
        cases this
      have hD : ∀ x, x = t.i ∨ x ∈ t.D → x ≠ s.i := fun x hx => by
        rcases hx with rfl | hx
        · exact hti
        · rintro rfl
          have := listed_pre I.shut hl (hC.1 t ht _ hx).2
          rw [hun'] at this
          cases this
      have hF0 := I.fact t ht hl fun j hj => by
        have := hk j hj
        by_cases hji : j = s.i
        · subst hji; exact hun'
        · rwa [getD_set_other hji] at this
      refine S.depF t ht g _ (fun x hx => gput_ne (hD x hx)) w' (S.loc t ht g w w' hF0 (hT.mono fun b hb hX hLb => ?_))
      have hsep := (S.sep t ht s hmem hti).resolve_left hkill
      rcases hX with hx | ⟨k, hkx, h1, h2⟩
      · rcases hLb with hany | hLo | ⟨k, hk, h1, h2⟩
        · exact (hsep.2 hany).1 b hx
        · exact hsep.1 b hLo hx
        · have hlt := (S.xo s hmem b hx).2.2
          obtain ⟨hkD, hks⟩ := hC.2.2.2.2.1 t ht k hk
          have hkl : listed.getD k false = true := by
            rcases hkD with rfl | hkD
            · exact hl
            · exact listed_pre I.shut hl (hC.1 t ht _ hkD).2
          have := (I.ok.1 k hkl hks).1
          omega
      · obtain ⟨hxl, hxs⟩ := hXi k hkx
        rcases hLb with hany | hLo | ⟨m, hm, h3, h4⟩
        · rw [(hsep.2 hany).2] at hkx; cases hkx
        · have hlt := S.lo t ht b hLo
          have := (I.ok.1 k hxl hxs).1
          omega
        · obtain ⟨hmD, hms⟩ := hC.2.2.2.2.1 t ht m hm
          have hml : listed.getD m false = true := by
            rcases hmD with rfl | hmD
            · exact hl
            · exact listed_pre I.shut hl (hC.1 t ht _ hmD).2
          have hne : m ≠ k := fun e => by
            subst e
            rcases hC.2.2.2.2.2 t ht s hmem hti with h9 | h9 | h9
            · exact hkill h9
            · exact hD _ (.inr h9) rfl
            · exact h9 m hm hkx
          have := I.ok.2 m k hml hxl hms hxs hne
          omega
theorem wp_of_outS7 (S : St sh M Z w1) (hC : Cl7 md ops sh) {listed : Array Bool} {g : Ghost} {w : World} (I : Inv ops md sh M w1 listed g w) {o : Oper} {s : Sh} {i : Nat} (hs : spOf sh i = some s) (ho : ops[i]? = some o) (hun : listed.getD i true = false)
    (hall : ∀ e ∈ o.after, Region.binds md e = true → listed.getD e.on false = true) {a : Act} {K' : Act → World → Prop} {Q' : Exit → Act → World → Prop} (hout : outS P ops md sh M Z w1 o s g a)
    (h : ∀ v w', Left M s g w v w' → K' (a.put o.dst v) w') : o.wp P a w K' Q' := by
  obtain ⟨hmem, rfl⟩ := spOf_spec hs
  have hun' := getD_of_true hun
  have hDl : ∀ k ∈ s.D, listed.getD k false = true := fun k hk => by
    obtain ⟨hne, hp⟩ := hC.1 s hmem k hk
    exact (ready_pre I.shut ho hall hp).resolve_right hne
  have hh := hout.2 w (I.kn S hun') ⟨fun k hk hsk => I.ok.1 k (hDl k hk) hsk, fun j k hj hk hsj hsk hjk => I.ok.2 j k (hDl j hj) (hDl k hk) hsj hsk hjk⟩ fun k hk => by
    obtain ⟨hkD, hks, hku⟩ := hC.2.2.1 s hmem k hk
    obtain ⟨t, ht⟩ := Option.isSome_iff_exists.1 hks
    obtain ⟨htm, rfl⟩ := spOf_spec ht
    refine I.fact t htm (hDl _ hkD) fun j hj => ?_
    rcases hku t htm rfl j hj with rfl | hp
    · exact hun'
    · by_cases hjl : listed.getD j false = true
      · have := listed_pre I.shut hjl hp
        rw [hun'] at this
        cases this
      · simpa using hjl
  unfold Oper.wp
  generalize (execOp a.eval o).run P w = r at *
  cases r with
  | ok n w' =>
    cases n <;> simp only [sUpon] at hh <;> simp only [Oper.upon]
    case enter f args =>
      refine hh.mono fun e w'' hx => ?_
      obtain ⟨v, rfl, hv⟩ := hx
      exact h v w'' hv
    all_goals exact h _ _ hh
  | halt x w' => simp only [sUpon] at hh
theorem wpAny_of_S7 (S : St sh M Z w1) (hC : Cl7 md ops sh) {Q : Ghost → Act → Prop} {Q' : Exit → Act → World → Prop}
    (hQ : ∀ g a, Q g a → ∀ w listed, Inv ops md sh M w1 listed g w → (∀ j, j < ops.size → listed.getD j false = true) → Q' .normal a w) : ∀ (fuel : Nat) (listed : Array Bool) (g : Ghost) (a : Act),
    wpAnyS P ops md sh M Z w1 Q fuel listed g a → ∀ w, Inv ops md sh M w1 listed g w → listed.size = ops.size → wpAny P md ops Q' fuel listed a w
  | 0, listed, g, a, h => fun w hI hz => ⟨h.1, hQ _ _ h.2.2 w listed hI fun j hj => (by have := h.2.1 j hj; simpa [hz, hj] using this)⟩
  | fuel + 1, listed, g, a, h => fun w hI hz => by
    refine ⟨fun h0 => absurd h0 h.1, fun i hi => ?_⟩
    have hs := h.2 i hi
    obtain ⟨hun, o', ho', hall⟩ := mem_ready.1 hi
    unfold sOp at hs
    unfold wpOp
    split
    · rename_i ho; simp only [ho] at hs
    · rename_i o ho
      simp only [ho] at hs
      have hoo : o' = o := by rw [ho'] at ho; exact Option.some.inj ho
      subst hoo
      cases hsp : spOf sh i with
      | some s =>
        simp only [hsp] at hs
        rw [if_pos hs.1.1]
        refine .inl (wp_of_outS7 S hC hI hsp ho' hun hall hs.1 fun v w' hL => ?_)
        have hst := hI.step7 S hC hsp ho' hun hall v hL
        have hi' := (spOf_spec hsp).2
        exact wpAny_of_S7 S hC hQ fuel _ _ _ (hs.2 ⟨v, w.heap.size, w'.heap.size⟩ hI.tr.size hL.2.1.size (by rw [← hi']; exact hL.1)) w' hst (by simpa using hz)
      | none =>
        simp only [hsp] at hs
        obtain ⟨v, hy, hK⟩ := hs
        have hq := hI.quiet7 S hC ho' (getD_of_true hun) hall hsp ⟨v, 0, 0⟩
        rcases hy with ⟨hw, hr⟩ | ⟨hw, rfl⟩
        · rw [if_pos hw]
          refine .inl ?_
          unfold Oper.wp
          rw [hr w (hI.kn S (getD_of_true hun))]
          exact wpAny_of_S7 S hC hQ fuel _ _ _ hK w hq (by simpa using hz)
        · rw [if_neg (by simp [hw])]
          exact wpAny_of_S7 S hC hQ fuel _ _ _ hK w hq (by simpa using hz)
theorem outS_gput7 (S : St sh M Z w1) (hC : Cl7 md ops sh) {s : Sh} (hs : s ∈ sh) {o : Oper} {a : Act} {g : Ghost} {i : Nat} (x : GV) (h : i ∉ s.D) :
    outS P ops md sh M Z w1 o s (gput g i x) a ↔ outS P ops md sh M Z w1 o s g a := by
  have hn : ∀ k ∈ s.D, gput g i x k = g k := fun k hk => gput_ne (fun e : k = i => h (by rw [← e]; exact hk))
  have hX : XX M s (gput g i x) = XX M s g := XX_congr fun k hk => hn k (hC.2.2.2.1 s hs k hk).1
  have hF : ∀ y w, (M s.i).F (gput (gput g i x) s.i y) w ↔ (M s.i).F (gput g s.i y) w := fun y w => by
    have hx : ∀ k, k = s.i ∨ k ∈ s.D → gput (gput g i x) s.i y k = gput g s.i y k := fun k hk => by
      by_cases hks : k = s.i
      · subst hks; simp [gput]
      · rw [gput_ne hks, gput_ne hks]
        exact hn k (hk.resolve_left hks)
    exact ⟨S.depF s hs _ _ (fun k hk => (hx k hk).symm) w, S.depF s hs _ _ hx w⟩
  have hL : ∀ w, Left M s (gput g i x) w = Left M s g w := fun w => by
    funext v w'
    unfold Left
    rw [hX]
    apply propext
    exact and_congr (V_gput S hs x h _) (and_congr Iff.rfl (hF _ _))
  have hU : ∀ k ∈ s.use, ∀ w, (M k).F (gput g i x) w ↔ (M k).F g w := fun k hk w => by
    obtain ⟨hkD, hks, _⟩ := hC.2.2.1 s hs k hk
    obtain ⟨t, ht⟩ := Option.isSome_iff_exists.1 hks
    obtain ⟨htm, rfl⟩ := spOf_spec ht
    have hx : ∀ m, m = t.i ∨ m ∈ t.D → gput g i x m = g m := fun m hm => by
      rcases hm with rfl | hm
      · exact hn _ hkD
      · exact hn _ (hC.2.1 s hs t htm hkD m hm)
    exact ⟨S.depF t htm _ _ (fun m hm => (hx m hm).symm) w, S.depF t htm _ _ hx w⟩
  unfold outS
  refine and_congr Iff.rfl (forall_congr' fun w => forall_congr' fun _ => ?_)
  rw [hL w]
  constructor
  · intro hh hg hf
    exact hh (GOk.congr (fun k hk => hn k hk) hg) fun k hk => (hU k hk w).2 (hf k hk)
  · intro hh hg hf
    exact hh (GOk.congr (fun k hk => (hn k hk).symm) hg) fun k hk => (hU k hk w).1 (hf k hk)
theorem Yields_keep7 (S : St sh M Z w1) (hC : Cl7 md ops sh) {i j : Nat} {oi oj : Oper} (hDi : ∀ s ∈ sh, s.i = i → j ∉ s.D) (hsi : ∀ cs b, oi.op ≠ .select cs b) (h3 : ∀ d, oj.dst = some d → d ∉ oi.looksAt ops)
    {g : Ghost} {a : Act} {x : GV} (y : GV) (hy : Yields P ops md sh M Z w1 oi i g a x) : Yields P ops md sh M Z w1 oi i (gput g j y) (a.put oj.dst y.v) x := by
  unfold Yields at *
  split
  · rename_i s hs
    simp only [hs] at hy
    obtain ⟨hm, rfl⟩ := spOf_spec hs
    exact ⟨(outS_put hsi h3).2 ((outS_gput7 S hC hm y (hDi s hm rfl)).2 hy.1), hy.2.1, hy.2.2.1, (V_gput S hm y (hDi s hm rfl) x).2 hy.2.2.2⟩
  · rename_i hs
    simp only [hs] at hy
    exact ⟨(YK_put hsi h3).2 hy.1, hy.2⟩
theorem wpAnyS_first7 (S : St sh M Z w1) (hC : Cl7 md ops sh) {Q : Ghost → Act → Prop} {i : Nat} {oi : Oper} (hi : ops[i]? = some oi) (hsel : ∀ (j : Nat) (o : Oper) cs b, ops[j]? = some o → o.op ≠ .select cs b) :
    ∀ (fuel : Nat) (listed : Array Bool) (g : Ghost) (a : Act), (∀ k, listed.getD k false = true → ∀ m, edgeB md ops k m = true → listed.getD m false = true) →
      (∀ j oj, ops[j]? = some oj → j ≠ i → listed.getD j true = false → (∀ e ∈ oj.after, Region.binds md e = true → e.on ≠ i) → oi.apart ops oj = true) →
      i ∈ Region.ready md ops listed → AllY P ops md sh M Z w1 oi i g a (fun x => wpAnyS P ops md sh M Z w1 Q fuel (listed.setIfInBounds i true) (gput g i x) (a.put oi.dst x.v)) → wpAnyS P ops md sh M Z w1 Q (fuel + 1) listed g a := by
  have hnotOf : ∀ (listed : Array Bool) (i j : Nat) (oj : Oper), listed.getD i true = false → (∀ e ∈ oj.after, Region.binds md e = true → listed.getD e.on false = true) → ∀ e ∈ oj.after, Region.binds md e = true → e.on ≠ i := by
    intro listed i j oj h0 hall e he hb heq
    have h1 := hall e he hb
    rw [heq] at h1
    rcases Nat.lt_or_ge i listed.size with h' | h'
    · simp [h'] at h0 h1; rw [h0] at h1; cases h1
    · simp [Array.getElem?_eq_none h'] at h1
  intro fuel
  induction fuel with
  | zero =>
    intro listed g a hsh _ hr H
    refine ⟨fun h => (by rw [h] at hr; cases hr), fun j hj => ?_⟩
    by_cases hji : j = i
    · subst hji
      exact (sOp_iff S hi).2 H
    · exfalso
      obtain ⟨x0, hx0⟩ := H.1
      have := ready_mono hj hji
      rw [(H.2 x0 hx0).1] at this
      cases this
  | succ fuel ih =>
    intro listed g a hsh hfree hr H
    refine ⟨fun h => (by rw [h] at hr; cases hr), fun j hj => ?_⟩
    by_cases hji : j = i
    · subst hji
      exact (sOp_iff S hi).2 H
    · obtain ⟨x0, hx0⟩ := H.1
      have h1 := fun x hx => (H.2 x hx).2 j (ready_mono hj hji)
      obtain ⟨hjun, oj, hoj, hall⟩ := mem_ready.1 hj
      obtain ⟨hiun, oi', hoi', halli⟩ := mem_ready.1 hr
      have hoo : oi' = oi := by rw [hoi'] at hi; exact Option.some.inj hi
      subst hoo
      have hnot := hnotOf listed i j oj hiun hall
      have hnot' := hnotOf listed j i oi' hjun halli
      have hap := hfree j oj hoj hji hjun hnot
      obtain ⟨hp1, hp2, hp3⟩ := Oper.apart_spec hap
      have hDj : ∀ s ∈ sh, s.i = j → i ∉ s.D := fun s hs e hm => by
        obtain ⟨hne, hp⟩ := hC.1 s hs i hm
        rw [e] at hp
        rcases ready_pre hsh hoj hall hp with h' | h'
        · rw [getD_of_true hiun] at h'; cases h'
        · exact hji h'.symm
      have hDi : ∀ s ∈ sh, s.i = i → j ∉ s.D := fun s hs e hm => by
        obtain ⟨hne, hp⟩ := hC.1 s hs j hm
        rw [e] at hp
        rcases ready_pre hsh hoi' halli hp with h' | h'
        · rw [getD_of_true hjun] at h'; cases h'
        · exact hji h'
      have hselj := fun cs b => hsel j oj cs b hoj
      have hseli := fun cs b => hsel i oi' cs b hoi'
      have back : ∀ x y, Yields P ops md sh M Z w1 oj j g a y → Yields P ops md sh M Z w1 oj j (gput g i x) (a.put oi'.dst x.v) y := fun x y hy =>
        Yields_keep7 S hC hDj hselj hp1 x hy
      have forth : ∀ x y, Yields P ops md sh M Z w1 oj j (gput g i x) (a.put oi'.dst x.v) y → Yields P ops md sh M Z w1 oj j g a y := fun x y hy => by
        unfold Yields at *
        split
        · rename_i s hs
          simp only [hs] at hy
          obtain ⟨hm, e⟩ := spOf_spec hs
          subst e
          exact ⟨(outS_gput7 S hC hm x (hDj s hm rfl)).1 ((outS_put hselj hp1).1 hy.1), hy.2.1, hy.2.2.1, (V_gput S hm x (hDj s hm rfl) y).1 hy.2.2.2⟩
        · rename_i hs
          simp only [hs] at hy
          exact ⟨(YK_put hselj hp1).1 hy.1, hy.2⟩
      refine (sOp_iff S hoj).2 ⟨?_, fun y hy => ?_⟩
      · obtain ⟨⟨y, hy⟩, _⟩ := (sOp_iff S hoj).1 (h1 x0 hx0)
        exact ⟨y, forth x0 y hy⟩
      · have hfree' : ∀ k ok, ops[k]? = some ok → k ≠ i → (listed.setIfInBounds j true).getD k true = false →
            (∀ e ∈ ok.after, Region.binds md e = true → e.on ≠ i) → oi'.apart ops ok = true := fun k ok hk hki hun hno => by
          refine hfree k ok hk hki ?_ hno
          by_cases hjk : j = k
          · subst hjk; exact hjun
          · rw [getD_set_ne true hjk] at hun; exact hun
        refine ih (listed.setIfInBounds j true) _ _ (shut_set hoj hsh hall) hfree' (ready_mono hr (Ne.symm hji)) ⟨?_, fun x hx => ?_⟩
        · exact ⟨x0, Yields_keep7 S hC hDi hseli hp3 y hx0⟩
        · have hx' : Yields P ops md sh M Z w1 oi' i g a x := by
            unfold Yields at *
            split
            · rename_i s hs
              simp only [hs] at hx
              obtain ⟨hm, e⟩ := spOf_spec hs
              subst e
              exact ⟨(outS_gput7 S hC hm y (hDi s hm rfl)).1 ((outS_put hseli hp3).1 hx.1), hx.2.1, hx.2.2.1, (V_gput S hm y (hDi s hm rfl) x).1 hx.2.2.2⟩
            · rename_i hs
              simp only [hs] at hx
              exact ⟨(YK_put hseli hp3).1 hx.1, hx.2⟩
          have := ((sOp_iff S hoj).1 (h1 x hx')).2 y (back x y hy)
          show wpAnyS P ops md sh M Z w1 Q fuel _ _ _
          rw [Array.setIfInBounds_comm _ _ hji, ← gput_comm g y x (Ne.symm hji), ← Act.put_comm a x.v y.v hp2]
          exact this
def lex67 (md : Region.Mode) (ops : Array Oper) (sh : List Sh) : Bool := Region.noSelect ops && lexFrom6 md ops ops.size 0 (Array.replicate ops.size false) && decide (Cl7 md ops sh)
theorem wpAnyS_lex7 (S : St sh M Z w1) (hC : Cl7 md ops sh) {Q : Ghost → Act → Prop} (hs : Region.noSelect ops = true) : ∀ (l : List Oper) (k : Nat) (listed : Array Bool) (g : Ghost) (a : Act), (∀ j, l[j]? = ops[k + j]?) →
    (∀ k, listed.getD k false = true → ∀ m, edgeB md ops k m = true → listed.getD m false = true) →
    lexFrom6 md ops l.length k listed = true → wpS P ops md sh M Z w1 Q k l g a → wpAnyS P ops md sh M Z w1 Q l.length listed g a
  | [], _, _, _, _, _, _, hB, h => by
    simp only [List.length_nil, lexFrom6, Bool.and_eq_true] at hB
    exact ⟨by simpa using hB.1, fun j hj => List.all_eq_true.1 hB.2 j (List.mem_range.2 hj), h⟩
  | o :: l, k, listed, g, a, hl, hsh, hB, h => by
    have h0 : ops[k]? = some o := by simpa using (hl 0).symm
    simp only [List.length_cons, lexFrom6, Bool.and_eq_true] at hB
    obtain ⟨⟨hr, hf⟩, hB'⟩ := hB
    have hr' : k ∈ Region.ready md ops listed := by simpa using hr
    obtain ⟨hun, o', ho', hall⟩ := mem_ready.1 hr'
    have hoo : o' = o := by rw [ho'] at h0; exact Option.some.inj h0
    subst hoo
    have hop : sOp P ops md sh M Z w1 k (fun g a => wpS P ops md sh M Z w1 Q (k + 1) l g a) g a := by
      unfold sOp
      simp only [h0]
      exact h
    obtain ⟨h1, h2⟩ := (sOp_iff S h0).1 hop
    refine wpAnyS_first7 S hC h0 (Region.noSelect_spec hs) l.length listed g a hsh (Region.free_spec h0 hf) hr' ⟨h1, fun x hx => ?_⟩
    exact wpAnyS_lex7 S hC hs l (k + 1) _ _ _ (fun j => by have := hl (j + 1); simpa [Nat.add_assoc, Nat.add_comm 1 j] using this) (shut_set h0 hsh hall) hB' (h2 x hx)
theorem wpAny_six7 {Q : Exit → Act → World → Prop} {a : Act} {l : List Oper} (hB : lex67 .any l.toArray sh = true) (S : St sh M Z w1)
    (h : ∀ QQ : Ghost → Act → Prop, (∀ g a', After sh M Z w1 l.length (fun a w => Q .normal a w) g a' → QQ g a') → wpS P l.toArray .any sh M Z w1 QQ 0 l (fun _ => ⟨undef, 0, 0⟩) a) :
    wpAny P .any l.toArray Q l.toArray.size (Array.replicate l.toArray.size false) a w1 := by
  simp only [lex67, Bool.and_eq_true, decide_eq_true_eq] at hB
  have hno : ∀ k, (Array.replicate l.toArray.size false).getD k false = true → False := fun k hk => by
    rw [Array.getD_eq_getD_getElem?, Array.getElem?_replicate] at hk
    split at hk <;> cases hk
  have h1 := wpAnyS_lex7 (md := .any) S hB.2 hB.1.1 l 0 (Array.replicate l.toArray.size false) (fun _ => ⟨undef, 0, 0⟩) a (by simp) (fun k hk => (hno k hk).elim) (by simpa using hB.1.2) (h _ fun _ _ h => h)
  have := wpAny_of_S7 S hB.2 (Q' := Q) (fun g a h w listed I hall => h w (I.tr.mono fun b _ ⟨s, hs, _, hx⟩ => (S.xo s hs b hx).2.1)
    ⟨fun k hk hsk => I.ok.1 k (hall k (by simpa using hk)) hsk, fun j k hj hk hsj hsk hjk => I.ok.2 j k (hall j (by simpa using hj)) (hall k (by simpa using hk)) hsj hsk hjk⟩
    fun i s hs hk hlt => (spOf_spec hs).2 ▸ I.fact s (spOf_spec hs).1 (by rw [(spOf_spec hs).2]; exact hall _ (by simpa using hlt)) fun j hj => by rw [hk] at hj; cases hj) _ _ _ _ h1 w1
    ⟨Tr.refl _ _, fun k hk => (hno k hk).elim, ⟨fun k hk => (hno k hk).elim, fun j k hj => (hno j hj).elim⟩, fun s _ hl => (hno _ hl).elim⟩ (by simp)
  simpa using this
theorem wp_region_six7 {id : Nat} {Q : Exit → Act → World → Prop} {a : Act} {w : World} {l : List Oper} (sh : List Sh) (M : Nat → Mean) (Z : Nat → Prop) (hm : P.follows .mixedOrders = true) (hB : lex67 .any l.toArray sh = true)
    (S : St sh M Z w.drew)
    (h : ∀ QQ : Ghost → Act → Prop, (∀ g a', After sh M Z w.drew l.length (fun a w => Q .normal a w) g a' → QQ g a') → wpS P l.toArray .any sh M Z w.drew QQ 0 l (fun _ => ⟨undef, 0, 0⟩) a) : (Code.region id l.toArray true).wp P Q a w :=
  wp_region_any hm (wpAny_six7 hB S h)
end
end Go.Proofs.Ytpdenhmkpiafiaa.K6
namespace Go.Proofs.Ytpdenhmkpiafiaa
open Go Go.RowKit K6
def BL32 (a : Nat) : List Int := (List.range 32).map fun j => ((byN a (31 - j) : Nat) : Int)
theorem BL32_len (a : Nat) : (BL32 a).length = 32 := by unfold BL32; rw [List.length_map, List.length_range]
def nby (a : Nat) : Nat := (blen a + 7) / 8
theorem nby_le {a : Nat} (ha : a < M) : nby a ≤ 32 := by
  have h : blen a ≤ 256 := blen_le ha
  unfold nby
  omega
def amtL (a : Nat) : List Int := ((nby a : Nat) : Int) :: (BL32 a).drop (32 - nby a)
def S32 (x : GV) : Prop := ∃ g, x.v = .slice (some ⟨g, 0, none⟩) 32 32
theorem s32_some {w : World} : ∃ x : GV, w.heap.size ≤ x.lo ∧ x.lo ≤ x.hi ∧ S32 x := ⟨⟨.slice (some ⟨0, 0, none⟩) 32 32, w.heap.size, w.heap.size⟩, Nat.le_refl _, Nat.le_refl _, 0, rfl⟩
theorem bs82 {a : Nat} (ha : a < M) (w : World) : Calls Try.prog 82 #[.agg (W4 a)] w fun e w' => ∃ g, e = .returned (.slice (some ⟨g, 0, none⟩) 32 32) ∧ Bs w' (.slice (some ⟨g, 0, none⟩) 32 32) (BL32 a) ∧ Below w.heap.size w w' := by
  refine (bytesU ha w).mono ?_
  rintro e w' ⟨g, rfl, hg, hr, hb⟩
  refine ⟨g, rfl, ⟨some ⟨g, 0, none⟩, 32, by rw [BL32_len], (fun h => (by cases h)), fun p hp j u hj => ?_⟩, hb⟩
  cases hp
  rw [add_at]
  unfold bv BL32 at hj
  rw [List.map_map, List.getElem?_map] at hj
  rcases Nat.lt_or_ge j 32 with h | h
  · rw [List.getElem?_range h] at hj
    cases hj
    rw [Nat.zero_add, hr.at_ j h]
    unfold bytesTo
    rw [if_pos h]
    rfl
  · rw [List.getElem?_eq_none (by rw [List.length_range]; exact h)] at hj
    cases hj
theorem Bs_drop {w : World} {g j : Nat} {ys : List Int} (h : Bs w (.slice (some ⟨g, 0, none⟩) 32 32) ys) (_hj : j < 32) : Bs w (.slice (some ⟨g, j, none⟩) (32 - j) (32 - j)) (ys.drop j) := by
  obtain ⟨q, c, e, h0, h1⟩ := h
  obtain ⟨e1, e2⟩ : q = some ⟨g, 0, none⟩ ∧ ys.length = 32 := by injection e with e1 e2 e3; exact ⟨e1.symm, e2.symm⟩
  refine ⟨some ⟨g, j, none⟩, 32 - j, by rw [List.length_drop, e2], (fun h => (by cases h)), fun p hp i u hi => ?_⟩
  cases hp
  rw [add_off, ← Nat.zero_add (j + i), ← add_off]
  refine h1 _ e1 (j + i) u ?_
  rw [← hi]
  unfold bv
  rw [List.getElem?_map, List.getElem?_map, List.getElem?_drop]
theorem Bs_row1 {w : World} {b : Nat} {x : Int} (h : Row w b 5 #[.int .u8 x]) : Bs w (.slice (some ⟨b, 0, none⟩) 1 1) [x] := by
  refine ⟨_, _, rfl, (fun h => (by cases h)), fun a ha j u hj => ?_⟩
  cases ha
  match j, hj with
  | 0, hj =>
    cases hj
    rw [add_at]
    exact h.cell 0
set_option maxRecDepth 100000 in
set_option maxHeartbeats 8000000 in
theorem amt_any (u : Value) (xs : List Int) (a : Nat) (w : World) (h : Bs w u xs) (hL0 : xs.length ≤ 10000000) (ha : a < M) :
    Calls Try.prog 40 #[u, .agg (W4 a)] w fun e w' => ∃ v, e = .returned v ∧ Ob w' w.heap.size v (xs ++ amtL a) ∧ Below w.heap.size w w' := by
  have hL := Lib.hid (show xs.length ≤ 100000000 by omega)
  have hk32 := nby_le ha
  have hl256 : blen a ≤ 256 := blen_le ha
  have hYl := BL32_len a
  have hkd : nby a = (blen a + 7) / 8 := rfl
  have hfin0 : ∀ tl : List Int, tl = (BL32 a).drop (32 - nby a) → (xs ++ [((nby a : Nat) : Int)]) ++ tl = xs ++ amtL a := fun tl e => by
    subst e
    unfold amtL
    rw [List.append_assoc]; rfl
  have kb := fun wx => bitsU ha wx
  have k82 := Lib.hid fun wx => bs82 ha wx
  obtain ⟨k, hk⟩ : ∃ k, nby a = k := ⟨_, rfl⟩
  rw [hk] at hk32 hkd hfin0
  obtain ⟨l, hl0⟩ : ∃ l, blen a = l := ⟨_, rfl⟩
  rw [hl0] at kb hl256 hkd
  replace kb := Lib.hid kb
  have hfin1 := Lib.hid hfin0
  clear hfin0 hk hl0
  have w7 : IntKind.i64.wrap ((l : Int) + 7) = (l : Int) + 7 := by rw [IntKind.wrap_i64]; omega
  have t7 : ((l : Int) + 7).tdiv 8 = ((l : Int) + 7) / 8 := Int.tdiv_eq_ediv_of_nonneg (by omega)
  have t8 : IntKind.i64.wrap (((l : Int) + 7) / 8) = (k : Int) := by rw [IntKind.wrap_i64]; omega
  clear hkd
  have hb0 := h
  clear h hL0 ha
  go_enter Try.func40, Try.ntmps40
  apply wp_seq_eq
  focus
    intro J hJ
    go_wp2_with fail
    exact hJ
  refine wp_abs (Mem w [(w.heap.size, 31, W4 a)]) ⟨by go_grown, ?_, trivial⟩ ?_
  · repeat (first | (refine Row.new_at ?_; simp; done) | refine Row.alloc ?_ _)
  intro w0 hM
  obtain ⟨hl, ra, -⟩ := hM
  go_upto_region 1 with (fail)
  have hb := hb0.below hl
  clear hb0
  let L : List Sp := [sV 1 [] [] (fun u => u = .int .i64 (l : Int))]
  refine wp_region_six0 (shs L) (look6 L) (None_) (by kernel_rfl) (by kernel_rfl) (mk_St L [] [] (by kernel_rfl) (by kernel_rfl) ⟨ok_V ⟨_, rfl⟩, trivial⟩ (by simp)) ?_
  intro QQ hQ
  refine stepK rfl (by kernel_rfl) (fun K hK => ?_); go_simp
  apply Exists.intro; apply And.intro; (focus exact kLoad rfl rfl aggT31 ra rfl id); refine hK _ _ ?_; clear hK K
  refine stepS _ rfl (by kernel_rfl) (fun K hK => ?_); go_simp
  refine ⟨?_, ?_⟩
  · intro wk hk hg hu; go_simp; refine upon_enter ((kb.out _).mono ?_); rintro e w' ⟨rfl, hb⟩; exact ⟨_, rfl, left_V (p := fun u => u = .int .i64 (l : Int)) rfl (hb) rfl⟩
  rintro ⟨v1, lo1, hi1⟩ - - (rfl : v1 = _)
  refine hK _ _ ?_; clear hK K
  refine stepK rfl (by kernel_rfl) (fun K hK => ?_); go_simp
  apply Exists.intro; apply And.intro; (focus (intro wk hk; go_simp; exact ⟨rfl, rfl⟩)); refine hK _ _ ?_; clear hK K
  refine stepK rfl (by kernel_rfl) (fun K hK => ?_); go_simp
  apply Exists.intro; apply And.intro; (focus (intro wk hk; go_simp; exact ⟨rfl, rfl⟩)); refine hK _ _ ?_; clear hK K
  refine stepK rfl (by kernel_rfl) (fun K hK => ?_); go_simp
  apply Exists.intro; apply And.intro; (focus (intro wk hk; go_simp; exact ⟨rfl, rfl⟩)); refine hK _ _ ?_; clear hK K
  refine stepN ?_
  refine hQ _ _ ?_
  intro w1 hT hG hF
  have hbw1 := hT.below
  replace ra := ra.below hbw1 ra.lt
  replace hl := hl.trans (hbw1.mono hl.size)
  replace hb := hb.below hbw1
  clear hT hG hF hbw1 hQ QQ L kb
  go_upto_region 2 with (fail)
  let L : List Sp := [sF 1 [] [] [] (fun x => S32 x) (fun x w => Bs w x.v (BL32 a))]
  refine wp_region_six0 (shs L) (look6 L) (None_) (by kernel_rfl) (by kernel_rfl) (mk_St L [] [] (by kernel_rfl) (by kernel_rfl) ⟨ok_F s32_some (fun _ _ _ h hb => Bs.below h hb), trivial⟩ (by simp)) ?_
  intro QQ hQ
  refine stepK rfl (by kernel_rfl) (fun K hK => ?_); go_simp
  apply Exists.intro; apply And.intro; (focus exact kLoad rfl rfl aggT31 ra rfl id); refine hK _ _ ?_; clear hK K
  refine stepS _ rfl (by kernel_rfl) (fun K hK => ?_); go_simp
  refine ⟨?_, ?_⟩
  · intro wk hk hg hu; go_simp; refine upon_enter ((k82.out _).mono ?_); rintro e w' ⟨g, rfl, hv, hb9⟩; exact ⟨_, rfl, left_F rfl rfl hb9 ⟨_, rfl⟩ hv⟩
  rintro ⟨v1, lo1, hi1⟩ - - ⟨g1, (rfl : v1 = _)⟩
  refine hK _ _ ?_; clear hK K
  refine stepK rfl (by kernel_rfl) (fun K hK => ?_); go_simp
  apply Exists.intro; apply And.intro; (focus (intro wk hk; go_simp; exact ⟨rfl, rfl⟩)); refine hK _ _ ?_; clear hK K
  refine stepN ?_
  refine hQ _ _ ?_
  intro w2 hT hG hF
  have hb2 := hT.below
  have hY0 : Bs w2 (.slice (some ⟨g1, 0, none⟩) 32 32) (BL32 a) := hF 1 _ rfl rfl (by decide)
  replace hb := hb.below hb2
  replace hl := hl.trans (hb2.mono hl.size)
  clear hT hG hF hb2 hQ QQ L ra k82 w7 t7 t8
  obtain ⟨j, hj⟩ : ∃ j, 32 - k = j := ⟨_, rfl⟩
  have ej : (32 : Int) - (k : Int) = (j : Int) := by omega
  have wk8 : IntKind.u8.wrap (k : Int) = (k : Int) := by rw [IntKind.wrap_u8]; omega
  by_cases hj32 : j = 32
  · have hfin2 := Lib.hid (hfin1.out [] (by rw [hj, hj32, List.drop_eq_nil_of_le (by omega)]))
    have hY := Lib.hid (show ([] : List Int).length ≤ 32 by decide)
    obtain rfl : k = 0 := by omega
    obtain ⟨z5, hz5e⟩ : ∃ z, xs ++ [((0 : Nat) : Int)] = z := ⟨_, rfl⟩
    have hz5l := Lib.hid (show z5.length ≤ 100000001 by rw [← hz5e]; have := hL.out; simp; omega)
    have hz5 := Lib.hid hz5e
    obtain ⟨z12, hz12e⟩ : ∃ z, z5 ++ ([] : List Int) = z := ⟨_, rfl⟩
    have hfin := Lib.hid (show z12 = xs ++ amtL a by rw [← hz12e, ← hz5e]; exact hfin2.out)
    have hz12 := Lib.hid hz12e
    clear hz5e hz12e hfin2
    subst hj32
    clear hj hYl hfin1
    go_upto_region 3 with (fail)
    let L : List Sp := [sQ 1 [] [] [] [5, 12] w2.heap.size xs (fun _ => True), sL 4 5 [] 1 #[.int .u8 ((0 : Nat) : Int)], sQ 5 [1] [1, 4] [1, 4] [12] w2.heap.size z5 (fun _ => True), sQ 12 [5, 1] [5, 1, 4] [5] [] w2.heap.size z12 (fun _ => True)]
    refine wp_region_six7 (shs L) (look6 L) (None_) (by kernel_rfl) (by kernel_rfl) (mk_St L [] [] (by kernel_rfl) (by kernel_rfl) ⟨ok_Q ⟨undef, trivial⟩ (by simp), ok_L, ok_Q ⟨undef, trivial⟩ (by simp), ok_Q ⟨undef, trivial⟩ (by simp), trivial⟩ (by simp)) ?_
    intro QQ hQ
    refine stepK rfl (by kernel_rfl) (fun K hK => ?_); go_simp
    apply Exists.intro; apply And.intro; (focus (intro wk hk; go_simp; exact ⟨rfl, rfl⟩)); refine hK _ _ ?_; clear hK K
    refine stepS _ rfl (by kernel_rfl) (fun K hK => ?_); go_simp
    refine ⟨?_, ?_⟩
    · intro wk hk hg hu; have hb9 := hb.below hk.undrew.below; go_simp; refine upon_enter ((clone_any u xs wk hb9 hL.out).mono ?_); rintro e w' ⟨v, rfl, ho, hbb⟩; exact ⟨_, rfl, left_Qc rfl rfl ho hbb hk.undrew.size trivial⟩
    rintro ⟨v1, lo1, hi1⟩ - - -
    refine hK _ _ ?_; clear hK K
    refine stepK rfl (by kernel_rfl) (fun K hK => ?_); go_simp
    apply Exists.intro; apply And.intro; (focus (intro wk hk; go_simp; exact ⟨rfl, rfl⟩)); refine hK _ _ ?_; clear hK K
    refine stepK rfl (by kernel_rfl) (fun K hK => ?_); go_simp
    apply Exists.intro; apply And.intro; (focus (intro wk hk; go_simp; exact ⟨rfl, rfl⟩)); refine hK _ _ ?_; clear hK K
    refine stepS _ rfl (by kernel_rfl) (fun K hK => ?_); go_simp
    refine ⟨?_, ?_⟩
    · intro wk hk hg hu; go_simp; exact left_L rfl rfl
    rintro ⟨v4, lo4, hi4⟩ hlo4 hhi4 ⟨e4, f4⟩
    replace e4 : v4 = .slice (some ⟨lo4, 0, none⟩) 1 1 := e4; replace f4 : hi4 = lo4 + 1 := f4; replace hlo4 : _ ≤ lo4 := hlo4; subst e4; subst f4
    refine hK _ _ ?_; clear hK K
    refine stepS _ rfl (by kernel_rfl) (fun K hK => ?_); go_simp
    refine ⟨?_, ?_⟩
    · intro wk hk hg hu; have u1 : OwnF 1 [] w2.heap.size xs _ wk := hu 1 (show 1 ∈ [1, 4] by decide); have u4 := hu 4 (show 4 ∈ [1, 4] by decide); have r4 : Row wk lo4 5 #[.int .u8 ((0 : Nat) : Int)] := And.right (a := lo4 + 1 = lo4 + 1) u4; have o1 : Ob wk w2.heap.size v1 xs := u1.1; obtain ⟨v', w', hrun, ho2, hgb, hw⟩ := append_run o1 (Bs_row1 r4) (by have := hL.out; simp; omega) hk.undrew.size; rw [run_append_op rfl rfl rfl hrun]; exact left_Qa rfl rfl (by decide) u1.2 hgb (by rw [← hz5.out]; exact ho2) hw trivial
    rintro ⟨v5, lo5, hi5⟩ - - -
    refine hK _ _ ?_; clear hK K
    refine stepK rfl (by kernel_rfl) (fun K hK => ?_); go_simp
    apply Exists.intro; apply And.intro; (focus (intro wk hk; go_simp; exact ⟨rfl, rfl⟩)); refine hK _ _ ?_; clear hK K
    refine stepK rfl (by kernel_rfl) (fun K hK => ?_); go_simp
    apply Exists.intro; apply And.intro; (focus (intro wk hk; go_simp; exact ⟨rfl, rfl⟩)); refine hK _ _ ?_; clear hK K
    refine stepK rfl (by kernel_rfl) (fun K hK => ?_); go_simp
    apply Exists.intro; apply And.intro; (focus (intro wk hk; go_simp; exact ⟨rfl, rfl⟩)); refine hK _ _ ?_; clear hK K
    refine stepK rfl (by kernel_rfl) (fun K hK => ?_); go_simp
    apply Exists.intro; apply And.intro; (focus (intro wk hk; go_simp; exact ⟨rfl, rfl⟩)); refine hK _ _ ?_; clear hK K
    refine stepK rfl (by kernel_rfl) (fun K hK => ?_); go_simp
    apply Exists.intro; apply And.intro; (focus (intro wk hk; go_simp; exact ⟨rfl, rfl⟩)); refine hK _ _ ?_; clear hK K
    refine stepK rfl (by kernel_rfl) (fun K hK => ?_); go_simp
    apply Exists.intro; apply And.intro; (focus (intro wk hk; go_simp; exact ⟨rfl, rfl⟩)); refine hK _ _ ?_; clear hK K
    refine stepS _ rfl (by kernel_rfl) (fun K hK => ?_); go_simp
    refine ⟨?_, ?_⟩
    · intro wk hk hg hu; have u5 : OwnF 5 [1] w2.heap.size z5 _ wk := hu 5 (show 5 ∈ [5] by decide); have o5 : Ob wk w2.heap.size v5 z5 := u5.1; have s9 : Bs wk (.slice (some ⟨g1, 0, none⟩) 0 0) (([] : List Int)) := ⟨_, _, rfl, (fun h => (by cases h)), fun p hp i u hi => by simp [bv] at hi⟩; obtain ⟨v', w', hrun, ho2, hgb, hw⟩ := append_run o5 s9 (by have := hz5l.out; have := hY.out; omega) hk.undrew.size; rw [run_append_op rfl rfl rfl hrun]; exact left_Qa rfl rfl (by decide) u5.2 hgb (by rw [← hz12.out]; exact ho2) hw trivial
    rintro ⟨v12, lo12, hi12⟩ - - -
    refine hK _ _ ?_; clear hK K
    refine stepK rfl (by kernel_rfl) (fun K hK => ?_); go_simp
    apply Exists.intro; apply And.intro; (focus (intro wk hk; go_simp; exact ⟨rfl, rfl⟩)); refine hK _ _ ?_; clear hK K
    refine stepN ?_
    refine hQ _ _ ?_
    intro w3 hT hG hF
    have hb3 := hT.undrew.below
    have o12 : OwnF 12 [5, 1] w2.heap.size z12 _ w3 := hF 12 _ rfl rfl (by decide)
    have H := Lib.hid (show _ ∧ _ from ⟨(show Ob w3 w2.heap.size v12 z12 from o12.1).base hl.size, hl.trans (hb3.mono hl.size)⟩)
    clear hT hG hF hb3 hQ QQ L o12 hl hb hY
    go_wp2_with fail
    go_ret
    exact ⟨_, rfl, by rw [← hfin.out]; exact H.out.1, H.out.2⟩
  · have hfin2 := Lib.hid (hfin1.out ((BL32 a).drop j) (by rw [hj]))
    obtain ⟨z5, hz5e⟩ : ∃ z, xs ++ [(k : Int)] = z := ⟨_, rfl⟩
    have hz5l := Lib.hid (show z5.length ≤ 100000001 by rw [← hz5e]; have := hL.out; simp; omega)
    have hz5 := Lib.hid hz5e
    obtain ⟨z12, hz12e⟩ : ∃ z, z5 ++ ((BL32 a).drop j) = z := ⟨_, rfl⟩
    have hfin := Lib.hid (show z12 = xs ++ amtL a by rw [← hz12e, ← hz5e]; exact hfin2.out)
    have hz12 := Lib.hid hz12e
    clear hz5e hz12e hfin2
    have wj : IntKind.i64.wrap (j : Int) = (j : Int) := by rw [IntKind.wrap_i64]; omega
    have hY := Lib.hid (show ((BL32 a).drop j).length ≤ 32 by rw [List.length_drop]; omega)
    have hj33 : j < 32 := by omega
    have hj34 : ¬ 32 = j := by omega
    have hj35 : (j : Int) ≤ 32 := by omega
    clear hYl hfin1 hj
    go_upto_region 3 with (fail)
    let L : List Sp := [sQ 1 [] [] [] [5, 12] w2.heap.size xs (fun _ => True), sL 4 5 [] 1 #[.int .u8 (k : Int)], sQ 5 [1] [1, 4] [1, 4] [12] w2.heap.size z5 (fun _ => True), sQ 12 [5, 1] [5, 1, 4] [5] [] w2.heap.size z12 (fun _ => True)]
    refine wp_region_six7 (shs L) (look6 L) (None_) (by kernel_rfl) (by kernel_rfl) (mk_St L [] [] (by kernel_rfl) (by kernel_rfl) ⟨ok_Q ⟨undef, trivial⟩ (by simp), ok_L, ok_Q ⟨undef, trivial⟩ (by simp), ok_Q ⟨undef, trivial⟩ (by simp), trivial⟩ (by simp)) ?_
    intro QQ hQ
    refine stepK rfl (by kernel_rfl) (fun K hK => ?_); go_simp
    apply Exists.intro; apply And.intro; (focus (intro wk hk; go_simp; exact ⟨rfl, rfl⟩)); refine hK _ _ ?_; clear hK K
    refine stepS _ rfl (by kernel_rfl) (fun K hK => ?_); go_simp
    refine ⟨?_, ?_⟩
    · intro wk hk hg hu; have hb9 := hb.below hk.undrew.below; go_simp; refine upon_enter ((clone_any u xs wk hb9 hL.out).mono ?_); rintro e w' ⟨v, rfl, ho, hbb⟩; exact ⟨_, rfl, left_Qc rfl rfl ho hbb hk.undrew.size trivial⟩
    rintro ⟨v1, lo1, hi1⟩ - - -
    refine hK _ _ ?_; clear hK K
    refine stepK rfl (by kernel_rfl) (fun K hK => ?_); go_simp
    apply Exists.intro; apply And.intro; (focus (intro wk hk; go_simp; exact ⟨rfl, rfl⟩)); refine hK _ _ ?_; clear hK K
    refine stepK rfl (by kernel_rfl) (fun K hK => ?_); go_simp
    apply Exists.intro; apply And.intro; (focus (intro wk hk; go_simp; exact ⟨rfl, rfl⟩)); refine hK _ _ ?_; clear hK K
    refine stepS _ rfl (by kernel_rfl) (fun K hK => ?_); go_simp
    refine ⟨?_, ?_⟩
    · intro wk hk hg hu; go_simp; exact left_L rfl rfl
    rintro ⟨v4, lo4, hi4⟩ hlo4 hhi4 ⟨e4, f4⟩
    replace e4 : v4 = .slice (some ⟨lo4, 0, none⟩) 1 1 := e4; replace f4 : hi4 = lo4 + 1 := f4; replace hlo4 : _ ≤ lo4 := hlo4; subst e4; subst f4
    refine hK _ _ ?_; clear hK K
    refine stepS _ rfl (by kernel_rfl) (fun K hK => ?_); go_simp
    refine ⟨?_, ?_⟩
    · intro wk hk hg hu; have u1 : OwnF 1 [] w2.heap.size xs _ wk := hu 1 (show 1 ∈ [1, 4] by decide); have u4 := hu 4 (show 4 ∈ [1, 4] by decide); have r4 : Row wk lo4 5 #[.int .u8 (k : Int)] := And.right (a := lo4 + 1 = lo4 + 1) u4; have o1 : Ob wk w2.heap.size v1 xs := u1.1; obtain ⟨v', w', hrun, ho2, hgb, hw⟩ := append_run o1 (Bs_row1 r4) (by have := hL.out; simp; omega) hk.undrew.size; rw [run_append_op rfl rfl rfl hrun]; exact left_Qa rfl rfl (by decide) u1.2 hgb (by rw [← hz5.out]; exact ho2) hw trivial
    rintro ⟨v5, lo5, hi5⟩ - - -
    refine hK _ _ ?_; clear hK K
    refine stepK rfl (by kernel_rfl) (fun K hK => ?_); go_simp
    apply Exists.intro; apply And.intro; (focus (intro wk hk; go_simp; exact ⟨rfl, rfl⟩)); refine hK _ _ ?_; clear hK K
    refine stepK rfl (by kernel_rfl) (fun K hK => ?_); go_simp
    apply Exists.intro; apply And.intro; (focus (intro wk hk; go_simp; exact ⟨rfl, rfl⟩)); refine hK _ _ ?_; clear hK K
    refine stepK rfl (by kernel_rfl) (fun K hK => ?_); go_simp
    apply Exists.intro; apply And.intro; (focus (intro wk hk; go_simp; exact ⟨rfl, rfl⟩)); refine hK _ _ ?_; clear hK K
    refine stepK rfl (by kernel_rfl) (fun K hK => ?_); go_simp
    apply Exists.intro; apply And.intro; (focus (intro wk hk; go_simp; exact ⟨rfl, rfl⟩)); refine hK _ _ ?_; clear hK K
    refine stepK rfl (by kernel_rfl) (fun K hK => ?_); go_simp
    apply Exists.intro; apply And.intro; (focus (intro wk hk; go_simp; exact ⟨rfl, rfl⟩)); refine hK _ _ ?_; clear hK K
    refine stepK rfl (by kernel_rfl) (fun K hK => ?_); go_simp
    apply Exists.intro; apply And.intro; (focus (intro wk hk; go_simp; exact ⟨rfl, rfl⟩)); refine hK _ _ ?_; clear hK K
    refine stepS _ rfl (by kernel_rfl) (fun K hK => ?_); go_simp
    refine ⟨?_, ?_⟩
    · intro wk hk hg hu; have u5 : OwnF 5 [1] w2.heap.size z5 _ wk := hu 5 (show 5 ∈ [5] by decide); have o5 : Ob wk w2.heap.size v5 z5 := u5.1; have s9 : Bs wk (.slice (some ⟨g1, j, none⟩) (32 - j) (32 - j)) (((BL32 a).drop j)) := Bs_drop (hY0.below hk.undrew.below) hj33; obtain ⟨v', w', hrun, ho2, hgb, hw⟩ := append_run o5 s9 (by have := hz5l.out; have := hY.out; omega) hk.undrew.size; rw [run_append_op rfl rfl rfl hrun]; exact left_Qa rfl rfl (by decide) u5.2 hgb (by rw [← hz12.out]; exact ho2) hw trivial
    rintro ⟨v12, lo12, hi12⟩ - - -
    refine hK _ _ ?_; clear hK K
    refine stepK rfl (by kernel_rfl) (fun K hK => ?_); go_simp
    apply Exists.intro; apply And.intro; (focus (intro wk hk; go_simp; exact ⟨rfl, rfl⟩)); refine hK _ _ ?_; clear hK K
    refine stepN ?_
    refine hQ _ _ ?_
    intro w3 hT hG hF
    have hb3 := hT.undrew.below
    have o12 : OwnF 12 [5, 1] w2.heap.size z12 _ w3 := hF 12 _ rfl rfl (by decide)
    have H := Lib.hid (show _ ∧ _ from ⟨(show Ob w3 w2.heap.size v12 z12 from o12.1).base hl.size, hl.trans (hb3.mono hl.size)⟩)
    clear hT hG hF hb3 hQ QQ L o12 hl hb hY
    go_wp2_with fail
    go_ret
    exact ⟨_, rfl, by rw [← hfin.out]; exact H.out.1, H.out.2⟩
end Go.Proofs.Ytpdenhmkpiafiaa
namespace Go.Proofs.Ytpdenhmkpiafiaa
open Go Go.RowKit K6
theorem K6.Tr.trans_new {X Y : Nat → Prop} {w w1 w2 : World} (h : Tr X w w1) (k : Tr Y w1 w2) (hY : ∀ b, Y b → b < w.heap.size → X b) : Tr X w w2 :=
  ⟨k.os.trans h.os, k.tape.trans h.tape, k.output.trans h.output, Nat.le_trans h.size k.size, fun b hb hx => (k.block b (Nat.lt_of_lt_of_le hb h.size) fun hy => hx (hY b hy hb)).trans (h.block b hb hx)⟩
set_option maxRecDepth 100000 in
theorem copy_none {w : World} {d : Option Addr} {n c : Nat} {ty : TypeId} {u : Value} (hu : Bs w u []) : (Builtin.copy_ #[33, 33] ty #[.slice d n c, u]).run Try.prog w = .ok (goInt 0) w := by
  obtain ⟨q, c', rfl, -, -⟩ := hu
  exact run_copy_none w 33 33 ty 5 d q n c 0 c' rfl rfl (Nat.zero_min _)
set_option maxRecDepth 100000 in
theorem copy_run {w : World} {T t o n c : Nat} {ty : TypeId} {cur : Array Value} {u : Value} {ys : List Int} (hr : Row w T t cur) (hu : Bs w u ys) (hn : ys.length = n) (hfit : o + n ≤ cur.size) :
    ∃ w', (Builtin.copy_ #[33, 33] ty #[.slice (some ⟨T, o, none⟩) n c, u]).run Try.prog w = .ok (goInt n) w' ∧ Row w' T t (cur.toList.take o ++ bv ys ++ cur.toList.drop (o + n)).toArray ∧ Tr (fun b => b = T) w w' := by
  subst hn
  by_cases h0 : ys = []
  · subst h0
    refine ⟨w, copy_none hu, ?_, Tr.refl _ _⟩
    have : (cur.toList.take o ++ bv [] ++ cur.toList.drop (o + ([] : List Int).length)).toArray = cur := by
      rw [show bv [] = [] from rfl, List.append_nil, List.length_nil, Nat.add_zero, List.take_append_drop]
    rw [this]; exact hr
  · obtain ⟨q, c', rfl, hq, h1⟩ := hu
    cases q with
    | none => exact absurd (hq rfl).2 h0
    | some a =>
      have hrun := run_copy_row (P := Try.prog) w 33 33 ty 5 T o ys.length c a ys.length c' cur t (bv ys) rfl rfl hr (by rw [bv_len]; exact (Nat.min_self _).symm) (h1 a rfl) (by rw [bv_len]; exact hfit) (fun u hu => by obtain ⟨x, _, rfl⟩ := List.mem_map.1 hu; rfl)
      rw [bv_len] at hrun
      exact ⟨_, hrun, setRow_heap w T cur _ t _ hr, rfl, rfl, rfl, by simp [World.setRow], fun b _ hb => setRow_other w T b _ hb⟩
theorem run_copy_op {P : Program} {o : Oper} {a : Act} {x y : Operand} {t t' : TypeId} {v u v2 : Value} {w w2 : World} (ho : o.op = .call { callee := .builtin .copy, args := #[x, y], argTypes := #[t, t'] }) (hx : a.eval x = v) (hy : a.eval y = u)
    (hrun : (Builtin.copy_ #[t, t'] o.type #[v, u]).run P w = .ok v2 w2) : (execOp a.eval o).run P w = .ok (.value v2) w2 := by
  unfold execOp
  simp only [ho, resolve, invoke, builtin, Sem.run_bind, Sem.run_pure, Result.andThen_ok, List.map_toArray, List.map_cons, List.map_nil, hx, hy, hrun]
def zr32 : Array Value := arr .u8 (fun _ => 0) 32
theorem aggR35 : AggT Try.prog 35 32 := ⟨⟨_, Try.underlying35, rfl⟩, by kernel_rfl⟩
theorem zr32_take (o : Nat) (ho : o ≤ 32) : zr32.toList.take o = bv (List.replicate o 0) := by
  have h : zr32.toList = List.replicate 32 (.int .u8 0) := rfl
  rw [h, List.take_replicate, Nat.min_eq_left ho]
  unfold bv
  rw [List.map_replicate]
theorem zr32_copy {o n : Nat} {ys : List Int} (h : o + n = 32) : (zr32.toList.take o ++ bv ys ++ zr32.toList.drop (o + n)).toArray = (bv (List.replicate o 0 ++ ys)).toArray := by
  rw [zr32_take o (by omega), h, bv_app, List.drop_eq_nil_of_le (show zr32.toList.length ≤ 32 from Nat.le_refl _), List.append_nil]
namespace K6
def sW (i : Nat) (D use kill : List Nat) (G : Nat) (Lo : Nat → Prop) (p : Value → Prop) (f : Value → World → Prop) : Sp := (⟨i, D, use, kill, [], [], false, true, true⟩, ⟨fun _ x => p x.v, fun g w => f (g i).v w, (· = G), Lo⟩)
theorem ok_W {w1 : World} {Z : Nat → Prop} {i : Nat} {D use kill : List Nat} {G : Nat} {Lo : Nat → Prop} {p : Value → Prop} {f : Value → World → Prop} (hp : ∃ v, p v) (hl : ∀ v w w', f v w → Tr (fun b => ¬ Lo b) w w' → f v w') (hG : G < w1.heap.size) (hz : Z G) (hLo : ∀ b, Lo b → b < w1.heap.size) : OpOk w1 Z (sW i D use kill G Lo p f) where
  some_ := fun _ => by obtain ⟨v, hv⟩ := hp; exact ⟨⟨v, w1.heap.size, w1.heap.size⟩, Nat.le_refl _, Nat.le_refl _, hv⟩
  depV := fun _ _ _ _ h => h
  depF := fun g g' hg w h => by show f (g' i).v w; rw [hg i (.inl rfl)]; exact h
  loc := fun g w w' h hT => hl _ w w' h (hT.mono fun b _ hb hx => hb (.inr (.inl hx)))
  xo := fun c hc => by
    have hc' : c = G := hc
    subst hc'; exact ⟨rfl, hz, hG⟩
  lo := fun c hc => ⟨rfl, hLo c hc⟩
theorem left_W {l : List Sp} {i : Nat} {D use kill : List Nat} {G : Nat} {Lo : Nat → Prop} {p : Value → Prop} {f : Value → World → Prop} {s : Sh} (hl : look6 l s.i = (sW i D use kill G Lo p f).2) (hs : s = (sW i D use kill G Lo p f).1) {g : Ghost} {w w' : World} {v : Value}
    (hp : p v) (ht : Tr (fun b => b = G) w w') (hf : f v w') : Left (look6 l) s g w v w' := by
  unfold Left
  rw [hl]
  subst hs
  refine ⟨hp, ht.mono fun b _ hb => ?_, ?_⟩
  · show XX (look6 l) _ g b
    unfold XX
    rw [hl]
    exact .inl hb
  · show f (gput g i _ i).v w'
    rw [gput_self]
    exact hf
end K6
def beV (l : List Int) : Nat := l.foldl (fun a c => a * 256 + c.toNat) 0
theorem beV_snoc (l : List Int) (c : Int) : beV (l ++ [c]) = beV l * 256 + c.toNat := by unfold beV; rw [List.foldl_append]; rfl
theorem beV_zeros (k : Nat) (l : List Int) : beV (List.replicate k 0 ++ l) = beV l := by
  unfold beV
  rw [List.foldl_append]
  congr 1
  induction k with
  | zero => rfl
  | succ k ih => exact ih
theorem fromN_beV {L : List Int} (hL : L.length = 32) : ∀ i, i ≤ 32 → fromN (fun j => (L.getD j 0).toNat) i = beV (L.take i) * 256 ^ (32 - i)
  | 0, _ => by rw [List.take_zero]; show 0 = 0 * _; rw [Nat.zero_mul]
  | i + 1, h => by
    have hi : i < L.length := by omega
    rw [List.take_succ_eq_append_getElem hi, beV_snoc, Nat.add_mul]
    show fromN _ i + (L.getD i 0).toNat * 2 ^ (8 * (31 - i)) = _
    rw [fromN_beV hL i (by omega), List.getD_eq_getElem?_getD, List.getElem?_eq_getElem hi, Nat.pow_mul, show 32 - (i + 1) = 31 - i by omega, show 32 - i = (31 - i) + 1 by omega, Nat.pow_succ, Nat.mul_assoc, Nat.mul_comm 256]
    rfl
theorem beV_lt : ∀ (n : Nat) (l : List Int), l.length = n → (∀ x ∈ l, 0 ≤ x ∧ x < 256) → beV l < 256 ^ n
  | 0, l, hn, _ => by rw [List.eq_nil_of_length_eq_zero hn]; decide
  | n + 1, l, hn, h => by
    have hne : l ≠ [] := fun e => by subst e; cases hn
    have hsp := List.dropLast_concat_getLast hne
    have hd := beV_lt n l.dropLast (by rw [List.length_dropLast]; omega) (fun x hx => h x (List.dropLast_subset _ hx))
    have hg := h _ (List.getLast_mem hne)
    rw [← hsp, beV_snoc, Nat.pow_succ]
    omega
theorem beV_M {l : List Int} (hn : l.length ≤ 32) (h : ∀ x ∈ l, 0 ≤ x ∧ x < 256) : beV l < M := by
  have h1 := beV_lt l.length l rfl h
  have h2 : 256 ^ l.length ≤ 256 ^ 32 := Nat.pow_le_pow_right (by decide) hn
  have h3 : (256 : Nat) ^ 32 = M := by unfold M; decide
  omega
theorem from32 {L : List Int} (hL : L.length = 32) (hb : ∀ x ∈ L, 0 ≤ x ∧ x < 256) {w : World} {T t c : Nat} (hr : Row w T t (bv L).toArray) : Calls Try.prog 81 #[.slice (some ⟨T, 0, none⟩) 32 c] w (Ret w (.tuple #[.agg (W4 (beV L)), .bool true])) := by
  have hf : ∀ i, (L.getD i 0).toNat < 256 := fun i => by
    rcases Nat.lt_or_ge i L.length with h | h
    · rw [List.getD_eq_getElem?_getD, List.getElem?_eq_getElem h]
      have := hb _ (List.getElem_mem h)
      show (L[i]).toNat < 256
      omega
    · rw [List.getD_eq_getElem?_getD, List.getElem?_eq_none h]; decide
  refine (fromBytes_any (some ⟨T, 0, none⟩) 32 c (fun j => (L.getD j 0).toNat) w hf (fun _ => ⟨T, 0, rfl, hr.lt, fun i hi => ?_⟩)).mono fun _ _ h => ?_
  · rw [Nat.zero_add, hr.cell]
    have hi2 : i < L.length := by omega
    have h1 := hb _ (List.getElem_mem hi2)
    show (bv L).toArray[i]? = _
    rw [List.getElem?_toArray]
    unfold bv
    rw [List.getElem?_map, List.getElem?_eq_getElem hi2, List.getD_eq_getElem?_getD, List.getElem?_eq_getElem hi2]
    show some (Value.int .u8 L[i]) = some (Value.int .u8 ((L[i].toNat : Nat) : Int))
    rw [Int.toNat_of_nonneg h1.1]
  · have h2 := pair_ret h
    rw [if_pos rfl, decide_eq_true rfl, fromN_beV hL 32 (Nat.le_refl _), Nat.sub_self, Nat.pow_zero, Nat.mul_one, List.take_of_length_le (by omega)] at h2
    exact h2
end Go.Proofs.Ytpdenhmkpiafiaa
