/-
  slices.Clone of bytes (157), octet.Var (38): a number put behind bytes.
-/
import Derived.Test.YtpdenhmkpiafiaaGD
import Derived.Test.YtpdenhmkpiafiaaGE
namespace Go.Proofs.Ytpdenhmkpiafiaa
open Go Go.RowKit K6

/-- append onto an empty slice that was just made -/
theorem fresh_append {u : Value} {xs : List Int} {w : World} (h : Bs w u xs) (hL : xs.length ≤ 100000000) : ∃ v2 w2, (Builtin.append_ #[33, 33] 33 #[.slice (some ⟨w.heap.size, 0, none⟩) 0 0, u]).run Try.prog (w.alloc (.cells #[] 5)) = .ok v2 w2 ∧ Ob w2 w.heap.size v2 xs ∧ Below w.heap.size w w2 := by
  have ha : Below w.heap.size w (w.alloc (.cells #[] 5)) := (Below.refl _ _).alloc (Nat.le_refl _) _
  have ho : Ob (w.alloc (.cells #[] 5)) w.heap.size (.slice (some ⟨w.heap.size, 0, none⟩) 0 0) [] := ⟨rfl, .inr ⟨w.heap.size, 0, #[], rfl, Nat.le_refl _, Row.new_at (t := 5) (cs := #[]) rfl, Nat.le_refl _, Nat.zero_le _, rfl, rfl⟩⟩
  obtain ⟨v2, w2, hrun, ho2, hg, hw⟩ := append_run ho (h.below ha) (by simp; omega) (by simp)
  refine ⟨v2, w2, hrun, ho2, hg.os, hg.tape, hg.output, Nat.le_trans ha.size hg.size, fun k hk => ?_⟩
  rw [hg.block k (Nat.lt_of_lt_of_le hk ha.size) (fun e => by have : k = w.heap.size := Option.some.inj e; omega)]
  exact ha.block k hk
/-- append at its place in the walk -/
theorem wpList_app {ops : Array Oper} {rest : List Oper} {o : Oper} {a : Act} {Q : Exit → Act → World → Prop} {w w' : World} {x y : Operand} {t1 t2 : TypeId} {v u v' : Value} (hgd : o.guard = none)
    (ho : o.op = .call { callee := .builtin .append, args := #[x, y], argTypes := #[t1, t2] }) (hx : a.eval x = v) (hy : a.eval y = u)
    (hrun : (Builtin.append_ #[t1, t2] o.type #[v, u]).run Try.prog w = .ok v' w') (h : wpList Try.prog ops Q rest (a.put o.dst v') w') : wpList Try.prog ops Q (o :: rest) a w := by
  refine wpList_plain hgd fun K hK => ?_
  unfold Oper.wp execOp
  simp only [ho, resolve, invoke, builtin, Sem.run_bind, Sem.run_pure, Result.andThen_ok, List.map_toArray, List.map_cons, List.map_nil, hx, hy, hrun]
  exact hK _ _ h
theorem slice_nil (w : World) : (binOp .eql 33 (.slice none 0 0) (.slice none 0 0)).run Try.prog w = .ok (.bool true) w := by kernel_rfl
theorem slice_not (a : Addr) (n c : Nat) (w : World) : (binOp .eql 33 (.slice (some a) n c) (.slice none 0 0)).run Try.prog w = .ok (.bool false) w := by kernel_rfl
set_option maxRecDepth 100000 in
set_option maxHeartbeats 4000000 in
theorem clone_any (u : Value) (xs : List Int) (w : World) (h : Bs w u xs) (hL : xs.length ≤ 100000000) : Calls Try.prog 157 #[u] w fun e w' => ∃ v, e = .returned v ∧ Ob w' w.heap.size v xs ∧ Below w.heap.size w w' := by
  have hb := h
  obtain ⟨q, c, rfl, hn, h1⟩ := h
  cases q with
  | none =>
    obtain ⟨rfl, rfl⟩ := hn rfl
    clear hb hn h1 hL
    have hq := slice_nil
    go_enter Try.func157, Try.ntmps157
    go_wp2_with fail
    go_ret
    exact ⟨_, rfl, Ob.nil _ _, Below.refl _ _⟩
  | some a =>
    obtain ⟨n, hn'⟩ : ∃ n, xs.length = n := ⟨_, rfl⟩
    obtain ⟨v2, w2, hrun, ho2, hl⟩ := fresh_append hb hL
    rw [hn'] at hrun ⊢
    have H := Lib.hid (show _ ∧ _ from ⟨ho2, hl⟩)
    clear hb hn h1 hL ho2 hl hn'
    have hq := fun w => slice_not a n c w
    go_enter Try.func157, Try.ntmps157
    go_wp2_with (at_builtin; refine wpList_app rfl rfl rfl rfl hrun ?_)
    go_ret
    exact ⟨_, rfl, H.out.1, H.out.2⟩

/-! ### Var -/
/-- a number's groups of seven bits -/
def enc (m : Nat) : List Int := if h : m < 128 then [(m : Int)] else ((m % 128 + 128 : Nat) : Int) :: enc (m / 128)
termination_by m
decreasing_by omega
theorem enc_low {m : Nat} (h : m < 128) : enc m = [(m : Int)] := by unfold enc; rw [dif_pos h]
theorem enc_high {m : Nat} (h : ¬ m < 128) : enc m = ((m % 128 + 128 : Nat) : Int) :: enc (m / 128) := by rw [enc, dif_neg h]
set_option maxRecDepth 100000 in
theorem or128_key : ∀ x : Fin 256, bits .or .u8 ((x.val : Nat) : Int) 128 = ((x.val % 128 + 128 : Nat) : Int) := by decide
theorem enc_len : ∀ (k m : Nat), m < 128 ^ (k + 1) → (enc m).length ≤ k + 1
  | 0, m, h => by rw [enc_low (by simpa using h)]; simp
  | k + 1, m, h => by
    by_cases h1 : m < 128
    · rw [enc_low h1]; simp
    · rw [enc_high h1, List.length_cons]
      have := enc_len k (m / 128) (by rw [Nat.div_lt_iff_lt_mul (by decide)]; rw [Nat.pow_succ] at h; exact h)
      omega
theorem or128 (m : Nat) : bits .or .u8 ((m : Int) % 256) 128 = ((m % 128 + 128 : Nat) : Int) := by
  have h : (m : Int) % 256 = ((m % 256 : Nat) : Int) := by omega
  rw [h]
  have := or128_key ⟨m % 256, Nat.mod_lt _ (by decide)⟩
  simp only at this
  rw [this, Nat.mod_mod_of_dvd _ (by decide)]
theorem shr7 (m : Nat) (w : World) : (binOp .shr 3 (.int .i64 (m : Int)) (.int .u64 7)).run Try.prog w = .ok (.int .i64 ((m / 128 : Nat) : Int)) w := by
  have e : (m : Int).fdiv (2 ^ 7) = ((m / 128 : Nat) : Int) := by
    rw [Int.fdiv_eq_ediv_of_nonneg _ (by decide)]; omega
  show (Op.shift .shr .i64 (m : Int) .u64 7).run Try.prog w = _
  unfold Op.shift
  rw [if_neg (by decide)]
  show Result.ok (Value.int .i64 ((m : Int).fdiv (2 ^ 7))) w = _
  rw [e]
theorem Bs_new {w : World} (x : Int) : Bs (w.alloc (.cells #[.int .u8 x] 5)) (.slice (some ⟨w.heap.size, 0, none⟩) 1 1) [x] := by
  refine ⟨_, _, rfl, (fun h => (by cases h)), fun a ha j u hj => ?_⟩
  cases ha
  match j, hj with
  | 0, hj =>
    cases hj
    rw [add_at]
    exact (Row.new_at (w := w) (cs := #[.int .u8 x]) (t := 5) rfl).cell 0
theorem grew_below {w w2 : World} {B : Nat} {x : Obj} {v : Value} (hB : B ≤ w.heap.size) (ho : ∀ b, v.ownBlock = some b → B ≤ b) (hg : (w.alloc x).grownBy w2 v.ownBlock) : Below B w w2 := by
  have ha : Below w.heap.size w (w.alloc x) := (Below.refl _ _).alloc (Nat.le_refl _) _
  refine ⟨hg.os, hg.tape, hg.output, Nat.le_trans ha.size hg.size, fun k hk => ?_⟩
  rw [hg.block k (Nat.lt_of_lt_of_le (Nat.lt_of_lt_of_le hk hB) ha.size) (fun e => by have := ho k e.symm; omega)]
  exact ha.block k (Nat.lt_of_lt_of_le hk hB)
set_option maxRecDepth 100000 in
set_option maxHeartbeats 8000000 in
theorem var_any (u : Value) (xs : List Int) (n0 : Int) (w : World) (h : Bs w u xs) (hL : xs.length ≤ 10000000) (hn0 : n0 < 9223372036854775808) :
    Calls Try.prog 38 #[u, .int .i64 n0] w fun e w' => ∃ v, e = .returned v ∧ Ob w' w.heap.size v (xs ++ enc n0.toNat) ∧ Below w.heap.size w w' := by
  obtain ⟨n, hnn⟩ : ∃ n, n0.toNat = n := ⟨_, rfl⟩
  have hn : n < 9223372036854775808 := by omega
  have hneg : n0 < 0 ∧ (0 : Int) = (n : Int) ∨ 0 ≤ n0 ∧ n0 = (n : Int) := by omega
  rw [hnn]
  have hcl := Lib.hid (clone_any u xs w h (by omega))
  have hlen : (xs ++ enc n).length ≤ 10000010 := by rw [List.length_append]; have := enc_len 8 n (by omega); omega
  obtain ⟨N, hN⟩ : ∃ N, w.heap.size = N := ⟨_, rfl⟩
  obtain ⟨all, hall⟩ : ∃ all, xs ++ enc n = all := ⟨_, rfl⟩
  rw [hall] at hlen ⊢
  clear h hL hn0 hnn
  rcases hneg with ⟨h1, h2⟩ | ⟨h1, h2⟩
  · obtain rfl : n = 0 := by omega
    clear h2
    go_enter Try.func38, Try.ntmps38
    go_wp2_with fail
    refine hcl.out.mono ?_
    rintro e w1 ⟨v1, rfl, ho1, hl1⟩
    clear hcl
    have H0 := Lib.hid (show _ ∧ _ ∧ _ ∧ _ ∧ _ from ⟨ho1, hl1, hall, hlen, hn⟩)
    clear ho1 hl1 hall hlen hn
    go_wp2_with fail
    go_loopg [1, 5] 0 (fun gg s1 s5 wr => ∃ zs, s1 = .int .i64 ((gg : Nat) : Int) ∧ gg < 9223372036854775808 ∧ Ob wr w.heap.size s5 zs ∧ zs ++ enc gg = all ∧ Below w.heap.size w wr)
    case atStart => exact ⟨xs, rfl, H0.out.2.2.2.2, H0.out.1, H0.out.2.2.1, H0.out.2.1⟩
    case round =>
      obtain ⟨zs, rfl, hm, ho, hz, hl⟩ := hrel
      obtain ⟨m, rfl⟩ : ∃ m : Nat, m = gk := ⟨_, rfl⟩
      obtain ⟨wo, rfl⟩ : ∃ wo : World, wo = wr := ⟨_, rfl⟩
      have hzl : zs.length ≤ 10000010 := by
        have h1 := H0.out.2.2.2.1
        rw [← hz, List.length_append] at h1
        omega
      by_cases hlt : m < 128
      · have hd : (m : Int) < 128 := by omega
        have wm : IntKind.u8.wrap (m : Int) = (m : Int) := by rw [IntKind.wrap_u8]; omega
        have hob := hl.size
        have ha : Below wo.heap.size wo (wo.alloc (.cells #[.int .u8 (m : Int)] 5)) := (Below.refl _ _).alloc (Nat.le_refl _) _
        obtain ⟨v2, w2, hrun, ho2, hg, hw⟩ := append_run (ho.below ha) (Bs_new (w := wo) (m : Int)) (by simp; omega) (Nat.le_trans hl.size ha.size)
        have hl2 := hl.trans (grew_below hl.size (fun b hb => (ho.lt b hb).1) hg)
        rw [enc_low hlt] at hz
        rw [hz] at ho2
        have H := Lib.hid (show _ ∧ _ from ⟨ho2, hl2⟩)
        clear ha ho2 hg hw hl2 hz ho hl hlt hzl hob
        go_wp2_with (at_builtin; refine wpList_app rfl rfl rfl rfl hrun ?_)
        go_ret
        exact ⟨_, rfl, H.out.1, H.out.2⟩
      · have hd : (128 : Int) ≤ (m : Int) := by omega
        have ho128 := or128 m
        have hshr := shr7 m
        obtain ⟨y, hy⟩ : ∃ y, ((m % 128 + 128 : Nat) : Int) = y := ⟨_, rfl⟩
        rw [hy] at ho128
        have ha : Below wo.heap.size wo (wo.alloc (.cells #[.int .u8 y] 5)) := (Below.refl _ _).alloc (Nat.le_refl _) _
        obtain ⟨v2, w2, hrun, ho2, hg, hw⟩ := append_run (ho.below ha) (Bs_new (w := wo) y) (by simp; omega) (Nat.le_trans hl.size ha.size)
        have hl2 := hl.trans (grew_below hl.size (fun b hb => (ho.lt b hb).1) hg)
        have hz2 : (zs ++ [y]) ++ enc (m / 128) = all := by rw [List.append_assoc, ← hz, enc_high hlt, hy]; rfl
        have H := Lib.hid (show _ ∧ _ ∧ _ from ⟨ho2, hl2, hz2⟩)
        clear ha ho2 hg hw hl2 hz2 hz ho hl hzl hy
        go_wp2_with (at_builtin; refine wpList_app rfl rfl rfl rfl hrun ?_)
        go_roundg (m / 128)
        case measure => omega
        case rel => exact ⟨zs ++ [y], by go_num, by omega, H.out.1, H.out.2.2, H.out.2.1⟩
  · subst h2
    have h3 : ¬ (n : Int) < 0 := by omega
    clear h1
    go_enter Try.func38, Try.ntmps38
    go_wp2_with fail
    refine hcl.out.mono ?_
    rintro e w1 ⟨v1, rfl, ho1, hl1⟩
    clear hcl
    have H0 := Lib.hid (show _ ∧ _ ∧ _ ∧ _ ∧ _ from ⟨ho1, hl1, hall, hlen, hn⟩)
    clear ho1 hl1 hall hlen hn
    go_wp2_with fail
    go_loopg [1, 5] n (fun gg s1 s5 wr => ∃ zs, s1 = .int .i64 ((gg : Nat) : Int) ∧ gg < 9223372036854775808 ∧ Ob wr w.heap.size s5 zs ∧ zs ++ enc gg = all ∧ Below w.heap.size w wr)
    case atStart => exact ⟨xs, rfl, H0.out.2.2.2.2, H0.out.1, H0.out.2.2.1, H0.out.2.1⟩
    case round =>
      obtain ⟨zs, rfl, hm, ho, hz, hl⟩ := hrel
      obtain ⟨m, rfl⟩ : ∃ m : Nat, m = gk := ⟨_, rfl⟩
      obtain ⟨wo, rfl⟩ : ∃ wo : World, wo = wr := ⟨_, rfl⟩
      have hzl : zs.length ≤ 10000010 := by
        have h1 := H0.out.2.2.2.1
        rw [← hz, List.length_append] at h1
        omega
      by_cases hlt : m < 128
      · have hd : (m : Int) < 128 := by omega
        have wm : IntKind.u8.wrap (m : Int) = (m : Int) := by rw [IntKind.wrap_u8]; omega
        have hob := hl.size
        have ha : Below wo.heap.size wo (wo.alloc (.cells #[.int .u8 (m : Int)] 5)) := (Below.refl _ _).alloc (Nat.le_refl _) _
        obtain ⟨v2, w2, hrun, ho2, hg, hw⟩ := append_run (ho.below ha) (Bs_new (w := wo) (m : Int)) (by simp; omega) (Nat.le_trans hl.size ha.size)
        have hl2 := hl.trans (grew_below hl.size (fun b hb => (ho.lt b hb).1) hg)
        rw [enc_low hlt] at hz
        rw [hz] at ho2
        have H := Lib.hid (show _ ∧ _ from ⟨ho2, hl2⟩)
        clear ha ho2 hg hw hl2 hz ho hl hlt hzl hob
        go_wp2_with (at_builtin; refine wpList_app rfl rfl rfl rfl hrun ?_)
        go_ret
        exact ⟨_, rfl, H.out.1, H.out.2⟩
      · have hd : (128 : Int) ≤ (m : Int) := by omega
        have ho128 := or128 m
        have hshr := shr7 m
        obtain ⟨y, hy⟩ : ∃ y, ((m % 128 + 128 : Nat) : Int) = y := ⟨_, rfl⟩
        rw [hy] at ho128
        have ha : Below wo.heap.size wo (wo.alloc (.cells #[.int .u8 y] 5)) := (Below.refl _ _).alloc (Nat.le_refl _) _
        obtain ⟨v2, w2, hrun, ho2, hg, hw⟩ := append_run (ho.below ha) (Bs_new (w := wo) y) (by simp; omega) (Nat.le_trans hl.size ha.size)
        have hl2 := hl.trans (grew_below hl.size (fun b hb => (ho.lt b hb).1) hg)
        have hz2 : (zs ++ [y]) ++ enc (m / 128) = all := by rw [List.append_assoc, ← hz, enc_high hlt, hy]; rfl
        have H := Lib.hid (show _ ∧ _ ∧ _ from ⟨ho2, hl2, hz2⟩)
        clear ha ho2 hg hw hl2 hz2 hz ho hl hzl hy
        go_wp2_with (at_builtin; refine wpList_app rfl rfl rfl rfl hrun ?_)
        go_roundg (m / 128)
        case measure => omega
        case rel => exact ⟨zs ++ [y], by go_num, by omega, H.out.1, H.out.2.2, H.out.2.1⟩
/-! ### the document's Var (39) -/
set_option maxRecDepth 100000 in
set_option maxHeartbeats 8000000 in
theorem refvar_any (u : Value) (xs : List Int) (n0 : Int) (w : World) (h : Bs w u xs) (hL : xs.length ≤ 10000000) (hn0 : n0 < 9223372036854775808) :
    Calls Try.prog 39 #[u, .int .i64 n0] w fun e w' => ∃ v, e = .returned v ∧ Ob w' w.heap.size v (xs ++ enc n0.toNat) ∧ Below w.heap.size w w' := by
  obtain ⟨n, hnn⟩ : ∃ n, n0.toNat = n := ⟨_, rfl⟩
  have hn : n < 9223372036854775808 := by omega
  rw [hnn]
  have hlen : (xs ++ enc n).length ≤ 10000010 := by rw [List.length_append]; have := enc_len 8 n (by omega); omega
  obtain ⟨v1, w1, hrun1, ho1, hl1⟩ := fresh_append h (by omega)
  obtain ⟨all, hall⟩ : ∃ all, xs ++ enc n = all := ⟨_, rfl⟩
  rw [hall] at hlen ⊢
  have H0 := Lib.hid (show _ ∧ _ ∧ _ ∧ _ ∧ _ from ⟨ho1, hl1, hall, hlen, hn⟩)
  have hneg : n0 < 0 ∧ (0 : Int) = (n : Int) ∨ 0 ≤ n0 ∧ n0 = (n : Int) := by omega
  clear ho1 hl1 hall hlen hn h hL hn0 hnn
  rcases hneg with ⟨h1, h2⟩ | ⟨h1, h2⟩
  · obtain rfl : n = 0 := by omega
    clear h2
    go_enter Try.func39, Try.ntmps39
    go_wp2_with (at_builtin; refine wpList_app rfl rfl rfl rfl hrun1 ?_)
    go_loopg [1, 5] 0 (fun gg s1 s5 wr => ∃ zs, s1 = .int .i64 ((gg : Nat) : Int) ∧ gg < 9223372036854775808 ∧ Ob wr w.heap.size s5 zs ∧ zs ++ enc gg = all ∧ Below w.heap.size w wr)
    case atStart => exact ⟨xs, rfl, H0.out.2.2.2.2, H0.out.1, H0.out.2.2.1, H0.out.2.1⟩
    case round =>
      obtain ⟨zs, rfl, hm, ho, hz, hl⟩ := hrel
      obtain ⟨m, rfl⟩ : ∃ m : Nat, m = gk := ⟨_, rfl⟩
      obtain ⟨wo, rfl⟩ : ∃ wo : World, wo = wr := ⟨_, rfl⟩
      have hzl : zs.length ≤ 10000010 := by
        have h1 := H0.out.2.2.2.1
        rw [← hz, List.length_append] at h1
        omega
      by_cases hlt : m < 128
      · have hd : (m : Int) ≤ 127 := by omega
        have wm : IntKind.u8.wrap (m : Int) = (m : Int) := by rw [IntKind.wrap_u8]; omega
        have ha : Below wo.heap.size wo (wo.alloc (.cells #[.int .u8 (m : Int)] 5)) := (Below.refl _ _).alloc (Nat.le_refl _) _
        obtain ⟨v2, w2, hrun, ho2, hg, hw⟩ := append_run (ho.below ha) (Bs_new (w := wo) (m : Int)) (by simp; omega) (Nat.le_trans hl.size ha.size)
        have hl2 := hl.trans (grew_below hl.size (fun b hb => (ho.lt b hb).1) hg)
        rw [enc_low hlt] at hz
        rw [hz] at ho2
        have H := Lib.hid (show _ ∧ _ from ⟨ho2, hl2⟩)
        clear ha ho2 hg hw hl2 hz ho hl hlt hzl
        go_wp2_with (at_builtin; refine wpList_app rfl rfl rfl rfl hrun ?_)
        go_ret
        exact ⟨_, rfl, H.out.1, H.out.2⟩
      · have hd : (127 : Int) < (m : Int) := by omega
        have tm : ((m : Int)).tmod 128 = ((m % 128 : Nat) : Int) := by rw [Int.tmod_eq_emod_of_nonneg (by omega)]; omega
        have td : ((m : Int)).tdiv 128 = ((m / 128 : Nat) : Int) := by rw [Int.tdiv_eq_ediv_of_nonneg (by omega)]; omega
        obtain ⟨r, hr⟩ : ∃ r, m % 128 = r := ⟨_, rfl⟩
        have hr128 : r < 128 := hr ▸ Nat.mod_lt _ (by decide)
        rw [hr] at tm
        have w1 : IntKind.u8.wrap (r : Int) = (r : Int) := by rw [IntKind.wrap_u8]; omega
        have w2' : IntKind.u8.wrap ((r : Int) + 128) = (r : Int) + 128 := by rw [IntKind.wrap_u8]; omega
        have ha : Below wo.heap.size wo (wo.alloc (.cells #[.int .u8 ((r : Int) + 128)] 5)) := (Below.refl _ _).alloc (Nat.le_refl _) _
        obtain ⟨v2, w2, hrun, ho2, hg, hw⟩ := append_run (ho.below ha) (Bs_new (w := wo) ((r : Int) + 128)) (by simp; omega) (Nat.le_trans hl.size ha.size)
        have hl2 := hl.trans (grew_below hl.size (fun b hb => (ho.lt b hb).1) hg)
        have hz2 : (zs ++ [(r : Int) + 128]) ++ enc (m / 128) = all := by rw [List.append_assoc, ← hz, enc_high hlt, hr]; rfl
        have H := Lib.hid (show _ ∧ _ ∧ _ from ⟨ho2, hl2, hz2⟩)
        clear ha ho2 hg hw hl2 hz2 hz ho hl hzl hr
        go_wp2_with (at_builtin; refine wpList_app rfl rfl rfl rfl hrun ?_)
        go_roundg (m / 128)
        case measure => omega
        case rel => exact ⟨zs ++ [(r : Int) + 128], by go_num, by omega, H.out.1, H.out.2.2, H.out.2.1⟩
  · subst h2
    clear h1
    go_enter Try.func39, Try.ntmps39
    go_wp2_with (at_builtin; refine wpList_app rfl rfl rfl rfl hrun1 ?_)
    go_loopg [1, 5] n (fun gg s1 s5 wr => ∃ zs, s1 = .int .i64 ((gg : Nat) : Int) ∧ gg < 9223372036854775808 ∧ Ob wr w.heap.size s5 zs ∧ zs ++ enc gg = all ∧ Below w.heap.size w wr)
    case atStart => exact ⟨xs, rfl, H0.out.2.2.2.2, H0.out.1, H0.out.2.2.1, H0.out.2.1⟩
    case round =>
      obtain ⟨zs, rfl, hm, ho, hz, hl⟩ := hrel
      obtain ⟨m, rfl⟩ : ∃ m : Nat, m = gk := ⟨_, rfl⟩
      obtain ⟨wo, rfl⟩ : ∃ wo : World, wo = wr := ⟨_, rfl⟩
      have hzl : zs.length ≤ 10000010 := by
        have h1 := H0.out.2.2.2.1
        rw [← hz, List.length_append] at h1
        omega
      by_cases hlt : m < 128
      · have hd : (m : Int) ≤ 127 := by omega
        have wm : IntKind.u8.wrap (m : Int) = (m : Int) := by rw [IntKind.wrap_u8]; omega
        have ha : Below wo.heap.size wo (wo.alloc (.cells #[.int .u8 (m : Int)] 5)) := (Below.refl _ _).alloc (Nat.le_refl _) _
        obtain ⟨v2, w2, hrun, ho2, hg, hw⟩ := append_run (ho.below ha) (Bs_new (w := wo) (m : Int)) (by simp; omega) (Nat.le_trans hl.size ha.size)
        have hl2 := hl.trans (grew_below hl.size (fun b hb => (ho.lt b hb).1) hg)
        rw [enc_low hlt] at hz
        rw [hz] at ho2
        have H := Lib.hid (show _ ∧ _ from ⟨ho2, hl2⟩)
        clear ha ho2 hg hw hl2 hz ho hl hlt hzl
        go_wp2_with (at_builtin; refine wpList_app rfl rfl rfl rfl hrun ?_)
        go_ret
        exact ⟨_, rfl, H.out.1, H.out.2⟩
      · have hd : (127 : Int) < (m : Int) := by omega
        have tm : ((m : Int)).tmod 128 = ((m % 128 : Nat) : Int) := by rw [Int.tmod_eq_emod_of_nonneg (by omega)]; omega
        have td : ((m : Int)).tdiv 128 = ((m / 128 : Nat) : Int) := by rw [Int.tdiv_eq_ediv_of_nonneg (by omega)]; omega
        obtain ⟨r, hr⟩ : ∃ r, m % 128 = r := ⟨_, rfl⟩
        have hr128 : r < 128 := hr ▸ Nat.mod_lt _ (by decide)
        rw [hr] at tm
        have w1 : IntKind.u8.wrap (r : Int) = (r : Int) := by rw [IntKind.wrap_u8]; omega
        have w2' : IntKind.u8.wrap ((r : Int) + 128) = (r : Int) + 128 := by rw [IntKind.wrap_u8]; omega
        have ha : Below wo.heap.size wo (wo.alloc (.cells #[.int .u8 ((r : Int) + 128)] 5)) := (Below.refl _ _).alloc (Nat.le_refl _) _
        obtain ⟨v2, w2, hrun, ho2, hg, hw⟩ := append_run (ho.below ha) (Bs_new (w := wo) ((r : Int) + 128)) (by simp; omega) (Nat.le_trans hl.size ha.size)
        have hl2 := hl.trans (grew_below hl.size (fun b hb => (ho.lt b hb).1) hg)
        have hz2 : (zs ++ [(r : Int) + 128]) ++ enc (m / 128) = all := by rw [List.append_assoc, ← hz, enc_high hlt, hr]; rfl
        have H := Lib.hid (show _ ∧ _ ∧ _ from ⟨ho2, hl2, hz2⟩)
        clear ha ho2 hg hw hl2 hz2 hz ho hl hzl hr
        go_wp2_with (at_builtin; refine wpList_app rfl rfl rfl rfl hrun ?_)
        go_roundg (m / 128)
        case measure => omega
        case rel => exact ⟨zs ++ [(r : Int) + 128], by go_num, by omega, H.out.1, H.out.2.2, H.out.2.1⟩
/-! ### Text (44), the document's Text (45): bytes, and how many, put behind bytes -/
set_option maxRecDepth 100000 in
set_option maxHeartbeats 4000000 in
theorem text_put (fn : Nat) (hfn : fn = 44 ∨ fn = 45) (u t : Value) (xs ys : List Int) (w : World) (h : Bs w u xs) (ht : Bs w t ys) (hL : xs.length ≤ 10000000) (hL2 : ys.length ≤ 10000000) :
    Calls Try.prog fn #[u, t] w fun e w' => ∃ v, e = .returned v ∧ Ob w' w.heap.size v ((xs ++ enc ys.length) ++ ys) ∧ Below w.heap.size w w' := by
  obtain ⟨q, c, e, -, -⟩ := id ht
  subst e
  have hlen : (xs ++ enc ys.length).length ≤ 10000010 := by rw [List.length_append]; have := enc_len 8 ys.length (by omega); omega
  obtain ⟨n, hn⟩ : ∃ n, ys.length = n := ⟨_, rfl⟩
  have hys := hn
  have HT := Lib.hid (show _ ∧ _ ∧ _ from ⟨ht, hlen, hL2⟩)
  have v38 := var_any u xs (n : Int) w h hL (by omega)
  have v39 := refvar_any u xs (n : Int) w h hL (by omega)
  rw [Int.toNat_natCast] at v38 v39
  replace v38 := Lib.hid v38
  replace v39 := Lib.hid v39
  rw [hn] at HT ⊢
  clear h ht hL hL2 hlen hn
  rcases hfn with rfl | rfl
  · go_enter Try.func44, Try.ntmps44
    go_wp2_with fail
    refine v38.out.mono ?_
    rintro e w1 ⟨v1, rfl, ho, hl⟩
    clear v38 v39
    obtain ⟨ht, hlen, hL2⟩ := HT.out
    obtain ⟨v2, w2, hrun, ho2, hg, hw⟩ := append_run ho (ht.below hl) (by rw [hys]; omega) hl.size
    have hl2 : Below w.heap.size w w2 := hl.trans ⟨hg.os, hg.tape, hg.output, hg.size, fun k hk => hg.block k (Nat.lt_of_lt_of_le hk hl.size) (fun e => by have := (ho.lt k e.symm).1; omega)⟩
    have H := Lib.hid (show _ ∧ _ from ⟨ho2, hl2⟩)
    clear ht hlen hL2 ho2 hg hw hl2 ho hl HT
    go_wp2_with (at_builtin; refine wpList_app rfl rfl rfl rfl hrun ?_)
    go_ret
    exact ⟨_, rfl, H.out.1, H.out.2⟩
  · go_enter Try.func45, Try.ntmps45
    go_wp2_with fail
    refine v39.out.mono ?_
    rintro e w1 ⟨v1, rfl, ho, hl⟩
    clear v38 v39
    obtain ⟨ht, hlen, hL2⟩ := HT.out
    obtain ⟨v2, w2, hrun, ho2, hg, hw⟩ := append_run ho (ht.below hl) (by rw [hys]; omega) hl.size
    have hl2 : Below w.heap.size w w2 := hl.trans ⟨hg.os, hg.tape, hg.output, hg.size, fun k hk => hg.block k (Nat.lt_of_lt_of_le hk hl.size) (fun e => by have := (ho.lt k e.symm).1; omega)⟩
    have H := Lib.hid (show _ ∧ _ from ⟨ho2, hl2⟩)
    clear ht hlen hL2 ho2 hg hw hl2 ho hl HT
    go_wp2_with (at_builtin; refine wpList_app rfl rfl rfl rfl hrun ?_)
    go_ret
    exact ⟨_, rfl, H.out.1, H.out.2⟩
end Go.Proofs.Ytpdenhmkpiafiaa
