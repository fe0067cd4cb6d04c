/-
  event.New (35).
-/
import Derived.Test.YtpdenhmkpiafiaaEvU
import Derived.Test.YtpdenhmkpiafiaaRefOf
namespace Go.Proofs.Ytpdenhmkpiafiaa
open Go Go.RowKit K6

/-- a slice value reads as these ints -/
def Ns (w : World) (u : Value) (l : List Int) : Prop := ∃ q c, u = .slice q l.length c ∧ (0 < l.length → ∃ g o, q = some ⟨g, o, none⟩ ∧ g < w.heap.size ∧ ∀ i (hi : i < l.length), w.cell? ⟨g, o + i, none⟩ = some (.int .i64 l[i]))
theorem Ns.below {w w' : World} {u : Value} {l : List Int} (h : Ns w u l) (hb : Below w.heap.size w w') : Ns w' u l := by
  obtain ⟨q, c, rfl, h⟩ := h
  refine ⟨q, c, rfl, fun h0 => ?_⟩
  obtain ⟨g, o, rfl, hg, hc⟩ := h h0
  exact ⟨g, o, rfl, Nat.lt_of_lt_of_le hg hb.size, fun i hi => (World.cell?_of_block (hb.block g hg)).trans (hc i hi)⟩
/-- the numbers of the first i ints -/
def nums (l : List Int) (i : Nat) : List Nat := (l.take i).map Int.toNat
theorem nums_len {l : List Int} {i : Nat} (h : i ≤ l.length) : (nums l i).length = i := by unfold nums; rw [List.length_map, List.length_take]; omega
theorem nums_succ {l : List Int} {i : Nat} (h : i < l.length) : nums l (i + 1) = nums l i ++ [(l[i]).toNat] := by
  unfold nums
  rw [List.take_succ_eq_append_getElem h, List.map_append]
  rfl
theorem kLoadE {P : Program} {w1 : World} {o : Oper} {a : Act} {X : Nat → Prop} {ty : TypeId} {x : Operand} {b off n : Nat} {cs : List Value} (ho : o.op = .load ty x) (hx : a.eval x = .pointer (some ⟨b, off, none⟩)) (T : AggT P ty n) (hr : ∀ j v, cs[j]? = some v → w1.cell? ⟨b, off + j, none⟩ = some v) (hs : cs.length = n) (hb : b < w1.heap.size) (hX : ¬ X b) : kOut P w1 X o a (.agg cs.toArray) := by
  intro w hw
  obtain ⟨⟨d, hu, hd⟩, hi⟩ := T
  have hc : w.rangeAt b off cs := fun j v hv => (World.cell?_of_block (hw.block b hb hX)).trans (hr j v hv)
  have h := run_loadAt_mid (P := P) w b off ty cs d hc hu (by cases d <;> first | rfl | exact Bool.noConfusion hd) (by rw [hi, ← hs])
  unfold execOp
  simp only [ho, hx, Sem.run_bind, Sem.run_pure, Result.andThen_ok, h]
  exact ⟨by simp, rfl⟩
theorem kLoadA {P : Program} {w1 : World} {o : Oper} {a : Act} {X : Nat → Prop} {ty : TypeId} {x : Operand} {b off n : Nat} {cs : Array Value} (ho : o.op = .load ty x) (hx : a.eval x = .pointer (some ⟨b, off, none⟩)) (T : AggT P ty n) (hr : ∀ j v, cs.toList[j]? = some v → w1.cell? ⟨b, off + j, none⟩ = some v) (hs : cs.size = n) (hb : b < w1.heap.size) (hX : ¬ X b) : kOut P w1 X o a (.agg cs) :=
  kLoadE (cs := cs.toList) ho hx T hr (by rw [Array.length_toList]; exact hs) hb hX
/-- element i of a slice: where it lies -/
theorem Us.elem {w : World} {u : Value} {l : List Nat} {i x : Nat} (h : Us w u l) (hx : l[i]? = some x) : ∃ g o c, u = .slice (some ⟨g, o, none⟩) l.length c ∧ g < w.heap.size ∧ ∀ j v, (W4 x).toList[j]? = some v → w.cell? ⟨g, o + i * 4 + j, none⟩ = some v := by
  obtain ⟨hi, rfl⟩ := List.getElem?_eq_some_iff.1 hx
  obtain ⟨g, o, c, hu, hg, hc⟩ := h.at_ hi
  exact ⟨g, o, c, hu, hg, fun j v hj => hc i hi j v hj⟩
theorem us_row {w : World} {b N : Nat} (h : Row w b 31 (W4 N)) : Us w (.slice (some ⟨b, 0, none⟩) 1 1) [N] := by
  refine ⟨_, _, rfl, (fun h => (by cases h)), fun a ha j u hj => ?_⟩
  cases ha
  rw [add_at, Nat.zero_add, h.cell]
  have e : uw [N] = (W4 N).toList := List.append_nil _
  rw [e] at hj
  simpa using hj
theorem aggT26 : AggT Try.prog 26 2 := ⟨⟨_, Try.underlying26, rfl⟩, by kernel_rfl⟩
theorem Oe.one {w : World} {b : Nat} {v : Value} {l : List Nat} (h : Oe w b v l) : v.oneCell' = true := by
  rcases h.2 with ⟨rfl, -⟩ | ⟨g, cap, cur, rfl, -⟩
  · rfl
  · rfl
theorem one2 {k : Int} {v : Value} (h : v.oneCell' = true) : (#[Value.int .i64 k, v] : Array Value).all (·.oneCell') = true := by
  simp [h, show (Value.int IntKind.i64 k).oneCell' = true from rfl]
set_option maxRecDepth 100000 in
set_option maxHeartbeats 16000000 in
theorem new_any (k : Int) (u : Value) (l : List Int) (w : World) (h : Ns w u l) (hL : l.length ≤ 100000) (hl63 : ∀ n ∈ l, n < 9223372036854775808) :
    Calls Try.prog 35 #[.int .i64 k, u] w fun e w' => ∃ v, e = .returned (.agg #[.int .i64 k, v]) ∧ Oe w' w.heap.size v (l.map Int.toNat) ∧ Below w.heap.size w w' := by
  obtain ⟨m, hm⟩ : ∃ m, l.length = m := ⟨_, rfl⟩
  obtain ⟨B, hB⟩ : ∃ B, w.heap.size = B := ⟨_, rfl⟩
  obtain ⟨q, c, rfl, hc⟩ := h
  have HC := Lib.hid (show _ ∧ _ from ⟨hc, hl63⟩)
  rw [hm]
  have hmi : (m : Int) ≤ 100000 := by omega
  clear hc hl63
  go_enter Try.func35, Try.ntmps35
  go_upto_region 2 with (fail)
  refine wp_abs (Mem w [(w.heap.size, 26, #[.int .i64 0, .slice none 0 0]), (w.heap.size + 1, 26, #[.int .i64 k, .slice none 0 0])]) ⟨by go_grown, ?_, ?_, trivial⟩ ?_
  · repeat (first | (refine Row.new_at ?_; simp; done) | refine Row.alloc ?_ _)
  · repeat (first | (refine Row.new_at ?_; simp; done) | refine Row.alloc ?_ _)
  intro w0 hM
  obtain ⟨hl, r4, r5, -⟩ := hM
  simp only [hB] at r4 r5 hl ⊢
  have hB2 := r5.lt
  go_wp2_with fail
  go_loopg [7, 12] m (fun gg s7 s12 wr => ∃ (i : Nat) (v : Value), i + gg = m ∧ s12 = .int .i64 (i : Int) ∧ B + 2 ≤ wr.heap.size ∧ Hid (Row wr B 26 #[.int .i64 0, .slice none 0 0] ∧ Row wr (B + 1) 26 #[.int .i64 k, v] ∧ Oe wr (B + 2) v (nums l i) ∧ Below B w wr))
  case atStart => exact ⟨0, .slice none 0 0, by omega, rfl, hB2, Lib.hid ⟨r4, r5, Oe.nil _ _, hl⟩⟩
  case round =>
    clear r4 r5 hl hB2
    obtain ⟨i, v, him, rfl, hB2, hinv⟩ := hrel
    obtain ⟨r4, r5, ho, hl⟩ := hinv.out
    by_cases hi : i < m
    · have hil : i ≤ l.length := by omega
      obtain ⟨g, o, rfl, hg, hcell⟩ := HC.out.1 (by omega)
      have hc0 := hcell i (by omega)
      have hnl := HC.out.2 _ (List.getElem_mem (show i < l.length by omega))
      have hnx := nums_succ (show i < l.length by omega)
      obtain ⟨n, hn⟩ : ∃ n, l[i]'(by omega) = n := ⟨_, rfl⟩
      rw [hn] at hc0 hnl hnx
      obtain ⟨N, hN⟩ : ∃ N, n.toNat = N := ⟨_, rfl⟩
      rw [hN] at hnx
      replace hnx := Lib.hid hnx.symm
      have c0 : wr.cell? ⟨g, o + i, none⟩ = some (.int .i64 n) := (World.cell?_of_block (hl.block g (by rw [← hB]; exact hg))).trans hc0
      have hlt : (i : Int) < (m : Int) := by omega
      have hown : ∀ b, v.ownBlock = some b → (b = B + 1 ∨ v.ownBlock = some b) ∧ b < wr.heap.size := fun b hb => ⟨.inr hb, (ho.lt b hb).2⟩
      have hvB : ¬ v.ownBlock = some (B + 1) := fun hb => by have := (ho.lt _ hb).1; omega
      have hvB0 : ¬ v.ownBlock = some B := fun hb => by have := (ho.lt _ hb).1; omega
      have wu : IntKind.u64.wrap (N : Int) = (N : Int) := by rw [IntKind.wrap_u64]; omega
      have kof := ofU N (by omega)
      obtain ⟨y0, y1, y2, y3, hW⟩ : ∃ y0 y1 y2 y3 : Int, W4 N = #[.int .u64 y0, .int .u64 y1, .int .u64 y2, .int .u64 y3] := ⟨_, _, _, _, rfl⟩
      rw [hW] at kof
      replace kof := Lib.hid kof
      replace hW := Lib.hid hW.symm
      have hcase : (n < 0 ∧ N = 0) ∨ (0 ≤ n ∧ n = (N : Int)) := by omega
      clear hcell hc0 hn hN hinv hnl
      rcases hcase with ⟨hneg, rfl⟩ | ⟨hpos, rfl⟩
      · go_upto_region 5 with (fail)
        let L : List Sp := [sV 5 [] [] (fun u => u = .agg #[.int .u64 y0, .int .u64 y1, .int .u64 y2, .int .u64 y3]), sL 6 31 [] 1 #[.int .u64 y0, .int .u64 y1, .int .u64 y2, .int .u64 y3], sPz 7 [6] [6] (B + 2) 31 4 v (i + 1) (uw (nums l (i + 1))), sO 9 (B + 1) 26 [7, 6] (fun gh => #[.int .i64 k, (gh 7).v])]
        refine wp_region_six (shs L) (look6 L) (fun c => c = B + 1 ∨ v.ownBlock = some c) (by kernel_rfl) (by kernel_rfl) (mk_St L [7, 9] [7, 9] (by kernel_rfl) (by kernel_rfl) ⟨ok_V ⟨_, rfl⟩, ok_L, ok_Pz (by obtain ⟨_, _, hsl, -⟩ := ho.us; exact ⟨_, _, _, hsl⟩) hown, ok_O (fun g g' h => by rw [h 7 (by simp)]) r5.lt (.inl rfl), trivial⟩ (by intro i hi j hj hne b hb hx; simp only [List.mem_cons, List.not_mem_nil, or_false] at hi hj; rcases hi with rfl | rfl <;> rcases hj with rfl | rfl <;> first | exact absurd rfl hne | (have hb1 : b = B + 1 := hb; have hx1 : v.ownBlock = some b := hx; exact hvB (hb1 ▸ hx1)) | (have hb1 : v.ownBlock = some b := hb; have hx1 : b = B + 1 := hx; exact hvB (hx1 ▸ hb1)))) ?_
        intro QQ hQ
        -- 0: fieldAddr<26> t5.1
        refine stepK rfl (by kernel_rfl) (fun K hK => ?_); go_simp
        apply Exists.intro; apply And.intro; (focus (intro wk hk; go_simp; exact ⟨rfl, rfl⟩)); refine hK _ _ ?_; clear hK K
        -- 1: load<23> *t16
        refine stepK rfl (by kernel_rfl) (fun K hK => ?_); go_simp
        apply Exists.intro; apply And.intro; (focus (intro wk hk; have cc : wk.cell? ⟨B + 1, 1, none⟩ = some v := (K6.Row.tr r5 hk.undrew (by exact id)).cell 1; go_simp; exact ⟨rfl, rfl⟩)); refine hK _ _ ?_; clear hK K
        -- 2: t7
        refine stepK rfl (by kernel_rfl) (fun K hK => ?_); go_simp
        apply Exists.intro; apply And.intro; (focus (intro wk hk; go_simp; exact ⟨rfl, rfl⟩)); refine hK _ _ ?_; clear hK K
        -- 3: call builtin max<3,3>(t18, 0)
        refine stepK rfl (by kernel_rfl) (fun K hK => ?_); go_simp
        apply Exists.intro; apply And.intro; (focus (intro wk hk; go_simp; exact ⟨rfl, rfl⟩)); refine hK _ _ ?_; clear hK K
        -- 4: convert<3->29> t19
        refine stepK rfl (by kernel_rfl) (fun K hK => ?_); go_simp
        apply Exists.intro; apply And.intro; (focus (intro wk hk; go_simp; exact ⟨rfl, rfl⟩)); refine hK _ _ ?_; clear hK K
        -- 5: call F103(t20)
        refine stepS _ rfl (by kernel_rfl) (fun K hK => ?_); go_simp
        refine ⟨?_, ?_⟩
        · intro wk hk hg hu; go_simp; refine upon_enter ((kof.out _).mono ?_); rintro e w' ⟨rfl, hb⟩; exact ⟨_, rfl, left_V (p := fun u => u = .agg #[.int .u64 y0, .int .u64 y1, .int .u64 y2, .int .u64 y3]) rfl (hb) rfl⟩
        rintro ⟨v5, lo5, hi5⟩ - - (rfl : v5 = _)
        refine hK _ _ ?_; clear hK K
        -- 6: buildSlice<23> len 1 0:t21
        refine stepS _ rfl (by kernel_rfl) (fun K hK => ?_); go_simp
        refine ⟨?_, ?_⟩
        · intro wk hk hg hu; go_simp; exact left_L rfl rfl
        rintro ⟨v6, lo6, hi6⟩ hlo6 hhi6 ⟨e6, f6⟩
        replace e6 : v6 = .slice (some ⟨lo6, 0, none⟩) 1 1 := e6; replace f6 : hi6 = lo6 + 1 := f6; replace hlo6 : _ ≤ lo6 := hlo6; subst e6; subst f6
        refine hK _ _ ?_; clear hK K
        -- 7: call builtin append<23,23>(t17, t22)
        refine stepS _ rfl (by kernel_rfl) (fun K hK => ?_); go_simp
        refine ⟨?_, ?_⟩
        · intro wk hk hg hu; have u6 := hu 6 (show 6 ∈ [6] by decide); have r6 : Row wk lo6 31 #[.int .u64 y0, .int .u64 y1, .int .u64 y2, .int .u64 y3] := u6.2; have how : Oe wk (B + 2) v (nums l i) := ho.below hk.undrew.below; obtain ⟨v2, w2, hrun, ho2, hgb, hw2⟩ := appendU_run how (us_row (hW.out ▸ r6 : Row wk lo6 31 (W4 0))) (by rw [nums_len hil]; simp; omega) (by have h2 := hk.undrew.size; have h3 := hB2; omega); rw [hnx.out] at ho2; have ho3 : w2.ownsRow (B + 2) 31 4 v2 (i + 1) (uw (nums l (i + 1))) := (by unfold Oe at ho2; rw [nums_len (by omega)] at ho2; exact ho2); rw [run_append_op rfl rfl rfl hrun]; exact left_Pz rfl rfl hgb ho3 (fun b hb => (ho2.lt b hb).2) hw2
        rintro ⟨v7, lo7, hi7⟩ - - ⟨hG7, q7, m7, c7, rfl⟩
        refine hK _ _ ?_; clear hK K
        -- 8: fieldAddr<26> t5.1
        refine stepKz rfl (fun K hK => ?_); go_simp
        apply Exists.intro; apply And.intro; (focus (intro wk hk; go_simp; exact ⟨rfl, rfl⟩)); refine hK _ _ ?_; clear hK K
        -- 9: store<23> *t24 = t23
        refine stepSx _ [7] (fun c => v.ownBlock = some c) rfl (by kernel_rfl) (by intro i hi b hb; simp only [List.mem_cons, List.not_mem_nil, or_false] at hi; subst hi; exact hb) (fun K hK => ?_); go_simp
        refine ⟨?_, ?_⟩
        · intro wk hk hg hu; have rk := K6.Row.tr r5 hk.undrew (by first | exact id | (intro hc; exact hvB hc)); have cc := rk.cell 1; have ff := rk.frozen 1; go_simp; exact left_O (l := L) (s := (sO 9 (B + 1) 26 [7, 6] (fun gh => #[.int .i64 k, (gh 7).v])).1) rfl rfl (by decide) (fun g g' h => by rw [h 7 (by simp)]) (fun c hc => Below.heap_setCell _ _ _ _ hc) rfl rfl rfl (by simp) (Row.congr (rk.set 1 _) rfl)
        rintro ⟨v9, lo9, hi9⟩ - - (rfl : v9 = undef)
        refine hK _ _ ?_; clear hK K
        refine stepN ?_
        refine hQ _ _ ?_
        intro w1 hT hG hF
        have hT9 := hT.undrew
        have hf7 : Grew v ⟨.slice q7 m7 c7, lo7, hi7⟩ ∧ w1.ownsRow (B + 2) 31 4 (.slice q7 m7 c7) (i + 1) (uw (nums l (i + 1))) := hF 7 _ rfl rfl (by decide)
        have r5' : Row w1 (B + 1) 26 #[.int .i64 k, .slice q7 m7 c7] := hF 9 _ rfl rfl (by decide)
        have ho7 : Oe w1 (B + 2) (.slice q7 m7 c7) (nums l (i + 1)) := by unfold Oe; rw [nums_len (by omega)]; exact hf7.2
        have H := Lib.hid (show Row w1 B 26 #[.int .i64 0, .slice none 0 0] ∧ Row w1 (B + 1) 26 #[.int .i64 k, .slice q7 m7 c7] ∧ Oe w1 (B + 2) (.slice q7 m7 c7) (nums l (i + 1)) ∧ Below B w w1 from ⟨K6.Row.tr r4 hT9 (by intro hc; rcases hc with hc | hc; omega; exact hvB0 hc), r5', ho7, hl.trans (hT9.below_of (by omega) (by intro c hc; rcases hc with hc | hc; omega; have := (ho.lt c hc).1; omega))⟩)
        have hsz := hT9.size
        clear hT hT9 hG hF hQ QQ hG7 L hf7 r5' ho7 r4 r5 ho hl
        go_wp2_with fail
        go_roundg (gk - 1)
        case measure => omega
        case rel => exact ⟨i + 1, .slice q7 m7 c7, by omega, by go_num, by omega, H⟩
      · have hneg : ¬ (N : Int) < 0 := by omega
        go_upto_region 5 with (fail)
        let L : List Sp := [sV 5 [] [] (fun u => u = .agg #[.int .u64 y0, .int .u64 y1, .int .u64 y2, .int .u64 y3]), sL 6 31 [] 1 #[.int .u64 y0, .int .u64 y1, .int .u64 y2, .int .u64 y3], sPz 7 [6] [6] (B + 2) 31 4 v (i + 1) (uw (nums l (i + 1))), sO 9 (B + 1) 26 [7, 6] (fun gh => #[.int .i64 k, (gh 7).v])]
        refine wp_region_six (shs L) (look6 L) (fun c => c = B + 1 ∨ v.ownBlock = some c) (by kernel_rfl) (by kernel_rfl) (mk_St L [7, 9] [7, 9] (by kernel_rfl) (by kernel_rfl) ⟨ok_V ⟨_, rfl⟩, ok_L, ok_Pz (by obtain ⟨_, _, hsl, -⟩ := ho.us; exact ⟨_, _, _, hsl⟩) hown, ok_O (fun g g' h => by rw [h 7 (by simp)]) r5.lt (.inl rfl), trivial⟩ (by intro i hi j hj hne b hb hx; simp only [List.mem_cons, List.not_mem_nil, or_false] at hi hj; rcases hi with rfl | rfl <;> rcases hj with rfl | rfl <;> first | exact absurd rfl hne | (have hb1 : b = B + 1 := hb; have hx1 : v.ownBlock = some b := hx; exact hvB (hb1 ▸ hx1)) | (have hb1 : v.ownBlock = some b := hb; have hx1 : b = B + 1 := hx; exact hvB (hx1 ▸ hb1)))) ?_
        intro QQ hQ
        -- 0: fieldAddr<26> t5.1
        refine stepK rfl (by kernel_rfl) (fun K hK => ?_); go_simp
        apply Exists.intro; apply And.intro; (focus (intro wk hk; go_simp; exact ⟨rfl, rfl⟩)); refine hK _ _ ?_; clear hK K
        -- 1: load<23> *t16
        refine stepK rfl (by kernel_rfl) (fun K hK => ?_); go_simp
        apply Exists.intro; apply And.intro; (focus (intro wk hk; have cc : wk.cell? ⟨B + 1, 1, none⟩ = some v := (K6.Row.tr r5 hk.undrew (by exact id)).cell 1; go_simp; exact ⟨rfl, rfl⟩)); refine hK _ _ ?_; clear hK K
        -- 2: t7
        refine stepK rfl (by kernel_rfl) (fun K hK => ?_); go_simp
        apply Exists.intro; apply And.intro; (focus (intro wk hk; go_simp; exact ⟨rfl, rfl⟩)); refine hK _ _ ?_; clear hK K
        -- 3: call builtin max<3,3>(t18, 0)
        refine stepK rfl (by kernel_rfl) (fun K hK => ?_); go_simp
        apply Exists.intro; apply And.intro; (focus (intro wk hk; go_simp; exact ⟨rfl, rfl⟩)); refine hK _ _ ?_; clear hK K
        -- 4: convert<3->29> t19
        refine stepK rfl (by kernel_rfl) (fun K hK => ?_); go_simp
        apply Exists.intro; apply And.intro; (focus (intro wk hk; go_simp; exact ⟨rfl, rfl⟩)); refine hK _ _ ?_; clear hK K
        -- 5: call F103(t20)
        refine stepS _ rfl (by kernel_rfl) (fun K hK => ?_); go_simp
        refine ⟨?_, ?_⟩
        · intro wk hk hg hu; go_simp; refine upon_enter ((kof.out _).mono ?_); rintro e w' ⟨rfl, hb⟩; exact ⟨_, rfl, left_V (p := fun u => u = .agg #[.int .u64 y0, .int .u64 y1, .int .u64 y2, .int .u64 y3]) rfl (hb) rfl⟩
        rintro ⟨v5, lo5, hi5⟩ - - (rfl : v5 = _)
        refine hK _ _ ?_; clear hK K
        -- 6: buildSlice<23> len 1 0:t21
        refine stepS _ rfl (by kernel_rfl) (fun K hK => ?_); go_simp
        refine ⟨?_, ?_⟩
        · intro wk hk hg hu; go_simp; exact left_L rfl rfl
        rintro ⟨v6, lo6, hi6⟩ hlo6 hhi6 ⟨e6, f6⟩
        replace e6 : v6 = .slice (some ⟨lo6, 0, none⟩) 1 1 := e6; replace f6 : hi6 = lo6 + 1 := f6; replace hlo6 : _ ≤ lo6 := hlo6; subst e6; subst f6
        refine hK _ _ ?_; clear hK K
        -- 7: call builtin append<23,23>(t17, t22)
        refine stepS _ rfl (by kernel_rfl) (fun K hK => ?_); go_simp
        refine ⟨?_, ?_⟩
        · intro wk hk hg hu; have u6 := hu 6 (show 6 ∈ [6] by decide); have r6 : Row wk lo6 31 #[.int .u64 y0, .int .u64 y1, .int .u64 y2, .int .u64 y3] := u6.2; have how : Oe wk (B + 2) v (nums l i) := ho.below hk.undrew.below; obtain ⟨v2, w2, hrun, ho2, hgb, hw2⟩ := appendU_run how (us_row (hW.out ▸ r6 : Row wk lo6 31 (W4 N))) (by rw [nums_len hil]; simp; omega) (by have h2 := hk.undrew.size; have h3 := hB2; omega); rw [hnx.out] at ho2; have ho3 : w2.ownsRow (B + 2) 31 4 v2 (i + 1) (uw (nums l (i + 1))) := (by unfold Oe at ho2; rw [nums_len (by omega)] at ho2; exact ho2); rw [run_append_op rfl rfl rfl hrun]; exact left_Pz rfl rfl hgb ho3 (fun b hb => (ho2.lt b hb).2) hw2
        rintro ⟨v7, lo7, hi7⟩ - - ⟨hG7, q7, m7, c7, rfl⟩
        refine hK _ _ ?_; clear hK K
        -- 8: fieldAddr<26> t5.1
        refine stepKz rfl (fun K hK => ?_); go_simp
        apply Exists.intro; apply And.intro; (focus (intro wk hk; go_simp; exact ⟨rfl, rfl⟩)); refine hK _ _ ?_; clear hK K
        -- 9: store<23> *t24 = t23
        refine stepSx _ [7] (fun c => v.ownBlock = some c) rfl (by kernel_rfl) (by intro i hi b hb; simp only [List.mem_cons, List.not_mem_nil, or_false] at hi; subst hi; exact hb) (fun K hK => ?_); go_simp
        refine ⟨?_, ?_⟩
        · intro wk hk hg hu; have rk := K6.Row.tr r5 hk.undrew (by first | exact id | (intro hc; exact hvB hc)); have cc := rk.cell 1; have ff := rk.frozen 1; go_simp; exact left_O (l := L) (s := (sO 9 (B + 1) 26 [7, 6] (fun gh => #[.int .i64 k, (gh 7).v])).1) rfl rfl (by decide) (fun g g' h => by rw [h 7 (by simp)]) (fun c hc => Below.heap_setCell _ _ _ _ hc) rfl rfl rfl (by simp) (Row.congr (rk.set 1 _) rfl)
        rintro ⟨v9, lo9, hi9⟩ - - (rfl : v9 = undef)
        refine hK _ _ ?_; clear hK K
        refine stepN ?_
        refine hQ _ _ ?_
        intro w1 hT hG hF
        have hT9 := hT.undrew
        have hf7 : Grew v ⟨.slice q7 m7 c7, lo7, hi7⟩ ∧ w1.ownsRow (B + 2) 31 4 (.slice q7 m7 c7) (i + 1) (uw (nums l (i + 1))) := hF 7 _ rfl rfl (by decide)
        have r5' : Row w1 (B + 1) 26 #[.int .i64 k, .slice q7 m7 c7] := hF 9 _ rfl rfl (by decide)
        have ho7 : Oe w1 (B + 2) (.slice q7 m7 c7) (nums l (i + 1)) := by unfold Oe; rw [nums_len (by omega)]; exact hf7.2
        have H := Lib.hid (show Row w1 B 26 #[.int .i64 0, .slice none 0 0] ∧ Row w1 (B + 1) 26 #[.int .i64 k, .slice q7 m7 c7] ∧ Oe w1 (B + 2) (.slice q7 m7 c7) (nums l (i + 1)) ∧ Below B w w1 from ⟨K6.Row.tr r4 hT9 (by intro hc; rcases hc with hc | hc; omega; exact hvB0 hc), r5', ho7, hl.trans (hT9.below_of (by omega) (by intro c hc; rcases hc with hc | hc; omega; have := (ho.lt c hc).1; omega))⟩)
        have hsz := hT9.size
        clear hT hT9 hG hF hQ QQ hG7 L hf7 r5' ho7 r4 r5 ho hl
        go_wp2_with fail
        go_roundg (gk - 1)
        case measure => omega
        case rel => exact ⟨i + 1, .slice q7 m7 c7, by omega, by go_num, by omega, H⟩
    · obtain rfl : i = m := by omega
      have hlt : ¬ (i : Int) < (i : Int) := by omega
      have hf : nums l i = l.map Int.toNat := by unfold nums; rw [List.take_of_length_le (by omega)]
      rw [hf] at ho
      have hone : (#[Value.int .i64 k, v] : Array Value).all (·.oneCell') = true := one2 ho.one
      have H := Lib.hid (show _ ∧ _ from ⟨ho, hl⟩)
      have hvB0 : ¬ v.ownBlock = some B := fun hb => by have := (ho.lt _ hb).1; omega
      clear hf ho hinv
      go_upto_region 7 with (fail)
      let L : List Sp := [sO 1 (B) 26 [0] (fun g => aggOf g 0)]
      refine wp_region_six0 (shs L) (look6 L) (fun c => c = B) (by kernel_rfl) (by kernel_rfl) (mk_St L [1] [1] (by kernel_rfl) (by kernel_rfl) ⟨ok_O aggOf_congr r4.lt (rfl), trivial⟩ (by simp)) ?_
      intro QQ hQ
      -- 0: load<26> *t5
      refine stepK rfl (by kernel_rfl) (fun K hK => ?_); go_simp
      apply Exists.intro; apply And.intro; (focus exact kLoad rfl rfl aggT26 r5 rfl id); refine hK _ _ ?_; clear hK K
      -- 1: store<26> *t4 = t26
      refine stepS _ rfl (by kernel_rfl) (fun K hK => ?_); go_simp
      refine ⟨?_, ?_⟩
      · exact sStoreO rfl rfl rfl rfl rfl rfl r4 id (by kernel_rfl) rfl hone (by decide) aggOf_congr
      rintro ⟨v1, lo1, hi1⟩ - - (rfl : v1 = undef)
      refine hK _ _ ?_; clear hK K
      refine stepN ?_
      refine hQ _ _ ?_
      intro w9 hT hG hF
      have x0 : Row w9 B 26 (#[.int .i64 k, v]) := hF 1 _ rfl rfl (by decide)
      have ho9 := H.out.1.keep hT (fun b hb hc => hvB0 (by have hc' : b = B := hc; rw [← hc']; exact hb))
      have hl9 : Below w.heap.size w w9 := by
        rw [hB]
        exact H.out.2.trans (hT.below_of (by omega) (by intro c hc; have hc' : c = B := hc; omega))
      clear hT hG hF hQ QQ L
      go_wp2_with fail
      refine bodyPost_ret (results_c rfl aggT26 rfl x0 rfl) rfl ?_
      exact ⟨v, rfl, by first | exact ho9.base (by omega) | (rw [hB]; exact ho9.base (by omega)), by first | exact hl9 | (rw [← hB]; exact hl9)⟩
end Go.Proofs.Ytpdenhmkpiafiaa
