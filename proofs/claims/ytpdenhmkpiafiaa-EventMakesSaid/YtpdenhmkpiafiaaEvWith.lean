/-
  slices.Grow (229), slices.Concat (156), event.With (36).
-/
import Derived.Test.YtpdenhmkpiafiaaEvNew
import Derived.Test.YtpdenhmkpiafiaaOctVar
import Derived.Shelf.Spec.SlicesGrow
namespace Go.Proofs.Ytpdenhmkpiafiaa
open Go Go.RowKit Go.Shelf K6

def grow_ren : Go.Shelf.Ren := ⟨fun | 4 => 229 | n => n, fun | 22 => 23 | 25 => 31 | n => n, fun n => n⟩
theorem grow_lays : Lays8.n4 Try.prog grow_ren := {
  mixed := by kernel_rfl
  f4 := ⟨Try.f229.name, by kernel_rfl, by kernel_rfl⟩
  t0 := by kernel_rfl
  a0 := fun _ => by kernel_rfl
  z0 := fun _ => by kernel_rfl
  v0 := fun _ => by kernel_rfl
  t3 := by kernel_rfl
  a3 := fun _ => by kernel_rfl
  z3 := fun _ => by kernel_rfl
  v3 := fun _ => by kernel_rfl
  t4 := by kernel_rfl
  a4 := fun _ => by kernel_rfl
  z4 := fun _ => by kernel_rfl
  v4 := fun _ => by kernel_rfl
  t9 := by kernel_rfl
  a9 := fun _ => by kernel_rfl
  z9 := fun _ => by kernel_rfl
  v9 := fun _ => by kernel_rfl
  t20 := by kernel_rfl
  a20 := fun _ => by kernel_rfl
  z20 := fun _ => by kernel_rfl
  v20 := fun _ => by kernel_rfl
  t22 := by kernel_rfl
  a22 := fun _ => by kernel_rfl
  z22 := fun _ => by kernel_rfl
  v22 := fun _ => by kernel_rfl }
set_option maxRecDepth 100000 in
theorem grow_at (n : Nat) (w : World) (hn : n ≤ 1000000) : Calls Try.prog 229 #[.slice none 0 0, .int .i64 n] w fun e w' => ∃ x, e = .returned x ∧ Oe w' w.heap.size x [] ∧ Below w.heap.size w w' := by
  by_cases h0 : n = 0
  · subst h0
    refine (Any8.slices_Grow_room grow_lays none 0 0 0 w (by omega) (by omega) (by omega) (by omega)).mono ?_
    rintro e w' ⟨rfl, rfl⟩
    exact ⟨_, rfl, Oe.nil _ _, Below.refl _ _⟩
  · obtain ⟨i0, hi, hz, hs, hb⟩ : ∃ i0, Try.prog.info? 31 = some i0 ∧ i0.zero = some (.agg #[.int .u64 0, .int .u64 0, .int .u64 0, .int .u64 0]) ∧ i0.size = 4 ∧ i0.bytes = 32 := ⟨_, rfl, rfl, rfl, rfl⟩
    refine (Any8.slices_Grow_grow grow_lays i0 _ hi hz (by first | omega | (rw [hb]; omega)) none 0 0 n [] w (by first | omega | (rw [hb]; omega)) (by first | omega | (rw [hb]; omega)) (by first | omega | (rw [hb]; omega)) (by first | omega | (rw [hb]; omega)) (by simp) (fun _ => rfl) (fun _ h => (by cases h))).mono ?_
    rintro e w' ⟨rfl, rfl⟩
    refine ⟨_, rfl, ⟨rfl, .inr ⟨w.heap.size, _, _, rfl, Nat.le_refl _, Go.heap_alloc_new w.drew _, Nat.zero_le _, grownCap_le_maxLen _ _ _ _ (by unfold maxLen; omega), ?_, rfl⟩⟩, (Below.refl _ _).drew.alloc (Nat.le_refl _) _⟩
    have hg := grownCap_ge w (0 + n) 0 (grow_ren.t 25)
    have hz1 : (Value.agg #[.int .u64 0, .int .u64 0, .int .u64 0, .int .u64 0]).cells.size = 4 := rfl
    simp only [Array.size_append, List.size_toArray, size_zeroCells, hz1, List.length_nil]
    omega
set_option maxRecDepth 100000 in
set_option maxHeartbeats 16000000 in
theorem concat_at (b : Nat) (u v : Value) (l a : List Nat) (w : World) (hr : Row w b 23 #[u, v]) (hu : Us w u l) (hv : Us w v a) (hL : l.length + a.length ≤ 1000000) :
    Calls Try.prog 156 #[.slice (some ⟨b, 0, none⟩) 2 2] w fun e w' => ∃ x, e = .returned x ∧ Oe w' w.heap.size x (l ++ a) ∧ Below w.heap.size w w' := by
  have HC := Lib.hid (show _ ∧ _ ∧ _ from ⟨hr, hu, hv⟩)
  have c0 := hr.cell 0
  have c1 := hr.cell 1
  have hbl := hr.lt
  clear hr
  obtain ⟨q1, k1, rfl, -, -⟩ := hu
  obtain ⟨q2, k2, rfl, -, -⟩ := hv
  obtain ⟨n1, hn1⟩ : ∃ n, l.length = n := ⟨_, rfl⟩
  obtain ⟨n2, hn2⟩ : ∃ n, a.length = n := ⟨_, rfl⟩
  obtain ⟨N, hN⟩ : ∃ N, N = n1 + n2 := ⟨_, rfl⟩
  rw [hn1] at HC c0
  rw [hn2] at HC c1
  have hi1 : (n1 : Int) ≤ 1000000 := by omega
  have hi2 : (n2 : Int) ≤ 1000000 := by omega
  have hNi : (N : Int) ≤ 1000000 := by omega
  replace hL := Lib.hid (show _ ∧ _ ∧ _ from ⟨hL, hn1, hn2⟩)
  have hNN := Lib.hid hN
  clear hn1 hn2 hN
  go_enter Try.func156, Try.ntmps156
  go_wp2_with fail
  go_loopg [3, 5, 11] 2 (fun gg s3 s5 s11 wr => wr = w ∧ ((gg = 2 ∧ s11 = .int .i64 0 ∧ s3 = .int .i64 0) ∨ (gg = 1 ∧ s11 = .int .i64 1 ∧ s3 = .int .i64 (n1 : Int)) ∨ (gg = 0 ∧ s11 = .int .i64 2 ∧ s3 = .int .i64 (N : Int))))
  case atStart => exact ⟨rfl, .inl ⟨rfl, rfl, rfl⟩⟩
  case round =>
    obtain ⟨hw, hrel⟩ := hrel
    replace hw := hw.symm
    subst hw
    rcases hrel with ⟨rfl, rfl, rfl⟩ | ⟨rfl, rfl, rfl⟩ | ⟨rfl, rfl, rfl⟩
    · go_wp2_with fail
      go_roundg 1
      case measure => omega
      case rel => exact ⟨rfl, .inr (.inl ⟨rfl, by go_num, by go_num⟩)⟩
    · go_wp2_with fail
      go_roundg 0
      case measure => omega
      case rel => exact ⟨rfl, .inr (.inr ⟨rfl, by go_num, by have hN := hNN.out; subst hN; go_num⟩)⟩
    · go_wp2_with fail
      refine (grow_at N _ (by omega)).mono ?_
      rintro e w1 ⟨x0, rfl, ho0, hb0⟩
      have H0 := Lib.hid (show _ ∧ _ from ⟨ho0, hb0⟩)
      have hs1 := hb0.size
      clear ho0 hb0
      go_wp2_with fail
      go_loopg [6, 8, 27] 2 (fun gg s6 s8 s27 wr => (gg = 2 ∧ s27 = .int .i64 0 ∧ Hid (Oe wr w.heap.size s6 [] ∧ Below w.heap.size w wr)) ∨ (gg = 1 ∧ s27 = .int .i64 1 ∧ Hid (Oe wr w.heap.size s6 l ∧ Below w.heap.size w wr)) ∨ (gg = 0 ∧ s27 = .int .i64 2 ∧ Hid (Oe wr w.heap.size s6 (l ++ a) ∧ Below w.heap.size w wr)))
      case atStart => exact .inl ⟨rfl, rfl, Lib.hid ⟨H0.out.1, H0.out.2⟩⟩
      case round =>
        have key : ∀ (wr : World) (s6 u : Value) (k m : List Nat), Oe wr w.heap.size s6 k → Below w.heap.size w wr → Us w u m → k.length + m.length ≤ 1000000 → ∃ v' w', (Builtin.append_ #[23, 23] 23 #[s6, u]).run Try.prog wr = .ok v' w' ∧ Hid (Oe w' w.heap.size v' (k ++ m) ∧ Below w.heap.size w w') := by
          intro wr s6 u k m ho hb hu hL
          obtain ⟨v', w', hrun, ho2, hg, -⟩ := appendU_run ho (hu.below hb) (by omega) hb.size
          refine ⟨v', w', hrun, Lib.hid ⟨ho2, ?_⟩⟩
          exact hb.trans ⟨hg.os, hg.tape, hg.output, hg.size, fun k hk => hg.block k (Nat.lt_of_lt_of_le hk hb.size) (fun e => by have := (ho.lt k e.symm).1; omega)⟩
        rcases hrel with ⟨rfl, rfl, hh⟩ | ⟨rfl, rfl, hh⟩ | ⟨rfl, rfl, hh⟩
        · have d0 : wr.cell? ⟨b, 0, none⟩ = some (.slice q1 n1 k1) := (World.cell?_of_block (hh.out.2.block b hbl)).trans c0
          obtain ⟨v', w', hrun, h2⟩ := key wr u6 _ [] l hh.out.1 hh.out.2 HC.out.2.1 (by have := hL.out.1; simp; omega)
          clear key
          go_wp2_with (at_builtin; refine wpList_app rfl rfl rfl rfl hrun ?_)
          go_roundg 1
          case measure => omega
          case rel => exact .inr (.inl ⟨rfl, by go_num, h2⟩)
        · have d1 : wr.cell? ⟨b, 1, none⟩ = some (.slice q2 n2 k2) := (World.cell?_of_block (hh.out.2.block b hbl)).trans c1
          obtain ⟨v', w', hrun, h2⟩ := key wr u6 _ l a hh.out.1 hh.out.2 HC.out.2.2 hL.out.1
          clear key
          go_wp2_with (at_builtin; refine wpList_app rfl rfl rfl rfl hrun ?_)
          go_roundg 0
          case measure => omega
          case rel => exact .inr (.inr ⟨rfl, by go_num, h2⟩)
        · clear key
          go_wp2_with fail
          go_ret
          exact ⟨_, rfl, hh.out.1, hh.out.2⟩
set_option maxRecDepth 100000 in
set_option maxHeartbeats 16000000 in
theorem with_any (k : Int) (u v : Value) (l a : List Nat) (w : World) (hu : Us w u l) (hv : Us w v a) (hL : l.length + a.length ≤ 1000000) :
    Calls Try.prog 36 #[.agg #[.int .i64 k, u], v] w fun e w' => ∃ x, e = .returned (.agg #[.int .i64 k, x]) ∧ Oe w' w.heap.size x (l ++ a) ∧ Below w.heap.size w w' := by
  have HL := Lib.hid hL
  have HC := Lib.hid (show _ ∧ _ ∧ _ from ⟨hu, hv, hL⟩)
  obtain ⟨q1, k1, rfl, -, -⟩ := hu
  obtain ⟨q2, k2, rfl, -, -⟩ := hv
  obtain ⟨n1, hn1⟩ : ∃ n, l.length = n := ⟨_, rfl⟩
  obtain ⟨n2, hn2⟩ : ∃ n, a.length = n := ⟨_, rfl⟩
  obtain ⟨B, hB⟩ : ∃ B, w.heap.size = B := ⟨_, rfl⟩
  rw [hn1, hn2] at HC
  rw [hn1, hn2]
  clear hn1 hn2 hL
  go_enter Try.func36, Try.ntmps36
  go_upto_region 1 with (fail)
  refine wp_abs (Mem w [(w.heap.size, 26, #[.int .i64 k, .slice q1 n1 k1]), (w.heap.size + 1, 26, #[.int .i64 0, .slice none 0 0])]) ⟨by go_grown, ?_, ?_, trivial⟩ ?_
  · repeat (first | (refine Row.new_at ?_; simp; done) | refine Row.alloc ?_ _)
  · repeat (first | (refine Row.new_at ?_; simp; done) | refine Row.alloc ?_ _)
  intro w0 hM
  obtain ⟨hl, r4, r5, -⟩ := hM
  simp only [hB] at r4 r5 hl ⊢
  have c1 := r4.cell 1
  have hB2 := r5.lt
  have H0 := Lib.hid (show _ ∧ _ ∧ _ from ⟨hl, r4, r5⟩)
  clear r4 r5 hl
  go_wp2_with fail
  have hal : Below w0.heap.size w0 (w0.alloc (.cells #[.slice q1 n1 k1, .slice q2 n2 k2] 23)) := (Below.refl _ _).alloc (Nat.le_refl _) _
  refine (concat_at _ _ _ l a _ (Row.new_at rfl) ((HC.out.1.below (hB ▸ H0.out.1)).below hal) ((HC.out.2.1.below (hB ▸ H0.out.1)).below hal) HL.out).mono ?_
  rintro e w1 ⟨x, rfl, ho, hb1⟩
  obtain ⟨N, hN⟩ : ∃ N, (l ++ a).length = N := ⟨_, rfl⟩
  obtain ⟨qx, cx, hx, -, -⟩ := ho.us
  rw [hN] at hx
  subst hx
  clear hN
  have hb01 := hal.trans (hb1.mono hal.size)
  have r4 := H0.out.2.1.below hb01 H0.out.2.1.lt
  have r5 := H0.out.2.2.below hb01 H0.out.2.2.lt
  have hl := H0.out.1.trans (hb01.mono (by omega))
  have ho1 := ho.base (b' := B + 2) (by have := hal.size; omega)
  have hone := one2 (k := k) ho1.one
  clear hal hb1 ho H0 hb01 c1
  have c1 := r4.cell 1
  have f1 := r4.frozen 1
  have H1 := Lib.hid (show _ ∧ _ ∧ _ ∧ _ from ⟨hl, r4, r5, ho1⟩)
  clear hl r4 r5 ho1
  go_upto_region 2 with (fail)
  have hvB0 : ¬ (Value.slice qx N cx).ownBlock = some B := fun hb => by have := (H1.out.2.2.2.lt _ hb).1; omega
  have hvB1 : ¬ (Value.slice qx N cx).ownBlock = some (B + 1) := fun hb => by have := (H1.out.2.2.2.lt _ hb).1; omega
  have hT : Tr (fun c => c = B) w1 (w1.setCell ⟨B, 1, none⟩ (.slice qx N cx)) := ⟨rfl, rfl, rfl, by simp, fun c hc hx => Below.heap_setCell _ _ _ _ (fun e => hx e)⟩
  refine wp_abs (fun wx => Below B w wx ∧ Row wx B 26 #[.int .i64 k, .slice qx N cx] ∧ Row wx (B + 1) 26 #[.int .i64 0, .slice none 0 0] ∧ Oe wx (B + 2) (.slice qx N cx) (l ++ a)) ⟨H1.out.1.trans (hT.below_of (by have := H1.out.1.size; omega) (by intro c hc; have hc' : c = B := hc; omega)), Row.congr (H1.out.2.1.set 1 _) rfl, K6.Row.tr H1.out.2.2.1 hT (by intro hc; have hc' : B + 1 = B := hc; omega), H1.out.2.2.2.keep hT (fun c hb hc => hvB0 (by have hc' : c = B := hc; rw [← hc']; exact hb))⟩ ?_
  clear hT H1 c1 f1
  rintro w2 ⟨hl, r4, r5, ho⟩
  have H := Lib.hid (show _ ∧ _ from ⟨ho, hl⟩)
  clear ho hl
  let L : List Sp := [sO 1 (B + 1) 26 [0] (fun g => aggOf g 0)]
  refine wp_region_six0 (shs L) (look6 L) (fun c => c = B + 1) (by kernel_rfl) (by kernel_rfl) (mk_St L [1] [1] (by kernel_rfl) (by kernel_rfl) ⟨ok_O aggOf_congr r5.lt (rfl), trivial⟩ (by simp)) ?_
  intro QQ hQ
  -- 0: load<26> *t2
  refine stepK rfl (by kernel_rfl) (fun K hK => ?_); go_simp
  apply Exists.intro; apply And.intro; (focus exact kLoad rfl rfl aggT26 r4 rfl id); refine hK _ _ ?_; clear hK K
  -- 1: store<26> *t4 = t11
  refine stepS _ rfl (by kernel_rfl) (fun K hK => ?_); go_simp
  refine ⟨?_, ?_⟩
  · exact sStoreO rfl rfl rfl rfl rfl rfl r5 id (by kernel_rfl) rfl hone (by decide) aggOf_congr
  rintro ⟨v1, lo1, hi1⟩ - - (rfl : v1 = undef)
  refine hK _ _ ?_; clear hK K
  refine stepN ?_
  refine hQ _ _ ?_
  intro w9 hT hG hF
  have x0 : Row w9 (B + 1) 26 (#[.int .i64 k, .slice qx N cx]) := hF 1 _ rfl rfl (by decide)
  have ho9 := H.out.1.keep hT (fun b hb hc => hvB1 (by have hc' : b = B + 1 := hc; rw [← hc']; exact hb))
  have hl9 : Below w.heap.size w w9 := by
    rw [hB]
    exact H.out.2.trans (hT.below_of (by have := H.out.2.size; omega) (by intro c hc; have hc' : c = B + 1 := hc; omega))
  clear hT hG hF hQ QQ L
  go_wp2_with fail
  refine bodyPost_ret (results_c rfl aggT26 rfl x0 rfl) rfl ?_
  exact ⟨_, rfl, by rw [hB]; exact ho9.base (by omega), hl9⟩
end Go.Proofs.Ytpdenhmkpiafiaa
