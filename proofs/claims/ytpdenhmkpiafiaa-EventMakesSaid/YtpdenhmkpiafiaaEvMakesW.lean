/-
  tallagelaw14.EventMakes, THE WALK.
-/
import Derived.Test.YtpdenhmkpiafiaaEvText
import Derived.Test.YtpdenhmkpiafiaaEvWith
import Derived.Test.YtpdenhmkpiafiaaGA
namespace Go.Proofs.Ytpdenhmkpiafiaa
open Go Go.RowKit K6

theorem Oe.sl {w : World} {b : Nat} {v : Value} {l : List Nat} (h : Oe w b v l) : ∃ q c, v = .slice q l.length c := by
  obtain ⟨q, c, h, -⟩ := h.us
  exact ⟨q, c, h⟩
theorem eqU_self (x : Nat) (w : World) : (Op.equalIn 10000 31 (.agg (W4 x)) (.agg (W4 x))).run Try.prog w = .ok true w := by
  unfold W4
  rw [eq31]
  simp
structure MkI (w wr : World) (B b7 b8 b9 : Nat) (k : Int) (x y z : Value) (l a : List Nat) : Prop where
  lb : Below B w wr
  r7 : Row wr b7 26 #[.int .i64 k, x]
  r8 : Row wr b8 26 #[.int .i64 k, y]
  r9 : Row wr b9 26 #[.int .i64 k, z]
  ux : Us wr x l
  uy : Us wr y (l ++ a)
  uz : Us wr z ((l ++ a) ++ a)
theorem MkI.below {w wr w' : World} {B b7 b8 b9 : Nat} {k : Int} {x y z : Value} {l a : List Nat} (h : MkI w wr B b7 b8 b9 k x y z l a) (hb : Below wr.heap.size wr w') (hB : B ≤ wr.heap.size) : MkI w w' B b7 b8 b9 k x y z l a :=
  ⟨h.lb.trans (hb.mono hB), h.r7.below hb h.r7.lt, h.r8.below hb h.r8.lt, h.r9.below hb h.r9.lt, h.ux.below hb, h.uy.below hb, h.uz.below hb⟩
theorem Ns.elem {w wr : World} {u : Value} {l : List Int} (h : Ns w u l) (hb : Below w.heap.size w wr) {i : Nat} {n : Int} (hn : l[i]? = some n) : ∃ g o c, u = .slice (some ⟨g, o, none⟩) l.length c ∧ wr.cell? ⟨g, o + i, none⟩ = some (.int .i64 n) := by
  obtain ⟨hi, rfl⟩ := List.getElem?_eq_some_iff.1 hn
  obtain ⟨q, c, rfl, h⟩ := h
  obtain ⟨g, o, rfl, hg, hc⟩ := h (by omega)
  exact ⟨g, o, c, rfl, (World.cell?_of_block (hb.block g hg)).trans (hc i hi)⟩
set_option maxRecDepth 100000 in
set_option maxHeartbeats 32000000 in
theorem makes_walk (k : Int) (u v : Value) (l : List Int) (a : List Nat) (w : World) (hN : Ns w u l) (hU : Us w v a) (hl63 : ∀ n ∈ l, n < 9223372036854775808) :
    Calls Try.prog 3 #[.int .i64 k, u, v] w fun e w' => e = .returned (.bool true) ∧ Below w.heap.size w w' := by
  have HN := Lib.hid hN
  have HU := Lib.hid hU
  have HL := Lib.hid hl63
  clear hl63
  obtain ⟨qn, cn, rfl, -⟩ := hN
  obtain ⟨qa, ca, rfl, -, -⟩ := hU
  obtain ⟨n1, hn1⟩ : ∃ n, l.length = n := ⟨_, rfl⟩
  obtain ⟨n2, hn2⟩ : ∃ n, a.length = n := ⟨_, rfl⟩
  rw [hn1] at HN ⊢
  rw [hn2] at HU ⊢
  have lv := Lib.hid fun wx => lives14U wx
  by_cases h1 : (50 : Int) < (n1 : Int)
  · go_enter Try.func3, Try.ntmps3
    go_wp2_with fail
    refine (lv.out _).mono ?_
    rintro e w1 ⟨rfl, hb⟩
    go_wp2_with fail
    go_ret
    exact ⟨rfl, hb⟩
  by_cases h2 : (50 : Int) < (n2 : Int)
  · go_enter Try.func3, Try.ntmps3
    go_wp2_with fail
    refine (lv.out _).mono ?_
    rintro e w1 ⟨rfl, hb⟩
    go_wp2_with fail
    go_ret
    exact ⟨rfl, hb⟩
  have hi1 : (n1 : Int) ≤ 50 := by omega
  have hi2 : (n2 : Int) ≤ 50 := by omega
  obtain ⟨B, hB⟩ : ∃ B, w.heap.size = B := ⟨_, rfl⟩
  obtain ⟨L, hL⟩ : ∃ L, l.map Int.toNat = L := ⟨_, rfl⟩
  have hLn : L.length = n1 := by rw [← hL, List.length_map, hn1]
  obtain ⟨N2, hN2⟩ : ∃ N, N = n1 + n2 := ⟨_, rfl⟩
  obtain ⟨D, hD⟩ : ∃ N, N = 2 * n2 := ⟨_, rfl⟩
  obtain ⟨N3, hN3⟩ : ∃ N, N = N2 + n2 := ⟨_, rfl⟩
  have hy2 : (L ++ a).length = N2 := by rw [List.length_append, hLn, hn2, hN2]
  have hz2 : ((L ++ a) ++ a).length = N3 := by rw [List.length_append, hy2, hn2, hN3]
  have hall := Lib.hid (show _ ∧ _ ∧ _ ∧ _ ∧ _ ∧ _ from ⟨hn1, hn2, hL, hLn, hy2, hz2⟩)
  have hM1 := Lib.hid (new_any k _ l w (hn1 ▸ HN.out) (by omega) HL.out)
  rw [hn1, hL] at hM1
  clear hn1 hn2 hL hLn hy2 hz2
  have HN2 := Lib.hid (show _ ∧ _ ∧ _ from ⟨hN2, hD, hN3⟩)
  clear hN2 hD hN3
  go_enter Try.func3, Try.ntmps3
  go_wp2_with fail
  refine hM1.out.mono ?_
  rintro e w1 ⟨x, rfl, hx, hb1⟩
  clear hM1
  obtain ⟨qx, cx, rfl⟩ := hx.sl
  rw [hall.out.2.2.2.1] at hx ⊢
  have ux1 := hx.us
  have H1 := Lib.hid (show _ ∧ _ from ⟨ux1, hb1⟩)
  obtain ⟨b7, hb7⟩ : ∃ b, w1.heap.size = b := ⟨_, rfl⟩
  have hs1 := hb1.size
  rw [hB, hb7] at hs1
  clear hx ux1 hb1
  go_upto_region 4 with (fail)
  refine wp_abs (Mem w1 [(w1.heap.size, 26, #[.int .i64 k, .slice qx n1 cx])]) ⟨by go_grown, by (repeat (first | (refine Row.new_at ?_; simp; done) | refine Row.alloc ?_ _)), trivial⟩ ?_
  intro w2 hM
  obtain ⟨hl2, r7, -⟩ := hM
  simp only [hb7] at r7 ⊢
  have hs2 := r7.lt
  have l0 := r7.cell 0
  have l1 := r7.cell 1
  have hbw2 : Below B w w2 := hB ▸ (H1.out.2.trans (hl2.mono H1.out.2.size))
  have ux2 := H1.out.1.below hl2
  have kw := Lib.hid (with_any k _ _ L a w2 ux2 (HU.out.below (by rw [hB]; exact hbw2)) (by have := hall.out; omega))
  have H2 := Lib.hid (show _ ∧ _ ∧ _ from ⟨ux2, hbw2, r7⟩)
  clear r7 hl2 H1 hbw2 ux2
  go_wp2_with fail
  refine kw.out.mono ?_
  rintro e w3 ⟨y, rfl, hy, hb3⟩
  clear kw l0 l1
  obtain ⟨qy, cy, rfl⟩ := hy.sl
  rw [hall.out.2.2.2.2.1] at hy ⊢
  have H3 := Lib.hid (show _ ∧ _ ∧ _ ∧ _ from ⟨hy.us, H2.out.1.below hb3, H2.out.2.1.trans (hb3.mono (by omega)), H2.out.2.2.below hb3 H2.out.2.2.lt⟩)
  obtain ⟨b8, hb8⟩ : ∃ b, w3.heap.size = b := ⟨_, rfl⟩
  have hs3 := hb3.size
  clear hy hb3 H2
  go_upto_region 5 with (fail)
  refine wp_abs (Mem w3 [(w3.heap.size, 26, #[.int .i64 k, .slice qy N2 cy])]) ⟨by go_grown, by (repeat (first | (refine Row.new_at ?_; simp; done) | refine Row.alloc ?_ _)), trivial⟩ ?_
  intro w4 hM
  obtain ⟨hl4, r8, -⟩ := hM
  simp only [hb8] at r8 ⊢
  have hs4 := r8.lt
  have l0 := r8.cell 0
  have l1 := r8.cell 1
  have hbw4 : Below B w w4 := H3.out.2.2.1.trans (hl4.mono (by omega))
  have uy4 := H3.out.1.below hl4
  have kw := Lib.hid (with_any k _ _ (L ++ a) a w4 uy4 (HU.out.below (by rw [hB]; exact hbw4)) (by have h := hall.out; have h2 := HN2.out; omega))
  have H4 := Lib.hid (show _ ∧ _ ∧ _ ∧ _ ∧ _ from ⟨uy4, H3.out.2.1.below hl4, hbw4, H3.out.2.2.2.below hl4 H3.out.2.2.2.lt, r8⟩)
  clear r8 hl4 H3 hbw4 uy4
  go_wp2_with fail
  refine kw.out.mono ?_
  rintro e w5 ⟨z, rfl, hz, hb5⟩
  clear kw l0 l1
  obtain ⟨qz, cz, rfl⟩ := hz.sl
  rw [hall.out.2.2.2.2.2] at hz ⊢
  have H5 := Lib.hid (show _ ∧ _ ∧ _ ∧ _ ∧ _ ∧ _ from ⟨hz.us, H4.out.1.below hb5, H4.out.2.1.below hb5, H4.out.2.2.1.trans (hb5.mono (by omega)), H4.out.2.2.2.1.below hb5 H4.out.2.2.2.1.lt, H4.out.2.2.2.2.below hb5 H4.out.2.2.2.2.lt⟩)
  obtain ⟨b9, hb9⟩ : ∃ b, w5.heap.size = b := ⟨_, rfl⟩
  have hs5 := hb5.size
  clear hz hb5 H4
  go_upto_region 6 with (fail)
  refine wp_abs (Mem w5 [(w5.heap.size, 26, #[.int .i64 k, .slice qz N3 cz])]) ⟨by go_grown, by (repeat (first | (refine Row.new_at ?_; simp; done) | refine Row.alloc ?_ _)), trivial⟩ ?_
  intro w6 hM
  obtain ⟨hl6, r9, -⟩ := hM
  simp only [hb9] at r9 ⊢
  have r8 := H5.out.2.2.2.2.2.below hl6 H5.out.2.2.2.2.2.lt
  have r7 := H5.out.2.2.2.2.1.below hl6 H5.out.2.2.2.2.1.lt
  have inv := Lib.hid (show MkI w w6 B b7 b8 b9 k (.slice qx n1 cx) (.slice qy N2 cy) (.slice qz N3 cz) L a from ⟨H5.out.2.2.2.1.trans (hl6.mono (by omega)), r7, r8, r9, H5.out.2.2.1.below hl6, H5.out.2.1.below hl6, H5.out.1.below hl6⟩)
  have c70 := r7.cell 0
  have c71 := r7.cell 1
  have c80 := r8.cell 0
  have c81 := r8.cell 1
  have c91 := r9.cell 1
  have hBle : B ≤ b7 := hs1
  have hs6 : b7 < w6.heap.size ∧ b8 < w6.heap.size ∧ b9 < w6.heap.size := ⟨r7.lt, r8.lt, r9.lt⟩
  clear r7 r8 r9 hl6 H5 hs1 hs2 hs3 hs4 hs5
  have e2 : (n1 : Int) + (n2 : Int) = (N2 : Int) := by have h := HN2.out; omega
  have e2' : IntKind.i64.wrap ((n1 : Int) + (n2 : Int)) = (N2 : Int) := by have h := HN2.out; rw [IntKind.wrap_i64]; omega
  have e2'' : IntKind.i64.wrap (N2 : Int) = (N2 : Int) := by have h := HN2.out; rw [IntKind.wrap_i64]; omega
  have e3 : 2 * (n2 : Int) = (D : Int) := by have h := HN2.out; omega
  have e3' : IntKind.i64.wrap (2 * (n2 : Int)) = (D : Int) := by have h := HN2.out; rw [IntKind.wrap_i64]; omega
  have e3'' : IntKind.i64.wrap (D : Int) = (D : Int) := by have h := HN2.out; rw [IntKind.wrap_i64]; omega
  have e4 : (n1 : Int) + (D : Int) = (N3 : Int) := by have h := HN2.out; omega
  have e4' : IntKind.i64.wrap ((n1 : Int) + (D : Int)) = (N3 : Int) := by have h := HN2.out; rw [IntKind.wrap_i64]; omega
  have e4'' : IntKind.i64.wrap (N3 : Int) = (N3 : Int) := by have h := HN2.out; rw [IntKind.wrap_i64]; omega
  go_wp2_with fail
  clear c70 c71 c80 c81 c91 e3 e3' e3'' e4 e4' e4''
  go_loopg [10, 11, 75] n1 (fun gg s10 s11 s75 wr => ∃ i : Nat, i + gg = n1 ∧ s75 = .int .i64 (i : Int) ∧ Hid (MkI w wr B b7 b8 b9 k (.slice qx n1 cx) (.slice qy N2 cy) (.slice qz N3 cz) L a))
  case atStart => exact ⟨0, by omega, rfl, inv⟩
  case round =>
    clear inv
    obtain ⟨i, him, rfl, hinv⟩ := hrel
    by_cases hi : i < n1
    · obtain ⟨n, hn⟩ : ∃ n, l[i]? = some n := ⟨_, List.getElem?_eq_getElem (by have := hall.out.1; omega)⟩
      have hn63 := HL.out n (List.mem_of_getElem? hn)
      obtain ⟨N, hNn⟩ : ∃ N, n.toNat = N := ⟨_, rfl⟩
      have hx : L[i]? = some N := by rw [← hall.out.2.2.1, List.getElem?_map, hn, ← hNn]; rfl
      have hy : (L ++ a)[i]? = some N := by rw [List.getElem?_append_left (by have := hall.out.2.2.2.1; omega)]; exact hx
      have I := hinv.out
      have HI := Lib.hid I
      obtain ⟨gn, on, cn', hu, cell0⟩ := HN.out.elem (by rw [hB]; exact I.lb) hn
      simp only [Value.slice.injEq] at hu
      obtain ⟨rfl, -, -⟩ := hu
      obtain ⟨gx, ox, cx', hu, hgx, hcx⟩ := I.ux.elem hx
      simp only [Value.slice.injEq] at hu
      obtain ⟨rfl, -, -⟩ := hu
      obtain ⟨gy, oy, cy', hu, hgy, hcy⟩ := I.uy.elem hy
      simp only [Value.slice.injEq] at hu
      obtain ⟨rfl, -, -⟩ := hu
      have r7 := I.r7
      have r8 := I.r8
      clear I hinv hn hx hy
      have hlt : (i : Int) < (n1 : Int) := by omega
      have hlt2 : (i : Int) < (N2 : Int) := by omega
      have hcase : (n < 0 ∧ N = 0) ∨ (0 ≤ n ∧ n = (N : Int)) := by omega
      clear hNn
      rcases hcase with ⟨hneg, rfl⟩ | ⟨hpos, rfl⟩
      · have wz : IntKind.u64.wrap 0 = 0 := rfl
        have q0 : ∀ wx, (Op.equalIn 10000 31 (.agg (W4 0)) (.agg #[.int .u64 0, .int .u64 0, .int .u64 0, .int .u64 0])).run Try.prog wx = .ok true wx := fun wx => by rw [W4_zero]; exact eqU_self 0 wx
        have q1 : ∀ wx, (Op.equalIn 10000 31 (.agg (W4 0)) (.agg (W4 0))).run Try.prog wx = .ok true wx := fun wx => eqU_self 0 wx
        go_upto_region 13 with (fail)
        let L' : List Sp := []
        refine wp_region_six (shs L') (look6 L') (None_) (by kernel_rfl) (by kernel_rfl) (mk_St L' [] [] (by kernel_rfl) (by kernel_rfl) trivial (by simp)) ?_
        intro QQ hQ
        -- 0: fieldAddr<26> t7.1
        refine stepK rfl (by kernel_rfl) (fun K hK => ?_); go_simp
        apply Exists.intro; apply And.intro; (focus (intro wk hk; go_simp; exact ⟨rfl, rfl⟩)); refine hK _ _ ?_; clear hK K
        -- 1: load<23> *t82
        refine stepK rfl (by kernel_rfl) (fun K hK => ?_); go_simp
        apply Exists.intro; apply And.intro; (focus (intro wk hk; have cc : wk.cell? ⟨b7, 1, none⟩ = some (.slice (some ⟨gx, ox, none⟩) n1 cx) := (by first | exact (K6.Row.tr r7 hk (by exact id)).cell 1 | exact (K6.Row.tr r7 hk.undrew (by exact id)).cell 1 | exact (r7.below hk.below r7.lt).cell 1); go_simp; exact ⟨rfl, rfl⟩)); refine hK _ _ ?_; clear hK K
        -- 2: t10
        refine stepK rfl (by kernel_rfl) (fun K hK => ?_); go_simp
        apply Exists.intro; apply And.intro; (focus (intro wk hk; go_simp; exact ⟨rfl, rfl⟩)); refine hK _ _ ?_; clear hK K
        -- 3: indexAddr<23> t83[t84]
        refine stepK rfl (by kernel_rfl) (fun K hK => ?_); go_simp
        apply Exists.intro; apply And.intro; (focus (intro wk hk; go_simp; exact ⟨rfl, rfl⟩)); refine hK _ _ ?_; clear hK K
        -- 4: load<31> *t85
        refine stepK rfl (by kernel_rfl) (fun K hK => ?_); go_simp
        apply Exists.intro; apply And.intro; (focus exact kLoadA rfl rfl aggT31 hcx rfl hgx id); refine hK _ _ ?_; clear hK K
        -- 5: t11
        refine stepK rfl (by kernel_rfl) (fun K hK => ?_); go_simp
        apply Exists.intro; apply And.intro; (focus (intro wk hk; go_simp; exact ⟨rfl, rfl⟩)); refine hK _ _ ?_; clear hK K
        -- 6: convert<3->29> t87
        refine stepK rfl (by kernel_rfl) (fun K hK => ?_); go_simp
        apply Exists.intro; apply And.intro; (focus (intro wk hk; go_simp; exact ⟨rfl, rfl⟩)); refine hK _ _ ?_; clear hK K
        -- 7: build<31> 0:t88
        refine stepK rfl (by kernel_rfl) (fun K hK => ?_); go_simp
        apply Exists.intro; apply And.intro; (focus (intro wk hk; go_simp; exact ⟨rfl, rfl⟩)); refine hK _ _ ?_; clear hK K
        -- 8: neq<31> t86, t89
        refine stepK rfl (by kernel_rfl) (fun K hK => ?_); go_simp
        apply Exists.intro; apply And.intro; (focus (intro wk hk; go_simp; exact ⟨rfl, rfl⟩)); refine hK _ _ ?_; clear hK K
        -- 9: t90
        refine stepK rfl (by kernel_rfl) (fun K hK => ?_); go_simp
        apply Exists.intro; apply And.intro; (focus (intro wk hk; go_simp; exact ⟨rfl, rfl⟩)); refine hK _ _ ?_; clear hK K
        -- 10: fieldAddr<26> t8.1
        refine stepK rfl (by kernel_rfl) (fun K hK => ?_); go_simp
        first | (refine hK _ _ ?_; clear hK K) | (apply Exists.intro; apply And.intro; (focus (intro wk hk; go_simp; exact ⟨rfl, rfl⟩)); refine hK _ _ ?_; clear hK K)
        -- 11: load<23> *t92
        refine stepK rfl (by kernel_rfl) (fun K hK => ?_); go_simp
        first | (refine hK _ _ ?_; clear hK K) | (apply Exists.intro; apply And.intro; (focus (intro wk hk; have cc : wk.cell? ⟨b8, 1, none⟩ = some (.slice (some ⟨gy, oy, none⟩) N2 cy) := (by first | exact (K6.Row.tr r8 hk (by exact id)).cell 1 | exact (K6.Row.tr r8 hk.undrew (by exact id)).cell 1 | exact (r8.below hk.below r8.lt).cell 1); go_simp; exact ⟨rfl, rfl⟩)); refine hK _ _ ?_; clear hK K)
        -- 12: t10
        refine stepK rfl (by kernel_rfl) (fun K hK => ?_); go_simp
        first | (refine hK _ _ ?_; clear hK K) | (apply Exists.intro; apply And.intro; (focus (intro wk hk; go_simp; exact ⟨rfl, rfl⟩)); refine hK _ _ ?_; clear hK K)
        -- 13: indexAddr<23> t93[t94]
        refine stepK rfl (by kernel_rfl) (fun K hK => ?_); go_simp
        first | (refine hK _ _ ?_; clear hK K) | (apply Exists.intro; apply And.intro; (focus (intro wk hk; go_simp; exact ⟨rfl, rfl⟩)); refine hK _ _ ?_; clear hK K)
        -- 14: load<31> *t95
        refine stepK rfl (by kernel_rfl) (fun K hK => ?_); go_simp
        first | (refine hK _ _ ?_; clear hK K) | (apply Exists.intro; apply And.intro; (focus exact kLoadA rfl rfl aggT31 hcy rfl hgy id); refine hK _ _ ?_; clear hK K)
        -- 15: fieldAddr<26> t7.1
        refine stepK rfl (by kernel_rfl) (fun K hK => ?_); go_simp
        first | (refine hK _ _ ?_; clear hK K) | (apply Exists.intro; apply And.intro; (focus (intro wk hk; go_simp; exact ⟨rfl, rfl⟩)); refine hK _ _ ?_; clear hK K)
        -- 16: load<23> *t97
        refine stepK rfl (by kernel_rfl) (fun K hK => ?_); go_simp
        first | (refine hK _ _ ?_; clear hK K) | (apply Exists.intro; apply And.intro; (focus (intro wk hk; have cc : wk.cell? ⟨b7, 1, none⟩ = some (.slice (some ⟨gx, ox, none⟩) n1 cx) := (by first | exact (K6.Row.tr r7 hk (by exact id)).cell 1 | exact (K6.Row.tr r7 hk.undrew (by exact id)).cell 1 | exact (r7.below hk.below r7.lt).cell 1); go_simp; exact ⟨rfl, rfl⟩)); refine hK _ _ ?_; clear hK K)
        -- 17: t10
        refine stepK rfl (by kernel_rfl) (fun K hK => ?_); go_simp
        first | (refine hK _ _ ?_; clear hK K) | (apply Exists.intro; apply And.intro; (focus (intro wk hk; go_simp; exact ⟨rfl, rfl⟩)); refine hK _ _ ?_; clear hK K)
        -- 18: indexAddr<23> t98[t99]
        refine stepK rfl (by kernel_rfl) (fun K hK => ?_); go_simp
        first | (refine hK _ _ ?_; clear hK K) | (apply Exists.intro; apply And.intro; (focus (intro wk hk; go_simp; exact ⟨rfl, rfl⟩)); refine hK _ _ ?_; clear hK K)
        -- 19: load<31> *t100
        refine stepK rfl (by kernel_rfl) (fun K hK => ?_); go_simp
        first | (refine hK _ _ ?_; clear hK K) | (apply Exists.intro; apply And.intro; (focus exact kLoadA rfl rfl aggT31 hcx rfl hgx id); refine hK _ _ ?_; clear hK K)
        -- 20: neq<31> t96, t101
        refine stepK rfl (by kernel_rfl) (fun K hK => ?_); go_simp
        first | (refine hK _ _ ?_; clear hK K) | (apply Exists.intro; apply And.intro; (focus (intro wk hk; go_simp; exact ⟨rfl, rfl⟩)); refine hK _ _ ?_; clear hK K)
        -- 21: pick t91 ? true : t102
        refine stepK rfl (by kernel_rfl) (fun K hK => ?_); go_simp
        apply Exists.intro; apply And.intro; (focus (intro wk hk; go_simp; exact ⟨rfl, rfl⟩)); refine hK _ _ ?_; clear hK K
        refine stepN ?_
        refine hQ _ _ ?_
        intro wa hT hG hF
        have hb1 := hT.undrew.below
        have I2 := Lib.hid (HI.out.below hb1 (by have := HI.out.r7.lt; omega))
        clear hT hG hF hQ QQ L' hb1 HI r7 r8 hcx hcy
        go_wp2_with fail
        go_roundg (gk - 1)
        case measure => omega
        case rel => exact ⟨i + 1, by omega, by go_num, I2⟩
      · have q0 : ∀ wx, (Op.equalIn 10000 31 (.agg (W4 N)) (.agg #[.int .u64 (N : Int), .int .u64 0, .int .u64 0, .int .u64 0])).run Try.prog wx = .ok true wx := fun wx => by rw [W4_word N (by omega)]; exact eqU_self N wx
        have q1 : ∀ wx, (Op.equalIn 10000 31 (.agg (W4 N)) (.agg (W4 N))).run Try.prog wx = .ok true wx := fun wx => eqU_self N wx
        have hneg : ¬ (N : Int) < 0 := by omega
        have wu : IntKind.u64.wrap (N : Int) = (N : Int) := by rw [IntKind.wrap_u64]; omega
        go_upto_region 13 with (fail)
        let L' : List Sp := []
        refine wp_region_six (shs L') (look6 L') (None_) (by kernel_rfl) (by kernel_rfl) (mk_St L' [] [] (by kernel_rfl) (by kernel_rfl) trivial (by simp)) ?_
        intro QQ hQ
        -- 0: fieldAddr<26> t7.1
        refine stepK rfl (by kernel_rfl) (fun K hK => ?_); go_simp
        apply Exists.intro; apply And.intro; (focus (intro wk hk; go_simp; exact ⟨rfl, rfl⟩)); refine hK _ _ ?_; clear hK K
        -- 1: load<23> *t82
        refine stepK rfl (by kernel_rfl) (fun K hK => ?_); go_simp
        apply Exists.intro; apply And.intro; (focus (intro wk hk; have cc : wk.cell? ⟨b7, 1, none⟩ = some (.slice (some ⟨gx, ox, none⟩) n1 cx) := (by first | exact (K6.Row.tr r7 hk (by exact id)).cell 1 | exact (K6.Row.tr r7 hk.undrew (by exact id)).cell 1 | exact (r7.below hk.below r7.lt).cell 1); go_simp; exact ⟨rfl, rfl⟩)); refine hK _ _ ?_; clear hK K
        -- 2: t10
        refine stepK rfl (by kernel_rfl) (fun K hK => ?_); go_simp
        apply Exists.intro; apply And.intro; (focus (intro wk hk; go_simp; exact ⟨rfl, rfl⟩)); refine hK _ _ ?_; clear hK K
        -- 3: indexAddr<23> t83[t84]
        refine stepK rfl (by kernel_rfl) (fun K hK => ?_); go_simp
        apply Exists.intro; apply And.intro; (focus (intro wk hk; go_simp; exact ⟨rfl, rfl⟩)); refine hK _ _ ?_; clear hK K
        -- 4: load<31> *t85
        refine stepK rfl (by kernel_rfl) (fun K hK => ?_); go_simp
        apply Exists.intro; apply And.intro; (focus exact kLoadA rfl rfl aggT31 hcx rfl hgx id); refine hK _ _ ?_; clear hK K
        -- 5: t11
        refine stepK rfl (by kernel_rfl) (fun K hK => ?_); go_simp
        apply Exists.intro; apply And.intro; (focus (intro wk hk; go_simp; exact ⟨rfl, rfl⟩)); refine hK _ _ ?_; clear hK K
        -- 6: convert<3->29> t87
        refine stepK rfl (by kernel_rfl) (fun K hK => ?_); go_simp
        apply Exists.intro; apply And.intro; (focus (intro wk hk; go_simp; exact ⟨rfl, rfl⟩)); refine hK _ _ ?_; clear hK K
        -- 7: build<31> 0:t88
        refine stepK rfl (by kernel_rfl) (fun K hK => ?_); go_simp
        apply Exists.intro; apply And.intro; (focus (intro wk hk; go_simp; exact ⟨rfl, rfl⟩)); refine hK _ _ ?_; clear hK K
        -- 8: neq<31> t86, t89
        refine stepK rfl (by kernel_rfl) (fun K hK => ?_); go_simp
        apply Exists.intro; apply And.intro; (focus (intro wk hk; go_simp; exact ⟨rfl, rfl⟩)); refine hK _ _ ?_; clear hK K
        -- 9: t90
        refine stepK rfl (by kernel_rfl) (fun K hK => ?_); go_simp
        apply Exists.intro; apply And.intro; (focus (intro wk hk; go_simp; exact ⟨rfl, rfl⟩)); refine hK _ _ ?_; clear hK K
        -- 10: fieldAddr<26> t8.1
        refine stepK rfl (by kernel_rfl) (fun K hK => ?_); go_simp
        first | (refine hK _ _ ?_; clear hK K) | (apply Exists.intro; apply And.intro; (focus (intro wk hk; go_simp; exact ⟨rfl, rfl⟩)); refine hK _ _ ?_; clear hK K)
        -- 11: load<23> *t92
        refine stepK rfl (by kernel_rfl) (fun K hK => ?_); go_simp
        first | (refine hK _ _ ?_; clear hK K) | (apply Exists.intro; apply And.intro; (focus (intro wk hk; have cc : wk.cell? ⟨b8, 1, none⟩ = some (.slice (some ⟨gy, oy, none⟩) N2 cy) := (by first | exact (K6.Row.tr r8 hk (by exact id)).cell 1 | exact (K6.Row.tr r8 hk.undrew (by exact id)).cell 1 | exact (r8.below hk.below r8.lt).cell 1); go_simp; exact ⟨rfl, rfl⟩)); refine hK _ _ ?_; clear hK K)
        -- 12: t10
        refine stepK rfl (by kernel_rfl) (fun K hK => ?_); go_simp
        first | (refine hK _ _ ?_; clear hK K) | (apply Exists.intro; apply And.intro; (focus (intro wk hk; go_simp; exact ⟨rfl, rfl⟩)); refine hK _ _ ?_; clear hK K)
        -- 13: indexAddr<23> t93[t94]
        refine stepK rfl (by kernel_rfl) (fun K hK => ?_); go_simp
        first | (refine hK _ _ ?_; clear hK K) | (apply Exists.intro; apply And.intro; (focus (intro wk hk; go_simp; exact ⟨rfl, rfl⟩)); refine hK _ _ ?_; clear hK K)
        -- 14: load<31> *t95
        refine stepK rfl (by kernel_rfl) (fun K hK => ?_); go_simp
        first | (refine hK _ _ ?_; clear hK K) | (apply Exists.intro; apply And.intro; (focus exact kLoadA rfl rfl aggT31 hcy rfl hgy id); refine hK _ _ ?_; clear hK K)
        -- 15: fieldAddr<26> t7.1
        refine stepK rfl (by kernel_rfl) (fun K hK => ?_); go_simp
        first | (refine hK _ _ ?_; clear hK K) | (apply Exists.intro; apply And.intro; (focus (intro wk hk; go_simp; exact ⟨rfl, rfl⟩)); refine hK _ _ ?_; clear hK K)
        -- 16: load<23> *t97
        refine stepK rfl (by kernel_rfl) (fun K hK => ?_); go_simp
        first | (refine hK _ _ ?_; clear hK K) | (apply Exists.intro; apply And.intro; (focus (intro wk hk; have cc : wk.cell? ⟨b7, 1, none⟩ = some (.slice (some ⟨gx, ox, none⟩) n1 cx) := (by first | exact (K6.Row.tr r7 hk (by exact id)).cell 1 | exact (K6.Row.tr r7 hk.undrew (by exact id)).cell 1 | exact (r7.below hk.below r7.lt).cell 1); go_simp; exact ⟨rfl, rfl⟩)); refine hK _ _ ?_; clear hK K)
        -- 17: t10
        refine stepK rfl (by kernel_rfl) (fun K hK => ?_); go_simp
        first | (refine hK _ _ ?_; clear hK K) | (apply Exists.intro; apply And.intro; (focus (intro wk hk; go_simp; exact ⟨rfl, rfl⟩)); refine hK _ _ ?_; clear hK K)
        -- 18: indexAddr<23> t98[t99]
        refine stepK rfl (by kernel_rfl) (fun K hK => ?_); go_simp
        first | (refine hK _ _ ?_; clear hK K) | (apply Exists.intro; apply And.intro; (focus (intro wk hk; go_simp; exact ⟨rfl, rfl⟩)); refine hK _ _ ?_; clear hK K)
        -- 19: load<31> *t100
        refine stepK rfl (by kernel_rfl) (fun K hK => ?_); go_simp
        first | (refine hK _ _ ?_; clear hK K) | (apply Exists.intro; apply And.intro; (focus exact kLoadA rfl rfl aggT31 hcx rfl hgx id); refine hK _ _ ?_; clear hK K)
        -- 20: neq<31> t96, t101
        refine stepK rfl (by kernel_rfl) (fun K hK => ?_); go_simp
        first | (refine hK _ _ ?_; clear hK K) | (apply Exists.intro; apply And.intro; (focus (intro wk hk; go_simp; exact ⟨rfl, rfl⟩)); refine hK _ _ ?_; clear hK K)
        -- 21: pick t91 ? true : t102
        refine stepK rfl (by kernel_rfl) (fun K hK => ?_); go_simp
        apply Exists.intro; apply And.intro; (focus (intro wk hk; go_simp; exact ⟨rfl, rfl⟩)); refine hK _ _ ?_; clear hK K
        refine stepN ?_
        refine hQ _ _ ?_
        intro wa hT hG hF
        have hb1 := hT.undrew.below
        have I2 := Lib.hid (HI.out.below hb1 (by have := HI.out.r7.lt; omega))
        clear hT hG hF hQ QQ L' hb1 HI r7 r8 hcx hcy
        go_wp2_with fail
        go_roundg (gk - 1)
        case measure => omega
        case rel => exact ⟨i + 1, by omega, by go_num, I2⟩
    · obtain rfl : i = n1 := by omega
      have hlt : ¬ (i : Int) < (i : Int) := by omega
      clear hi
      go_wp2_with fail
      go_loopg [12, 13, 107] n2 (fun gg s12 s13 s107 wr => ∃ j : Nat, j + gg = n2 ∧ s107 = .int .i64 (j : Int) ∧ Hid (MkI w wr B b7 b8 b9 k (.slice qx i cx) (.slice qy N2 cy) (.slice qz N3 cz) L a))
      case atStart => exact ⟨0, by omega, rfl, hinv⟩
      case round =>
        clear hinv
        obtain ⟨j, hjm, rfl, hinv⟩ := hrel
        by_cases hj : j < n2
        · obtain ⟨x, hx⟩ : ∃ x, a[j]? = some x := ⟨_, List.getElem?_eq_getElem (by have := hall.out.2.1; omega)⟩
          obtain ⟨P, hP⟩ : ∃ P, P = i + j := ⟨_, rfl⟩
          obtain ⟨Q, hQ'⟩ : ∃ Q, Q = N2 + j := ⟨_, rfl⟩
          have hy : (L ++ a)[P]? = some x := by rw [List.getElem?_append_right (by have := hall.out.2.2.2.1; omega), show P - L.length = j by have := hall.out.2.2.2.1; omega]; exact hx
          have hz : ((L ++ a) ++ a)[Q]? = some x := by rw [List.getElem?_append_right (by have := hall.out.2.2.2.2.1; omega), show Q - (L ++ a).length = j by have := hall.out.2.2.2.2.1; omega]; exact hx
          have hUr := HU.out.below (by rw [hB]; exact hinv.out.lb)
          obtain ⟨ga, oa, ca', hu, hga, hca⟩ := hUr.elem hx
          simp only [Value.slice.injEq] at hu
          obtain ⟨rfl, -, -⟩ := hu
          clear hUr hx
          have hlt3 : (j : Int) < (n2 : Int) := by omega
          have hsz : B ≤ wr.heap.size := by have := hinv.out.r7.lt; omega
          go_upto_region 18 with (fail)
          let L' : List Sp := [sA 3 31 [5] #[.int .u64 0, .int .u64 0, .int .u64 0, .int .u64 0], sT 5 3 31 [2] (fun g => aggOf g 2)]
          refine wp_region_six0 (shs L') (look6 L') (None_) (by kernel_rfl) (by kernel_rfl) (mk_St L' [] [] (by kernel_rfl) (by kernel_rfl) ⟨ok_A, ok_T aggOf_congr, trivial⟩ (by simp)) ?_
          intro QQ hQ
          -- 0: t107
          refine stepK rfl (by kernel_rfl) (fun K hK => ?_); go_simp
          apply Exists.intro; apply And.intro; (focus (intro wk hk; go_simp; exact ⟨rfl, rfl⟩)); refine hK _ _ ?_; clear hK K
          -- 1: indexAddr<23> t105[t107]
          refine stepK rfl (by kernel_rfl) (fun K hK => ?_); go_simp
          apply Exists.intro; apply And.intro; (focus (intro wk hk; go_simp; exact ⟨rfl, rfl⟩)); refine hK _ _ ?_; clear hK K
          -- 2: load<31> *t110
          refine stepK rfl (by kernel_rfl) (fun K hK => ?_); go_simp
          apply Exists.intro; apply And.intro; (focus exact kLoadA rfl rfl aggT31 hca rfl hga id); refine hK _ _ ?_; clear hK K
          -- 3: alloc<31>
          refine stepS _ rfl (by kernel_rfl) (fun K hK => ?_); go_simp
          refine ⟨?_, ?_⟩
          · intro wk hk hg hu; go_simp; exact left_A rfl rfl
          rintro ⟨v3, lo3, hi3⟩ hlo3 hhi3 ⟨e3, f3⟩
          replace e3 : v3 = .pointer (some ⟨lo3, 0, none⟩) := e3; replace f3 : hi3 = lo3 + 1 := f3; replace hlo3 : _ ≤ lo3 := hlo3; subst e3; subst f3
          refine hK _ _ ?_; clear hK K
          -- 4: assign t109
          refine stepK rfl (by kernel_rfl) (fun K hK => ?_); go_simp
          apply Exists.intro; apply And.intro; (focus (intro wk hk; go_simp; exact ⟨rfl, rfl⟩)); refine hK _ _ ?_; clear hK K
          -- 5: store<31> *t13 = t111
          refine stepS _ rfl (by kernel_rfl) (fun K hK => ?_); go_simp
          refine ⟨?_, ?_⟩
          · exact sStoreT rfl rfl rfl rfl rfl rfl rfl (by kernel_rfl) rfl (by kernel_rfl) (by decide) aggOf_congr
          rintro ⟨v5, lo5, hi5⟩ - - (rfl : v5 = undef)
          refine hK _ _ ?_; clear hK K
          refine stepN ?_
          refine hQ _ _ ?_
          intro wa hT hG hF
          have hb1 := hT.below
          have r13 : Row wa lo3 31 (W4 x) := (hF 5 _ rfl rfl (by decide)).2
          clear hT hG hF hQ QQ L'
          have I := hinv.out.below hb1 hsz
          have HI := Lib.hid I
          have hx2 : lo3 < wa.heap.size := r13.lt
          obtain ⟨gy, oy, cy', hu, hgy, hcy⟩ := I.uy.elem hy
          simp only [Value.slice.injEq] at hu
          obtain ⟨rfl, -, -⟩ := hu
          obtain ⟨gz, oz, cz', hu, hgz, hcz⟩ := I.uz.elem hz
          simp only [Value.slice.injEq] at hu
          obtain ⟨rfl, -, -⟩ := hu
          have r8 := I.r8
          have r9 := I.r9
          have f1 : (i : Int) + (j : Int) = (P : Int) := by omega
          have f1' : IntKind.i64.wrap ((i : Int) + (j : Int)) = (P : Int) := by rw [IntKind.wrap_i64]; omega
          have f1'' : IntKind.i64.wrap (P : Int) = (P : Int) := by rw [IntKind.wrap_i64]; omega
          have f2 : (N2 : Int) + (j : Int) = (Q : Int) := by omega
          have f2' : IntKind.i64.wrap ((N2 : Int) + (j : Int)) = (Q : Int) := by rw [IntKind.wrap_i64]; omega
          have f2'' : IntKind.i64.wrap (Q : Int) = (Q : Int) := by rw [IntKind.wrap_i64]; omega
          have hlP : (P : Int) < (N2 : Int) := by have h := HN2.out; omega
          have hlQ : (Q : Int) < (N3 : Int) := by have h := HN2.out; omega
          have q1 : ∀ wx, (Op.equalIn 10000 31 (.agg (W4 x)) (.agg (W4 x))).run Try.prog wx = .ok true wx := fun wx => eqU_self x wx
          clear I hinv hb1 hy hz hga hca hP hQ'
          go_upto_region 19 with (fail)
          let L' : List Sp := []
          refine wp_region_six (shs L') (look6 L') (None_) (by kernel_rfl) (by kernel_rfl) (mk_St L' [] [] (by kernel_rfl) (by kernel_rfl) trivial (by simp)) ?_
          intro QQ hQ
          -- 0: fieldAddr<26> t8.1
          refine stepK rfl (by kernel_rfl) (fun K hK => ?_); go_simp
          apply Exists.intro; apply And.intro; (focus (intro wk hk; go_simp; exact ⟨rfl, rfl⟩)); refine hK _ _ ?_; clear hK K
          -- 1: load<23> *t112
          refine stepK rfl (by kernel_rfl) (fun K hK => ?_); go_simp
          apply Exists.intro; apply And.intro; (focus (intro wk hk; have cc : wk.cell? ⟨b8, 1, none⟩ = some (.slice (some ⟨gy, oy, none⟩) N2 cy) := (by first | exact (K6.Row.tr r8 hk (by exact id)).cell 1 | exact (K6.Row.tr r8 hk.undrew (by exact id)).cell 1 | exact (r8.below hk.below r8.lt).cell 1); go_simp; exact ⟨rfl, rfl⟩)); refine hK _ _ ?_; clear hK K
          -- 2: t1
          refine stepK rfl (by kernel_rfl) (fun K hK => ?_); go_simp
          apply Exists.intro; apply And.intro; (focus (intro wk hk; go_simp; exact ⟨rfl, rfl⟩)); refine hK _ _ ?_; clear hK K
          -- 3: call builtin len<22>(t114)
          refine stepK rfl (by kernel_rfl) (fun K hK => ?_); go_simp
          apply Exists.intro; apply And.intro; (focus (intro wk hk; go_simp; exact ⟨rfl, rfl⟩)); refine hK _ _ ?_; clear hK K
          -- 4: t12
          refine stepK rfl (by kernel_rfl) (fun K hK => ?_); go_simp
          apply Exists.intro; apply And.intro; (focus (intro wk hk; go_simp; exact ⟨rfl, rfl⟩)); refine hK _ _ ?_; clear hK K
          -- 5: add<3> t115, t116
          refine stepK rfl (by kernel_rfl) (fun K hK => ?_); go_simp
          apply Exists.intro; apply And.intro; (focus (intro wk hk; go_simp; exact ⟨rfl, rfl⟩)); refine hK _ _ ?_; clear hK K
          -- 6: indexAddr<23> t113[t117]
          refine stepK rfl (by kernel_rfl) (fun K hK => ?_); go_simp
          apply Exists.intro; apply And.intro; (focus (intro wk hk; go_simp; exact ⟨rfl, rfl⟩)); refine hK _ _ ?_; clear hK K
          -- 7: load<31> *t118
          refine stepK rfl (by kernel_rfl) (fun K hK => ?_); go_simp
          apply Exists.intro; apply And.intro; (focus exact kLoadA rfl rfl aggT31 hcy rfl hgy id); refine hK _ _ ?_; clear hK K
          -- 8: load<31> *t13
          refine stepK rfl (by kernel_rfl) (fun K hK => ?_); go_simp
          apply Exists.intro; apply And.intro; (focus exact kLoad rfl rfl aggT31 r13 rfl id); refine hK _ _ ?_; clear hK K
          -- 9: neq<31> t119, t120
          refine stepK rfl (by kernel_rfl) (fun K hK => ?_); go_simp
          apply Exists.intro; apply And.intro; (focus (intro wk hk; go_simp; exact ⟨rfl, rfl⟩)); refine hK _ _ ?_; clear hK K
          -- 10: t121
          refine stepK rfl (by kernel_rfl) (fun K hK => ?_); go_simp
          apply Exists.intro; apply And.intro; (focus (intro wk hk; go_simp; exact ⟨rfl, rfl⟩)); refine hK _ _ ?_; clear hK K
          -- 11: fieldAddr<26> t9.1
          refine stepK rfl (by kernel_rfl) (fun K hK => ?_); go_simp
          first | (refine hK _ _ ?_; clear hK K) | (apply Exists.intro; apply And.intro; (focus (intro wk hk; go_simp; exact ⟨rfl, rfl⟩)); refine hK _ _ ?_; clear hK K)
          -- 12: load<23> *t123
          refine stepK rfl (by kernel_rfl) (fun K hK => ?_); go_simp
          first | (refine hK _ _ ?_; clear hK K) | (apply Exists.intro; apply And.intro; (focus (intro wk hk; have cc : wk.cell? ⟨b9, 1, none⟩ = some (.slice (some ⟨gz, oz, none⟩) N3 cz) := (by first | exact (K6.Row.tr r9 hk (by exact id)).cell 1 | exact (K6.Row.tr r9 hk.undrew (by exact id)).cell 1 | exact (r9.below hk.below r9.lt).cell 1); go_simp; exact ⟨rfl, rfl⟩)); refine hK _ _ ?_; clear hK K)
          -- 13: t1
          refine stepK rfl (by kernel_rfl) (fun K hK => ?_); go_simp
          first | (refine hK _ _ ?_; clear hK K) | (apply Exists.intro; apply And.intro; (focus (intro wk hk; go_simp; exact ⟨rfl, rfl⟩)); refine hK _ _ ?_; clear hK K)
          -- 14: call builtin len<22>(t125)
          refine stepK rfl (by kernel_rfl) (fun K hK => ?_); go_simp
          first | (refine hK _ _ ?_; clear hK K) | (apply Exists.intro; apply And.intro; (focus (intro wk hk; go_simp; exact ⟨rfl, rfl⟩)); refine hK _ _ ?_; clear hK K)
          -- 15: t2
          refine stepK rfl (by kernel_rfl) (fun K hK => ?_); go_simp
          first | (refine hK _ _ ?_; clear hK K) | (apply Exists.intro; apply And.intro; (focus (intro wk hk; go_simp; exact ⟨rfl, rfl⟩)); refine hK _ _ ?_; clear hK K)
          -- 16: call builtin len<23>(t127)
          refine stepK rfl (by kernel_rfl) (fun K hK => ?_); go_simp
          first | (refine hK _ _ ?_; clear hK K) | (apply Exists.intro; apply And.intro; (focus (intro wk hk; go_simp; exact ⟨rfl, rfl⟩)); refine hK _ _ ?_; clear hK K)
          -- 17: add<3> t126, t128
          refine stepK rfl (by kernel_rfl) (fun K hK => ?_); go_simp
          first | (refine hK _ _ ?_; clear hK K) | (apply Exists.intro; apply And.intro; (focus (intro wk hk; go_simp; exact ⟨rfl, rfl⟩)); refine hK _ _ ?_; clear hK K)
          -- 18: t12
          refine stepK rfl (by kernel_rfl) (fun K hK => ?_); go_simp
          first | (refine hK _ _ ?_; clear hK K) | (apply Exists.intro; apply And.intro; (focus (intro wk hk; go_simp; exact ⟨rfl, rfl⟩)); refine hK _ _ ?_; clear hK K)
          -- 19: add<3> t129, t130
          refine stepK rfl (by kernel_rfl) (fun K hK => ?_); go_simp
          first | (refine hK _ _ ?_; clear hK K) | (apply Exists.intro; apply And.intro; (focus (intro wk hk; go_simp; exact ⟨rfl, rfl⟩)); refine hK _ _ ?_; clear hK K)
          -- 20: indexAddr<23> t124[t131]
          refine stepK rfl (by kernel_rfl) (fun K hK => ?_); go_simp
          first | (refine hK _ _ ?_; clear hK K) | (apply Exists.intro; apply And.intro; (focus (intro wk hk; go_simp; exact ⟨rfl, rfl⟩)); refine hK _ _ ?_; clear hK K)
          -- 21: load<31> *t132
          refine stepK rfl (by kernel_rfl) (fun K hK => ?_); go_simp
          first | (refine hK _ _ ?_; clear hK K) | (apply Exists.intro; apply And.intro; (focus exact kLoadA rfl rfl aggT31 hcz rfl hgz id); refine hK _ _ ?_; clear hK K)
          -- 22: load<31> *t13
          refine stepK rfl (by kernel_rfl) (fun K hK => ?_); go_simp
          first | (refine hK _ _ ?_; clear hK K) | (apply Exists.intro; apply And.intro; (focus exact kLoad rfl rfl aggT31 r13 rfl id); refine hK _ _ ?_; clear hK K)
          -- 23: neq<31> t133, t134
          refine stepK rfl (by kernel_rfl) (fun K hK => ?_); go_simp
          first | (refine hK _ _ ?_; clear hK K) | (apply Exists.intro; apply And.intro; (focus (intro wk hk; go_simp; exact ⟨rfl, rfl⟩)); refine hK _ _ ?_; clear hK K)
          -- 24: pick t122 ? true : t135
          refine stepK rfl (by kernel_rfl) (fun K hK => ?_); go_simp
          apply Exists.intro; apply And.intro; (focus (intro wk hk; go_simp; exact ⟨rfl, rfl⟩)); refine hK _ _ ?_; clear hK K
          refine stepN ?_
          refine hQ _ _ ?_
          intro wb hT hG hF
          have hb2 := hT.undrew.below
          have I2 := Lib.hid (HI.out.below hb2 (by have := HI.out.r7.lt; omega))
          clear hT hG hF hQ QQ L' hb2 HI r8 r9 r13 hcy hcz
          go_wp2_with fail
          go_roundg (gk - 1)
          case measure => omega
          case rel => exact ⟨j + 1, by omega, by go_num, I2⟩
        · obtain rfl : j = n2 := by omega
          have hlt3 : ¬ (j : Int) < (j : Int) := by omega
          have H := Lib.hid hinv.out.lb
          have hsz : B ≤ wr.heap.size := by have := hinv.out.r7.lt; omega
          clear hinv
          go_wp2_with fail
          refine (lv.out _).mono ?_
          rintro e w9 ⟨rfl, hb⟩
          have H9 := Lib.hid (H.out.trans (hb.mono hsz))
          clear hb H
          go_wp2_with fail
          go_ret
          exact ⟨rfl, by first | exact H9.out | (rw [hB]; exact H9.out)⟩
end Go.Proofs.Ytpdenhmkpiafiaa
