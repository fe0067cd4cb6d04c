/-
  Slices as read, of whatever elements; hashes compared; rows of ints and of hashes compared (217 218; the reference's: 219 220).
-/
import Derived.Test.YtpdenhmkpiafiaaEvNew
import Derived.Test.YtpdenhmkpiafiaaOctCopy
namespace Go.Proofs.Ytpdenhmkpiafiaa
open Go Go.RowKit K6

/-- a slice value reads as these, each of z cells -/
def Rs {α : Type} (f : α → List Value) (z : Nat) (w : World) (u : Value) (l : List α) : Prop := ∃ q c, u = .slice q l.length c ∧ (0 < l.length → ∃ g o, q = some ⟨g, o, none⟩ ∧ g < w.heap.size ∧ ∀ i x, l[i]? = some x → ∀ j v, (f x)[j]? = some v → w.cell? ⟨g, o + i * z + j, none⟩ = some v)
theorem Rs.below {α : Type} {f : α → List Value} {z : Nat} {w w' : World} {u : Value} {l : List α} (h : Rs f z w u l) (hb : Below w.heap.size w w') : Rs f z w' u l := by
  obtain ⟨q, c, rfl, h⟩ := h
  refine ⟨q, c, rfl, fun h0 => ?_⟩
  obtain ⟨g, o, rfl, hg, hc⟩ := h h0
  exact ⟨g, o, rfl, Nat.lt_of_lt_of_le hg hb.size, fun i x hx j v hj => (World.cell?_of_block (hb.block g hg)).trans (hc i x hx j v hj)⟩
theorem Rs.nil {α : Type} (f : α → List Value) (z : Nat) (w : World) : Rs f z w (.slice none 0 0) [] := ⟨none, 0, rfl, fun h => absurd h (Nat.lt_irrefl 0)⟩
theorem Rs.get {α : Type} {f : α → List Value} {z : Nat} {w : World} {u : Value} {l : List α} (h : Rs f z w u l) {i : Nat} {x : α} (hx : l[i]? = some x) :
    ∃ g o c, u = .slice (some ⟨g, o, none⟩) l.length c ∧ g < w.heap.size ∧ ∀ j v, (f x)[j]? = some v → w.cell? ⟨g, o + i * z + j, none⟩ = some v := by
  obtain ⟨q, c, rfl, h⟩ := h
  obtain ⟨g, o, rfl, hg, hc⟩ := h (by have := (List.getElem?_eq_some_iff.1 hx).1; omega)
  exact ⟨g, o, c, rfl, hg, fun j v hj => hc i x hx j v hj⟩
/-- ints; hashes -/
def icl (n : Int) : List Value := [.int .i64 n]
abbrev Is := Rs icl 1
abbrev Hs := Rs bv 32
/-! ### hashes compared -/
theorem eqItems_two {P : Program} (d : Nat) {e : TypeId} {k : IntKind} (he : P.underlying e = some (.int k)) (cs ds : Array Value) (f g : Nat → Int) (w : World) : ∀ is : List Nat, (∀ i ∈ is, cs[i]? = some (.int k (f i)) ∧ ds[i]? = some (.int k (g i))) → (Op.eqItems (d + 1) e 1 cs ds is).run P w = .ok (is.all fun i => f i == g i) w
  | [], _ => by simp [Op.eqItems]
  | i :: is, h => by
    obtain ⟨hx, hy⟩ := h i (List.mem_cons_self ..)
    have ih := eqItems_two d he cs ds f g w is fun j hj => h j (List.mem_cons_of_mem _ hj)
    have e1 : ∀ (a b : Int) (wx : World), (Op.equalIn (d + 1) e (.int k a) (.int k b)).run P wx = .ok (a == b) wx := fun a b wx => by
      simp [Op.equalIn, run_underlying he]
    cases hq : (f i == g i) with
    | true => simp [Op.eqItems, part, isAgg, run_underlying he, e1, hx, hy, hq, ih]
    | false => simp [Op.eqItems, part, isAgg, run_underlying he, e1, hx, hy, hq]
set_option maxRecDepth 100000 in
theorem eqH {X Y : List Int} (hX : X.length = 32) (hY : Y.length = 32) (w : World) : (Op.equalIn 10000 35 (.agg (bv X).toArray) (.agg (bv Y).toArray)).run Try.prog w = .ok (decide (X = Y)) w := by
  obtain ⟨i, hi⟩ := Option.isSome_iff_exists.1 (show (Try.prog.info? 5).isSome = true by kernel_rfl)
  have hc : Try.prog.cellsOf 5 = 1 := by kernel_rfl
  rw [run_equalIn_array w 9999 _ _ Try.underlying35 hi, hc]
  have hg : ∀ (Z : List Int) (j : Nat), j < Z.length → (bv Z).toArray[j]? = some (.int .u8 (Z.getD j 0)) := fun Z j hj => by
    rw [List.getElem?_toArray]
    unfold bv
    rw [List.getElem?_map, List.getD_eq_getElem?_getD, List.getElem?_eq_getElem hj]
    rfl
  rw [eqItems_two 9998 Try.underlying5 _ _ (fun j => X.getD j 0) (fun j => Y.getD j 0) w _ fun j hj => ⟨hg X j (by rw [hX]; exact List.mem_range.1 hj), hg Y j (by rw [hY]; exact List.mem_range.1 hj)⟩]
  congr 1
  rw [Bool.eq_iff_iff]
  simp only [List.all_eq_true, List.mem_range, beq_iff_eq, decide_eq_true_eq]
  constructor
  · intro h
    refine List.ext_getElem (by omega) fun j h1 h2 => ?_
    have h3 := h j (by omega)
    rw [List.getD_eq_getElem?_getD, List.getD_eq_getElem?_getD, List.getElem?_eq_getElem h1, List.getElem?_eq_getElem h2] at h3
    exact h3
  · rintro rfl j _; rfl
theorem take_app_eq' {α : Type} {l k : List α} {i : Nat} {x y : α} (hx : l[i]? = some x) (hy : k[i]? = some y) (h : l.take i = k.take i) (hxy : x = y) : l.take (i + 1) = k.take (i + 1) := by
  rw [List.take_add_one, List.take_add_one, hx, hy, h, hxy]
theorem get_ne' {α : Type} {l k : List α} {i : Nat} {x y : α} (hx : l[i]? = some x) (hy : k[i]? = some y) (hxy : x ≠ y) : l ≠ k := fun h => hxy (by rw [h, hy] at hx; exact (Option.some.inj hx).symm)
set_option maxRecDepth 100000 in
set_option maxHeartbeats 16000000 in
theorem isEq_at (u v : Value) (l k : List Int) (w : World) (hu : Is w u l) (hv : Is w v k) (hL : l.length ≤ 140737488355328) :
    Calls Try.prog 217 #[u, v] w fun r w' => r = .returned (.bool (decide (l = k))) ∧ Below w.heap.size w w' := by
  have HU := Lib.hid (show _ ∧ True from ⟨hu, trivial⟩)
  have HV := Lib.hid (show _ ∧ True from ⟨hv, trivial⟩)
  obtain ⟨q1, c1, rfl, -⟩ := hu
  obtain ⟨q2, c2, rfl, -⟩ := hv
  obtain ⟨n1, hn1⟩ : ∃ n, l.length = n := ⟨_, rfl⟩
  obtain ⟨n2, hn2⟩ : ∃ n, k.length = n := ⟨_, rfl⟩
  rw [hn1] at HU hL
  rw [hn2] at HV
  obtain ⟨b, hb⟩ : ∃ b, decide (l = k) = b := ⟨_, rfl⟩
  rw [hb, hn1, hn2]
  have HB := Lib.hid (show _ ∧ _ ∧ _ from ⟨hb, hn1, hn2⟩)
  have hni : (n1 : Int) ≤ 140737488355328 := by omega
  clear hb hn1 hn2 hL
  by_cases hne : n1 = n2
  · subst hne
    go_enter Try.func217, Try.ntmps217
    go_wp2_with fail
    go_loopg [5, 13] n1 (fun gg s5 s13 wr => ∃ i : Nat, i + gg = n1 ∧ s13 = .int .i64 (i : Int) ∧ Hid (l.take i = k.take i) ∧ Hid (Below w.heap.size w wr))
    case atStart => exact ⟨0, by omega, rfl, Lib.hid (by rw [List.take_zero, List.take_zero]), Lib.hid (Below.refl _ _)⟩
    case round =>
      obtain ⟨i, him, rfl, heq, hinv⟩ := hrel
      by_cases hi : i < n1
      · obtain ⟨x, hx⟩ : ∃ x, l[i]? = some x := ⟨_, List.getElem?_eq_getElem (by have := HB.out.2.1; omega)⟩
        obtain ⟨y, hy⟩ : ∃ y, k[i]? = some y := ⟨_, List.getElem?_eq_getElem (by have := HB.out.2.2; omega)⟩
        obtain ⟨gx, ox, cx', hu, hgx, hcx⟩ := (HU.out.1.below hinv.out).get hx
        simp only [Value.slice.injEq] at hu
        obtain ⟨rfl, -, -⟩ := hu
        obtain ⟨gy, oy, cy', hu, hgy, hcy⟩ := (HV.out.1.below hinv.out).get hy
        simp only [Value.slice.injEq] at hu
        obtain ⟨rfl, -, -⟩ := hu
        have cx0 : wr.cell? ⟨gx, ox + i, none⟩ = some (.int .i64 x) := by have h := hcx 0 _ rfl; simpa using h
        have cy0 : wr.cell? ⟨gy, oy + i, none⟩ = some (.int .i64 y) := by have h := hcy 0 _ rfl; simpa using h
        clear hcx hcy
        have HX := Lib.hid (show _ ∧ _ from ⟨hx, hy⟩)
        clear hx hy
        have hlt : (i : Int) < (n1 : Int) := by omega
        by_cases hxy : x = y
        · subst hxy
          have q1 := trivial
          have hnext := Lib.hid (take_app_eq' HX.out.1 HX.out.2 heq.out rfl)
          clear HX heq
          go_upto_region 6 with (fail)
          let L : List Sp := []
          refine wp_region_six (shs L) (look6 L) (None_) (by kernel_rfl) (by kernel_rfl) (mk_St L [] [] (by kernel_rfl) (by kernel_rfl) trivial (by simp)) ?_
          intro QQ hQ
          -- 0: t0
          refine stepK rfl (by kernel_rfl) (fun K hK => ?_); go_simp
          apply Exists.intro; apply And.intro; (focus (intro wk hk; go_simp; exact ⟨rfl, rfl⟩)); refine hK _ _ ?_; clear hK K
          -- 1: t5
          refine stepK rfl (by kernel_rfl) (fun K hK => ?_); go_simp
          apply Exists.intro; apply And.intro; (focus (intro wk hk; go_simp; exact ⟨rfl, rfl⟩)); refine hK _ _ ?_; clear hK K
          -- 2: indexAddr<22> t16[t17]
          refine stepK rfl (by kernel_rfl) (fun K hK => ?_); go_simp
          apply Exists.intro; apply And.intro; (focus (intro wk hk; go_simp; exact ⟨rfl, rfl⟩)); refine hK _ _ ?_; clear hK K
          -- 3: load<3> *t18
          refine stepK rfl (by kernel_rfl) (fun K hK => ?_); go_simp
          apply Exists.intro; apply And.intro; (focus (intro wk hk; have cc : wk.cell? ⟨gx, ox + i, none⟩ = some (.int .i64 x) := (World.cell?_of_block (hk.undrew.below.block _ hgx)).trans cx0; go_simp; exact ⟨rfl, rfl⟩)); refine hK _ _ ?_; clear hK K
          -- 4: t1
          refine stepK rfl (by kernel_rfl) (fun K hK => ?_); go_simp
          apply Exists.intro; apply And.intro; (focus (intro wk hk; go_simp; exact ⟨rfl, rfl⟩)); refine hK _ _ ?_; clear hK K
          -- 5: t5
          refine stepK rfl (by kernel_rfl) (fun K hK => ?_); go_simp
          apply Exists.intro; apply And.intro; (focus (intro wk hk; go_simp; exact ⟨rfl, rfl⟩)); refine hK _ _ ?_; clear hK K
          -- 6: indexAddr<22> t20[t21]
          refine stepK rfl (by kernel_rfl) (fun K hK => ?_); go_simp
          apply Exists.intro; apply And.intro; (focus (intro wk hk; go_simp; exact ⟨rfl, rfl⟩)); refine hK _ _ ?_; clear hK K
          -- 7: load<3> *t22
          refine stepK rfl (by kernel_rfl) (fun K hK => ?_); go_simp
          apply Exists.intro; apply And.intro; (focus (intro wk hk; have cc : wk.cell? ⟨gy, oy + i, none⟩ = some (.int .i64 x) := (World.cell?_of_block (hk.undrew.below.block _ hgy)).trans cy0; go_simp; exact ⟨rfl, rfl⟩)); refine hK _ _ ?_; clear hK K
          -- 8: neq<3> t19, t23
          refine stepK rfl (by kernel_rfl) (fun K hK => ?_); go_simp
          apply Exists.intro; apply And.intro; (focus (intro wk hk; go_simp; exact ⟨rfl, rfl⟩)); refine hK _ _ ?_; clear hK K
          refine stepN ?_
          refine hQ _ _ ?_
          intro w1 hT hG hF
          have hl1 := Lib.hid (hinv.out.trans (hT.undrew.below.mono hinv.out.size))
          clear hT hG hF hQ QQ L cx0 cy0 hinv q1
          go_wp2_with fail
          go_roundg (gk - 1)
          case measure => omega
          case rel => exact ⟨i + 1, by omega, by go_num, hnext, hl1⟩
        · have q1 : (x != y) = true := by rw [bne_iff_ne]; exact hxy
          have hbf : b = false := by rw [← HB.out.1]; exact decide_eq_false (get_ne' HX.out.1 HX.out.2 hxy)
          subst hbf
          clear HX heq hxy
          go_upto_region 6 with (fail)
          let L : List Sp := []
          refine wp_region_six (shs L) (look6 L) (None_) (by kernel_rfl) (by kernel_rfl) (mk_St L [] [] (by kernel_rfl) (by kernel_rfl) trivial (by simp)) ?_
          intro QQ hQ
          -- 0: t0
          refine stepK rfl (by kernel_rfl) (fun K hK => ?_); go_simp
          apply Exists.intro; apply And.intro; (focus (intro wk hk; go_simp; exact ⟨rfl, rfl⟩)); refine hK _ _ ?_; clear hK K
          -- 1: t5
          refine stepK rfl (by kernel_rfl) (fun K hK => ?_); go_simp
          apply Exists.intro; apply And.intro; (focus (intro wk hk; go_simp; exact ⟨rfl, rfl⟩)); refine hK _ _ ?_; clear hK K
          -- 2: indexAddr<22> t16[t17]
          refine stepK rfl (by kernel_rfl) (fun K hK => ?_); go_simp
          apply Exists.intro; apply And.intro; (focus (intro wk hk; go_simp; exact ⟨rfl, rfl⟩)); refine hK _ _ ?_; clear hK K
          -- 3: load<3> *t18
          refine stepK rfl (by kernel_rfl) (fun K hK => ?_); go_simp
          apply Exists.intro; apply And.intro; (focus (intro wk hk; have cc : wk.cell? ⟨gx, ox + i, none⟩ = some (.int .i64 x) := (World.cell?_of_block (hk.undrew.below.block _ hgx)).trans cx0; go_simp; exact ⟨rfl, rfl⟩)); refine hK _ _ ?_; clear hK K
          -- 4: t1
          refine stepK rfl (by kernel_rfl) (fun K hK => ?_); go_simp
          apply Exists.intro; apply And.intro; (focus (intro wk hk; go_simp; exact ⟨rfl, rfl⟩)); refine hK _ _ ?_; clear hK K
          -- 5: t5
          refine stepK rfl (by kernel_rfl) (fun K hK => ?_); go_simp
          apply Exists.intro; apply And.intro; (focus (intro wk hk; go_simp; exact ⟨rfl, rfl⟩)); refine hK _ _ ?_; clear hK K
          -- 6: indexAddr<22> t20[t21]
          refine stepK rfl (by kernel_rfl) (fun K hK => ?_); go_simp
          apply Exists.intro; apply And.intro; (focus (intro wk hk; go_simp; exact ⟨rfl, rfl⟩)); refine hK _ _ ?_; clear hK K
          -- 7: load<3> *t22
          refine stepK rfl (by kernel_rfl) (fun K hK => ?_); go_simp
          apply Exists.intro; apply And.intro; (focus (intro wk hk; have cc : wk.cell? ⟨gy, oy + i, none⟩ = some (.int .i64 y) := (World.cell?_of_block (hk.undrew.below.block _ hgy)).trans cy0; go_simp; exact ⟨rfl, rfl⟩)); refine hK _ _ ?_; clear hK K
          -- 8: neq<3> t19, t23
          refine stepK rfl (by kernel_rfl) (fun K hK => ?_); go_simp
          apply Exists.intro; apply And.intro; (focus (intro wk hk; go_simp; exact ⟨rfl, rfl⟩)); refine hK _ _ ?_; clear hK K
          refine stepN ?_
          refine hQ _ _ ?_
          intro w1 hT hG hF
          have hl1 := Lib.hid (hinv.out.trans (hT.undrew.below.mono hinv.out.size))
          clear hT hG hF hQ QQ L cx0 cy0 hinv
          go_wp2_with fail
          go_ret
          exact ⟨rfl, hl1.out⟩
      · obtain rfl : i = n1 := by omega
        have hlt : ¬ (i : Int) < (i : Int) := by omega
        have hbt : b = true := by
          rw [← HB.out.1]
          have h := heq.out
          rw [List.take_of_length_le (by have := HB.out.2.1; omega), List.take_of_length_le (by have := HB.out.2.2; omega)] at h
          exact decide_eq_true h
        subst hbt
        clear heq
        go_wp2_with fail
        go_ret
        exact ⟨rfl, hinv.out⟩
  · have hd : ¬ (n1 : Int) = (n2 : Int) := by omega
    have hbf : b = false := by rw [← HB.out.1]; exact decide_eq_false (fun h => hne (by rw [← HB.out.2.1, ← HB.out.2.2, h]))
    subst hbf
    clear hne
    go_enter Try.func217, Try.ntmps217
    go_wp2_with fail
    go_ret
    exact ⟨rfl, Below.refl _ _⟩
set_option maxRecDepth 100000 in
set_option maxHeartbeats 16000000 in
theorem isRef_at (u v : Value) (l k : List Int) (w : World) (hu : Is w u l) (hv : Is w v k) (hL : l.length ≤ 140737488355328) :
    Calls Try.prog 219 #[u, v] w fun r w' => r = .returned (.bool (decide (l = k))) ∧ Below w.heap.size w w' := by
  have HU := Lib.hid (show _ ∧ True from ⟨hu, trivial⟩)
  have HV := Lib.hid (show _ ∧ True from ⟨hv, trivial⟩)
  obtain ⟨q1, c1, rfl, -⟩ := hu
  obtain ⟨q2, c2, rfl, -⟩ := hv
  obtain ⟨n1, hn1⟩ : ∃ n, l.length = n := ⟨_, rfl⟩
  obtain ⟨n2, hn2⟩ : ∃ n, k.length = n := ⟨_, rfl⟩
  rw [hn1] at HU hL
  rw [hn2] at HV
  obtain ⟨b, hb⟩ : ∃ b, decide (l = k) = b := ⟨_, rfl⟩
  rw [hb, hn1, hn2]
  have HB := Lib.hid (show _ ∧ _ ∧ _ from ⟨hb, hn1, hn2⟩)
  have hni : (n1 : Int) ≤ 140737488355328 := by omega
  clear hb hn1 hn2 hL
  by_cases hne : n1 = n2
  · subst hne
    go_enter Try.func219, Try.ntmps219
    go_wp2_with fail
    go_loopg [5, 13] n1 (fun gg s5 s13 wr => ∃ i : Nat, i + gg = n1 ∧ s13 = .int .i64 (i : Int) ∧ Hid (l.take i = k.take i) ∧ Hid (Below w.heap.size w wr))
    case atStart => exact ⟨0, by omega, rfl, Lib.hid (by rw [List.take_zero, List.take_zero]), Lib.hid (Below.refl _ _)⟩
    case round =>
      obtain ⟨i, him, rfl, heq, hinv⟩ := hrel
      by_cases hi : i < n1
      · obtain ⟨x, hx⟩ : ∃ x, l[i]? = some x := ⟨_, List.getElem?_eq_getElem (by have := HB.out.2.1; omega)⟩
        obtain ⟨y, hy⟩ : ∃ y, k[i]? = some y := ⟨_, List.getElem?_eq_getElem (by have := HB.out.2.2; omega)⟩
        obtain ⟨gx, ox, cx', hu, hgx, hcx⟩ := (HU.out.1.below hinv.out).get hx
        simp only [Value.slice.injEq] at hu
        obtain ⟨rfl, -, -⟩ := hu
        obtain ⟨gy, oy, cy', hu, hgy, hcy⟩ := (HV.out.1.below hinv.out).get hy
        simp only [Value.slice.injEq] at hu
        obtain ⟨rfl, -, -⟩ := hu
        have cx0 : wr.cell? ⟨gx, ox + i, none⟩ = some (.int .i64 x) := by have h := hcx 0 _ rfl; simpa using h
        have cy0 : wr.cell? ⟨gy, oy + i, none⟩ = some (.int .i64 y) := by have h := hcy 0 _ rfl; simpa using h
        clear hcx hcy
        have HX := Lib.hid (show _ ∧ _ from ⟨hx, hy⟩)
        clear hx hy
        have hlt : (i : Int) < (n1 : Int) := by omega
        by_cases hxy : x = y
        · subst hxy
          have q1 := trivial
          have hnext := Lib.hid (take_app_eq' HX.out.1 HX.out.2 heq.out rfl)
          clear HX heq
          go_upto_region 6 with (fail)
          let L : List Sp := []
          refine wp_region_six (shs L) (look6 L) (None_) (by kernel_rfl) (by kernel_rfl) (mk_St L [] [] (by kernel_rfl) (by kernel_rfl) trivial (by simp)) ?_
          intro QQ hQ
          -- 0: t0
          refine stepK rfl (by kernel_rfl) (fun K hK => ?_); go_simp
          apply Exists.intro; apply And.intro; (focus (intro wk hk; go_simp; exact ⟨rfl, rfl⟩)); refine hK _ _ ?_; clear hK K
          -- 1: t5
          refine stepK rfl (by kernel_rfl) (fun K hK => ?_); go_simp
          apply Exists.intro; apply And.intro; (focus (intro wk hk; go_simp; exact ⟨rfl, rfl⟩)); refine hK _ _ ?_; clear hK K
          -- 2: indexAddr<22> t16[t17]
          refine stepK rfl (by kernel_rfl) (fun K hK => ?_); go_simp
          apply Exists.intro; apply And.intro; (focus (intro wk hk; go_simp; exact ⟨rfl, rfl⟩)); refine hK _ _ ?_; clear hK K
          -- 3: load<3> *t18
          refine stepK rfl (by kernel_rfl) (fun K hK => ?_); go_simp
          apply Exists.intro; apply And.intro; (focus (intro wk hk; have cc : wk.cell? ⟨gx, ox + i, none⟩ = some (.int .i64 x) := (World.cell?_of_block (hk.undrew.below.block _ hgx)).trans cx0; go_simp; exact ⟨rfl, rfl⟩)); refine hK _ _ ?_; clear hK K
          -- 4: t1
          refine stepK rfl (by kernel_rfl) (fun K hK => ?_); go_simp
          apply Exists.intro; apply And.intro; (focus (intro wk hk; go_simp; exact ⟨rfl, rfl⟩)); refine hK _ _ ?_; clear hK K
          -- 5: t5
          refine stepK rfl (by kernel_rfl) (fun K hK => ?_); go_simp
          apply Exists.intro; apply And.intro; (focus (intro wk hk; go_simp; exact ⟨rfl, rfl⟩)); refine hK _ _ ?_; clear hK K
          -- 6: indexAddr<22> t20[t21]
          refine stepK rfl (by kernel_rfl) (fun K hK => ?_); go_simp
          apply Exists.intro; apply And.intro; (focus (intro wk hk; go_simp; exact ⟨rfl, rfl⟩)); refine hK _ _ ?_; clear hK K
          -- 7: load<3> *t22
          refine stepK rfl (by kernel_rfl) (fun K hK => ?_); go_simp
          apply Exists.intro; apply And.intro; (focus (intro wk hk; have cc : wk.cell? ⟨gy, oy + i, none⟩ = some (.int .i64 x) := (World.cell?_of_block (hk.undrew.below.block _ hgy)).trans cy0; go_simp; exact ⟨rfl, rfl⟩)); refine hK _ _ ?_; clear hK K
          -- 8: neq<3> t19, t23
          refine stepK rfl (by kernel_rfl) (fun K hK => ?_); go_simp
          apply Exists.intro; apply And.intro; (focus (intro wk hk; go_simp; exact ⟨rfl, rfl⟩)); refine hK _ _ ?_; clear hK K
          refine stepN ?_
          refine hQ _ _ ?_
          intro w1 hT hG hF
          have hl1 := Lib.hid (hinv.out.trans (hT.undrew.below.mono hinv.out.size))
          clear hT hG hF hQ QQ L cx0 cy0 hinv q1
          go_wp2_with fail
          go_roundg (gk - 1)
          case measure => omega
          case rel => exact ⟨i + 1, by omega, by go_num, hnext, hl1⟩
        · have q1 : (x != y) = true := by rw [bne_iff_ne]; exact hxy
          have hbf : b = false := by rw [← HB.out.1]; exact decide_eq_false (get_ne' HX.out.1 HX.out.2 hxy)
          subst hbf
          clear HX heq hxy
          go_upto_region 6 with (fail)
          let L : List Sp := []
          refine wp_region_six (shs L) (look6 L) (None_) (by kernel_rfl) (by kernel_rfl) (mk_St L [] [] (by kernel_rfl) (by kernel_rfl) trivial (by simp)) ?_
          intro QQ hQ
          -- 0: t0
          refine stepK rfl (by kernel_rfl) (fun K hK => ?_); go_simp
          apply Exists.intro; apply And.intro; (focus (intro wk hk; go_simp; exact ⟨rfl, rfl⟩)); refine hK _ _ ?_; clear hK K
          -- 1: t5
          refine stepK rfl (by kernel_rfl) (fun K hK => ?_); go_simp
          apply Exists.intro; apply And.intro; (focus (intro wk hk; go_simp; exact ⟨rfl, rfl⟩)); refine hK _ _ ?_; clear hK K
          -- 2: indexAddr<22> t16[t17]
          refine stepK rfl (by kernel_rfl) (fun K hK => ?_); go_simp
          apply Exists.intro; apply And.intro; (focus (intro wk hk; go_simp; exact ⟨rfl, rfl⟩)); refine hK _ _ ?_; clear hK K
          -- 3: load<3> *t18
          refine stepK rfl (by kernel_rfl) (fun K hK => ?_); go_simp
          apply Exists.intro; apply And.intro; (focus (intro wk hk; have cc : wk.cell? ⟨gx, ox + i, none⟩ = some (.int .i64 x) := (World.cell?_of_block (hk.undrew.below.block _ hgx)).trans cx0; go_simp; exact ⟨rfl, rfl⟩)); refine hK _ _ ?_; clear hK K
          -- 4: t1
          refine stepK rfl (by kernel_rfl) (fun K hK => ?_); go_simp
          apply Exists.intro; apply And.intro; (focus (intro wk hk; go_simp; exact ⟨rfl, rfl⟩)); refine hK _ _ ?_; clear hK K
          -- 5: t5
          refine stepK rfl (by kernel_rfl) (fun K hK => ?_); go_simp
          apply Exists.intro; apply And.intro; (focus (intro wk hk; go_simp; exact ⟨rfl, rfl⟩)); refine hK _ _ ?_; clear hK K
          -- 6: indexAddr<22> t20[t21]
          refine stepK rfl (by kernel_rfl) (fun K hK => ?_); go_simp
          apply Exists.intro; apply And.intro; (focus (intro wk hk; go_simp; exact ⟨rfl, rfl⟩)); refine hK _ _ ?_; clear hK K
          -- 7: load<3> *t22
          refine stepK rfl (by kernel_rfl) (fun K hK => ?_); go_simp
          apply Exists.intro; apply And.intro; (focus (intro wk hk; have cc : wk.cell? ⟨gy, oy + i, none⟩ = some (.int .i64 y) := (World.cell?_of_block (hk.undrew.below.block _ hgy)).trans cy0; go_simp; exact ⟨rfl, rfl⟩)); refine hK _ _ ?_; clear hK K
          -- 8: neq<3> t19, t23
          refine stepK rfl (by kernel_rfl) (fun K hK => ?_); go_simp
          apply Exists.intro; apply And.intro; (focus (intro wk hk; go_simp; exact ⟨rfl, rfl⟩)); refine hK _ _ ?_; clear hK K
          refine stepN ?_
          refine hQ _ _ ?_
          intro w1 hT hG hF
          have hl1 := Lib.hid (hinv.out.trans (hT.undrew.below.mono hinv.out.size))
          clear hT hG hF hQ QQ L cx0 cy0 hinv
          go_wp2_with fail
          go_ret
          exact ⟨rfl, hl1.out⟩
      · obtain rfl : i = n1 := by omega
        have hlt : ¬ (i : Int) < (i : Int) := by omega
        have hbt : b = true := by
          rw [← HB.out.1]
          have h := heq.out
          rw [List.take_of_length_le (by have := HB.out.2.1; omega), List.take_of_length_le (by have := HB.out.2.2; omega)] at h
          exact decide_eq_true h
        subst hbt
        clear heq
        go_wp2_with fail
        go_ret
        exact ⟨rfl, hinv.out⟩
  · have hd : ¬ (n1 : Int) = (n2 : Int) := by omega
    have hbf : b = false := by rw [← HB.out.1]; exact decide_eq_false (fun h => hne (by rw [← HB.out.2.1, ← HB.out.2.2, h]))
    subst hbf
    clear hne
    go_enter Try.func219, Try.ntmps219
    go_wp2_with fail
    go_ret
    exact ⟨rfl, Below.refl _ _⟩
set_option maxRecDepth 100000 in
set_option maxHeartbeats 16000000 in
theorem hsEq_at (u v : Value) (l k : List (List Int)) (w : World) (hu : Hs w u l) (hv : Hs w v k) (hlH : ∀ x ∈ l, x.length = 32) (hkH : ∀ x ∈ k, x.length = 32) (hL : l.length ≤ 140737488355328) :
    Calls Try.prog 218 #[u, v] w fun r w' => r = .returned (.bool (decide (l = k))) ∧ Below w.heap.size w w' := by
  have HU := Lib.hid (show _ ∧ _ from ⟨hu, hlH⟩)
  have HV := Lib.hid (show _ ∧ _ from ⟨hv, hkH⟩)
  obtain ⟨q1, c1, rfl, -⟩ := hu
  obtain ⟨q2, c2, rfl, -⟩ := hv
  obtain ⟨n1, hn1⟩ : ∃ n, l.length = n := ⟨_, rfl⟩
  obtain ⟨n2, hn2⟩ : ∃ n, k.length = n := ⟨_, rfl⟩
  rw [hn1] at HU hL
  rw [hn2] at HV
  obtain ⟨b, hb⟩ : ∃ b, decide (l = k) = b := ⟨_, rfl⟩
  rw [hb, hn1, hn2]
  have HB := Lib.hid (show _ ∧ _ ∧ _ from ⟨hb, hn1, hn2⟩)
  have hni : (n1 : Int) ≤ 140737488355328 := by omega
  clear hlH hkH hb hn1 hn2 hL
  by_cases hne : n1 = n2
  · subst hne
    go_enter Try.func218, Try.ntmps218
    go_wp2_with fail
    go_loopg [5, 13] n1 (fun gg s5 s13 wr => ∃ i : Nat, i + gg = n1 ∧ s13 = .int .i64 (i : Int) ∧ Hid (l.take i = k.take i) ∧ Hid (Below w.heap.size w wr))
    case atStart => exact ⟨0, by omega, rfl, Lib.hid (by rw [List.take_zero, List.take_zero]), Lib.hid (Below.refl _ _)⟩
    case round =>
      obtain ⟨i, him, rfl, heq, hinv⟩ := hrel
      by_cases hi : i < n1
      · obtain ⟨x, hx⟩ : ∃ x, l[i]? = some x := ⟨_, List.getElem?_eq_getElem (by have := HB.out.2.1; omega)⟩
        obtain ⟨y, hy⟩ : ∃ y, k[i]? = some y := ⟨_, List.getElem?_eq_getElem (by have := HB.out.2.2; omega)⟩
        obtain ⟨gx, ox, cx', hu, hgx, hcx⟩ := (HU.out.1.below hinv.out).get hx
        simp only [Value.slice.injEq] at hu
        obtain ⟨rfl, -, -⟩ := hu
        obtain ⟨gy, oy, cy', hu, hgy, hcy⟩ := (HV.out.1.below hinv.out).get hy
        simp only [Value.slice.injEq] at hu
        obtain ⟨rfl, -, -⟩ := hu
        have hxl := HU.out.2 x (List.mem_of_getElem? hx)
        have hyl := HV.out.2 y (List.mem_of_getElem? hy)
        have hbx : (bv x).length = 32 := by rw [bv_len]; exact hxl
        have hby : (bv y).length = 32 := by rw [bv_len]; exact hyl
        have HX := Lib.hid (show _ ∧ _ from ⟨hx, hy⟩)
        clear hx hy
        have hlt : (i : Int) < (n1 : Int) := by omega
        by_cases hxy : x = y
        · subst hxy
          have q1 : ∀ wx, (Op.equalIn 10000 35 (.agg (bv x).toArray) (.agg (bv x).toArray)).run Try.prog wx = .ok true wx := fun wx => by rw [eqH hxl hyl, decide_eq_true rfl]
          have hnext := Lib.hid (take_app_eq' HX.out.1 HX.out.2 heq.out rfl)
          clear hxl hyl HX heq
          go_upto_region 6 with (fail)
          let L : List Sp := []
          refine wp_region_six (shs L) (look6 L) (None_) (by kernel_rfl) (by kernel_rfl) (mk_St L [] [] (by kernel_rfl) (by kernel_rfl) trivial (by simp)) ?_
          intro QQ hQ
          -- 0: t0
          refine stepK rfl (by kernel_rfl) (fun K hK => ?_); go_simp
          apply Exists.intro; apply And.intro; (focus (intro wk hk; go_simp; exact ⟨rfl, rfl⟩)); refine hK _ _ ?_; clear hK K
          -- 1: t5
          refine stepK rfl (by kernel_rfl) (fun K hK => ?_); go_simp
          apply Exists.intro; apply And.intro; (focus (intro wk hk; go_simp; exact ⟨rfl, rfl⟩)); refine hK _ _ ?_; clear hK K
          -- 2: indexAddr<111> t16[t17]
          refine stepK rfl (by kernel_rfl) (fun K hK => ?_); go_simp
          apply Exists.intro; apply And.intro; (focus (intro wk hk; go_simp; exact ⟨rfl, rfl⟩)); refine hK _ _ ?_; clear hK K
          -- 3: load<35> *t18
          refine stepK rfl (by kernel_rfl) (fun K hK => ?_); go_simp
          apply Exists.intro; apply And.intro; (focus exact kLoadE rfl rfl aggR35 hcx hbx hgx id); refine hK _ _ ?_; clear hK K
          -- 4: t1
          refine stepK rfl (by kernel_rfl) (fun K hK => ?_); go_simp
          apply Exists.intro; apply And.intro; (focus (intro wk hk; go_simp; exact ⟨rfl, rfl⟩)); refine hK _ _ ?_; clear hK K
          -- 5: t5
          refine stepK rfl (by kernel_rfl) (fun K hK => ?_); go_simp
          apply Exists.intro; apply And.intro; (focus (intro wk hk; go_simp; exact ⟨rfl, rfl⟩)); refine hK _ _ ?_; clear hK K
          -- 6: indexAddr<111> t20[t21]
          refine stepK rfl (by kernel_rfl) (fun K hK => ?_); go_simp
          apply Exists.intro; apply And.intro; (focus (intro wk hk; go_simp; exact ⟨rfl, rfl⟩)); refine hK _ _ ?_; clear hK K
          -- 7: load<35> *t22
          refine stepK rfl (by kernel_rfl) (fun K hK => ?_); go_simp
          apply Exists.intro; apply And.intro; (focus exact kLoadE rfl rfl aggR35 hcy hby hgy id); refine hK _ _ ?_; clear hK K
          -- 8: neq<35> t19, t23
          refine stepK rfl (by kernel_rfl) (fun K hK => ?_); go_simp
          apply Exists.intro; apply And.intro; (focus (intro wk hk; go_simp; exact ⟨rfl, rfl⟩)); refine hK _ _ ?_; clear hK K
          refine stepN ?_
          refine hQ _ _ ?_
          intro w1 hT hG hF
          have hl1 := Lib.hid (hinv.out.trans (hT.undrew.below.mono hinv.out.size))
          clear hT hG hF hQ QQ L hcx hcy hinv q1
          go_wp2_with fail
          go_roundg (gk - 1)
          case measure => omega
          case rel => exact ⟨i + 1, by omega, by go_num, hnext, hl1⟩
        · have q1 : ∀ wx, (Op.equalIn 10000 35 (.agg (bv x).toArray) (.agg (bv y).toArray)).run Try.prog wx = .ok false wx := fun wx => by rw [eqH hxl hyl, decide_eq_false hxy]
          have hbf : b = false := by rw [← HB.out.1]; exact decide_eq_false (get_ne' HX.out.1 HX.out.2 hxy)
          subst hbf
          clear hxl hyl HX heq hxy
          go_upto_region 6 with (fail)
          let L : List Sp := []
          refine wp_region_six (shs L) (look6 L) (None_) (by kernel_rfl) (by kernel_rfl) (mk_St L [] [] (by kernel_rfl) (by kernel_rfl) trivial (by simp)) ?_
          intro QQ hQ
          -- 0: t0
          refine stepK rfl (by kernel_rfl) (fun K hK => ?_); go_simp
          apply Exists.intro; apply And.intro; (focus (intro wk hk; go_simp; exact ⟨rfl, rfl⟩)); refine hK _ _ ?_; clear hK K
          -- 1: t5
          refine stepK rfl (by kernel_rfl) (fun K hK => ?_); go_simp
          apply Exists.intro; apply And.intro; (focus (intro wk hk; go_simp; exact ⟨rfl, rfl⟩)); refine hK _ _ ?_; clear hK K
          -- 2: indexAddr<111> t16[t17]
          refine stepK rfl (by kernel_rfl) (fun K hK => ?_); go_simp
          apply Exists.intro; apply And.intro; (focus (intro wk hk; go_simp; exact ⟨rfl, rfl⟩)); refine hK _ _ ?_; clear hK K
          -- 3: load<35> *t18
          refine stepK rfl (by kernel_rfl) (fun K hK => ?_); go_simp
          apply Exists.intro; apply And.intro; (focus exact kLoadE rfl rfl aggR35 hcx hbx hgx id); refine hK _ _ ?_; clear hK K
          -- 4: t1
          refine stepK rfl (by kernel_rfl) (fun K hK => ?_); go_simp
          apply Exists.intro; apply And.intro; (focus (intro wk hk; go_simp; exact ⟨rfl, rfl⟩)); refine hK _ _ ?_; clear hK K
          -- 5: t5
          refine stepK rfl (by kernel_rfl) (fun K hK => ?_); go_simp
          apply Exists.intro; apply And.intro; (focus (intro wk hk; go_simp; exact ⟨rfl, rfl⟩)); refine hK _ _ ?_; clear hK K
          -- 6: indexAddr<111> t20[t21]
          refine stepK rfl (by kernel_rfl) (fun K hK => ?_); go_simp
          apply Exists.intro; apply And.intro; (focus (intro wk hk; go_simp; exact ⟨rfl, rfl⟩)); refine hK _ _ ?_; clear hK K
          -- 7: load<35> *t22
          refine stepK rfl (by kernel_rfl) (fun K hK => ?_); go_simp
          apply Exists.intro; apply And.intro; (focus exact kLoadE rfl rfl aggR35 hcy hby hgy id); refine hK _ _ ?_; clear hK K
          -- 8: neq<35> t19, t23
          refine stepK rfl (by kernel_rfl) (fun K hK => ?_); go_simp
          apply Exists.intro; apply And.intro; (focus (intro wk hk; go_simp; exact ⟨rfl, rfl⟩)); refine hK _ _ ?_; clear hK K
          refine stepN ?_
          refine hQ _ _ ?_
          intro w1 hT hG hF
          have hl1 := Lib.hid (hinv.out.trans (hT.undrew.below.mono hinv.out.size))
          clear hT hG hF hQ QQ L hcx hcy hinv
          go_wp2_with fail
          go_ret
          exact ⟨rfl, hl1.out⟩
      · obtain rfl : i = n1 := by omega
        have hlt : ¬ (i : Int) < (i : Int) := by omega
        have hbt : b = true := by
          rw [← HB.out.1]
          have h := heq.out
          rw [List.take_of_length_le (by have := HB.out.2.1; omega), List.take_of_length_le (by have := HB.out.2.2; omega)] at h
          exact decide_eq_true h
        subst hbt
        clear heq
        go_wp2_with fail
        go_ret
        exact ⟨rfl, hinv.out⟩
  · have hd : ¬ (n1 : Int) = (n2 : Int) := by omega
    have hbf : b = false := by rw [← HB.out.1]; exact decide_eq_false (fun h => hne (by rw [← HB.out.2.1, ← HB.out.2.2, h]))
    subst hbf
    clear hne
    go_enter Try.func218, Try.ntmps218
    go_wp2_with fail
    go_ret
    exact ⟨rfl, Below.refl _ _⟩
set_option maxRecDepth 100000 in
set_option maxHeartbeats 16000000 in
theorem hsRef_at (u v : Value) (l k : List (List Int)) (w : World) (hu : Hs w u l) (hv : Hs w v k) (hlH : ∀ x ∈ l, x.length = 32) (hkH : ∀ x ∈ k, x.length = 32) (hL : l.length ≤ 140737488355328) :
    Calls Try.prog 220 #[u, v] w fun r w' => r = .returned (.bool (decide (l = k))) ∧ Below w.heap.size w w' := by
  have HU := Lib.hid (show _ ∧ _ from ⟨hu, hlH⟩)
  have HV := Lib.hid (show _ ∧ _ from ⟨hv, hkH⟩)
  obtain ⟨q1, c1, rfl, -⟩ := hu
  obtain ⟨q2, c2, rfl, -⟩ := hv
  obtain ⟨n1, hn1⟩ : ∃ n, l.length = n := ⟨_, rfl⟩
  obtain ⟨n2, hn2⟩ : ∃ n, k.length = n := ⟨_, rfl⟩
  rw [hn1] at HU hL
  rw [hn2] at HV
  obtain ⟨b, hb⟩ : ∃ b, decide (l = k) = b := ⟨_, rfl⟩
  rw [hb, hn1, hn2]
  have HB := Lib.hid (show _ ∧ _ ∧ _ from ⟨hb, hn1, hn2⟩)
  have hni : (n1 : Int) ≤ 140737488355328 := by omega
  clear hlH hkH hb hn1 hn2 hL
  by_cases hne : n1 = n2
  · subst hne
    go_enter Try.func220, Try.ntmps220
    go_wp2_with fail
    go_loopg [5, 13] n1 (fun gg s5 s13 wr => ∃ i : Nat, i + gg = n1 ∧ s13 = .int .i64 (i : Int) ∧ Hid (l.take i = k.take i) ∧ Hid (Below w.heap.size w wr))
    case atStart => exact ⟨0, by omega, rfl, Lib.hid (by rw [List.take_zero, List.take_zero]), Lib.hid (Below.refl _ _)⟩
    case round =>
      obtain ⟨i, him, rfl, heq, hinv⟩ := hrel
      by_cases hi : i < n1
      · obtain ⟨x, hx⟩ : ∃ x, l[i]? = some x := ⟨_, List.getElem?_eq_getElem (by have := HB.out.2.1; omega)⟩
        obtain ⟨y, hy⟩ : ∃ y, k[i]? = some y := ⟨_, List.getElem?_eq_getElem (by have := HB.out.2.2; omega)⟩
        obtain ⟨gx, ox, cx', hu, hgx, hcx⟩ := (HU.out.1.below hinv.out).get hx
        simp only [Value.slice.injEq] at hu
        obtain ⟨rfl, -, -⟩ := hu
        obtain ⟨gy, oy, cy', hu, hgy, hcy⟩ := (HV.out.1.below hinv.out).get hy
        simp only [Value.slice.injEq] at hu
        obtain ⟨rfl, -, -⟩ := hu
        have hxl := HU.out.2 x (List.mem_of_getElem? hx)
        have hyl := HV.out.2 y (List.mem_of_getElem? hy)
        have hbx : (bv x).length = 32 := by rw [bv_len]; exact hxl
        have hby : (bv y).length = 32 := by rw [bv_len]; exact hyl
        have HX := Lib.hid (show _ ∧ _ from ⟨hx, hy⟩)
        clear hx hy
        have hlt : (i : Int) < (n1 : Int) := by omega
        by_cases hxy : x = y
        · subst hxy
          have q1 : ∀ wx, (Op.equalIn 10000 35 (.agg (bv x).toArray) (.agg (bv x).toArray)).run Try.prog wx = .ok true wx := fun wx => by rw [eqH hxl hyl, decide_eq_true rfl]
          have hnext := Lib.hid (take_app_eq' HX.out.1 HX.out.2 heq.out rfl)
          clear hxl hyl HX heq
          go_upto_region 6 with (fail)
          let L : List Sp := []
          refine wp_region_six (shs L) (look6 L) (None_) (by kernel_rfl) (by kernel_rfl) (mk_St L [] [] (by kernel_rfl) (by kernel_rfl) trivial (by simp)) ?_
          intro QQ hQ
          -- 0: t0
          refine stepK rfl (by kernel_rfl) (fun K hK => ?_); go_simp
          apply Exists.intro; apply And.intro; (focus (intro wk hk; go_simp; exact ⟨rfl, rfl⟩)); refine hK _ _ ?_; clear hK K
          -- 1: t5
          refine stepK rfl (by kernel_rfl) (fun K hK => ?_); go_simp
          apply Exists.intro; apply And.intro; (focus (intro wk hk; go_simp; exact ⟨rfl, rfl⟩)); refine hK _ _ ?_; clear hK K
          -- 2: indexAddr<111> t16[t17]
          refine stepK rfl (by kernel_rfl) (fun K hK => ?_); go_simp
          apply Exists.intro; apply And.intro; (focus (intro wk hk; go_simp; exact ⟨rfl, rfl⟩)); refine hK _ _ ?_; clear hK K
          -- 3: load<35> *t18
          refine stepK rfl (by kernel_rfl) (fun K hK => ?_); go_simp
          apply Exists.intro; apply And.intro; (focus exact kLoadE rfl rfl aggR35 hcx hbx hgx id); refine hK _ _ ?_; clear hK K
          -- 4: t1
          refine stepK rfl (by kernel_rfl) (fun K hK => ?_); go_simp
          apply Exists.intro; apply And.intro; (focus (intro wk hk; go_simp; exact ⟨rfl, rfl⟩)); refine hK _ _ ?_; clear hK K
          -- 5: t5
          refine stepK rfl (by kernel_rfl) (fun K hK => ?_); go_simp
          apply Exists.intro; apply And.intro; (focus (intro wk hk; go_simp; exact ⟨rfl, rfl⟩)); refine hK _ _ ?_; clear hK K
          -- 6: indexAddr<111> t20[t21]
          refine stepK rfl (by kernel_rfl) (fun K hK => ?_); go_simp
          apply Exists.intro; apply And.intro; (focus (intro wk hk; go_simp; exact ⟨rfl, rfl⟩)); refine hK _ _ ?_; clear hK K
          -- 7: load<35> *t22
          refine stepK rfl (by kernel_rfl) (fun K hK => ?_); go_simp
          apply Exists.intro; apply And.intro; (focus exact kLoadE rfl rfl aggR35 hcy hby hgy id); refine hK _ _ ?_; clear hK K
          -- 8: neq<35> t19, t23
          refine stepK rfl (by kernel_rfl) (fun K hK => ?_); go_simp
          apply Exists.intro; apply And.intro; (focus (intro wk hk; go_simp; exact ⟨rfl, rfl⟩)); refine hK _ _ ?_; clear hK K
          refine stepN ?_
          refine hQ _ _ ?_
          intro w1 hT hG hF
          have hl1 := Lib.hid (hinv.out.trans (hT.undrew.below.mono hinv.out.size))
          clear hT hG hF hQ QQ L hcx hcy hinv q1
          go_wp2_with fail
          go_roundg (gk - 1)
          case measure => omega
          case rel => exact ⟨i + 1, by omega, by go_num, hnext, hl1⟩
        · have q1 : ∀ wx, (Op.equalIn 10000 35 (.agg (bv x).toArray) (.agg (bv y).toArray)).run Try.prog wx = .ok false wx := fun wx => by rw [eqH hxl hyl, decide_eq_false hxy]
          have hbf : b = false := by rw [← HB.out.1]; exact decide_eq_false (get_ne' HX.out.1 HX.out.2 hxy)
          subst hbf
          clear hxl hyl HX heq hxy
          go_upto_region 6 with (fail)
          let L : List Sp := []
          refine wp_region_six (shs L) (look6 L) (None_) (by kernel_rfl) (by kernel_rfl) (mk_St L [] [] (by kernel_rfl) (by kernel_rfl) trivial (by simp)) ?_
          intro QQ hQ
          -- 0: t0
          refine stepK rfl (by kernel_rfl) (fun K hK => ?_); go_simp
          apply Exists.intro; apply And.intro; (focus (intro wk hk; go_simp; exact ⟨rfl, rfl⟩)); refine hK _ _ ?_; clear hK K
          -- 1: t5
          refine stepK rfl (by kernel_rfl) (fun K hK => ?_); go_simp
          apply Exists.intro; apply And.intro; (focus (intro wk hk; go_simp; exact ⟨rfl, rfl⟩)); refine hK _ _ ?_; clear hK K
          -- 2: indexAddr<111> t16[t17]
          refine stepK rfl (by kernel_rfl) (fun K hK => ?_); go_simp
          apply Exists.intro; apply And.intro; (focus (intro wk hk; go_simp; exact ⟨rfl, rfl⟩)); refine hK _ _ ?_; clear hK K
          -- 3: load<35> *t18
          refine stepK rfl (by kernel_rfl) (fun K hK => ?_); go_simp
          apply Exists.intro; apply And.intro; (focus exact kLoadE rfl rfl aggR35 hcx hbx hgx id); refine hK _ _ ?_; clear hK K
          -- 4: t1
          refine stepK rfl (by kernel_rfl) (fun K hK => ?_); go_simp
          apply Exists.intro; apply And.intro; (focus (intro wk hk; go_simp; exact ⟨rfl, rfl⟩)); refine hK _ _ ?_; clear hK K
          -- 5: t5
          refine stepK rfl (by kernel_rfl) (fun K hK => ?_); go_simp
          apply Exists.intro; apply And.intro; (focus (intro wk hk; go_simp; exact ⟨rfl, rfl⟩)); refine hK _ _ ?_; clear hK K
          -- 6: indexAddr<111> t20[t21]
          refine stepK rfl (by kernel_rfl) (fun K hK => ?_); go_simp
          apply Exists.intro; apply And.intro; (focus (intro wk hk; go_simp; exact ⟨rfl, rfl⟩)); refine hK _ _ ?_; clear hK K
          -- 7: load<35> *t22
          refine stepK rfl (by kernel_rfl) (fun K hK => ?_); go_simp
          apply Exists.intro; apply And.intro; (focus exact kLoadE rfl rfl aggR35 hcy hby hgy id); refine hK _ _ ?_; clear hK K
          -- 8: neq<35> t19, t23
          refine stepK rfl (by kernel_rfl) (fun K hK => ?_); go_simp
          apply Exists.intro; apply And.intro; (focus (intro wk hk; go_simp; exact ⟨rfl, rfl⟩)); refine hK _ _ ?_; clear hK K
          refine stepN ?_
          refine hQ _ _ ?_
          intro w1 hT hG hF
          have hl1 := Lib.hid (hinv.out.trans (hT.undrew.below.mono hinv.out.size))
          clear hT hG hF hQ QQ L hcx hcy hinv
          go_wp2_with fail
          go_ret
          exact ⟨rfl, hl1.out⟩
      · obtain rfl : i = n1 := by omega
        have hlt : ¬ (i : Int) < (i : Int) := by omega
        have hbt : b = true := by
          rw [← HB.out.1]
          have h := heq.out
          rw [List.take_of_length_le (by have := HB.out.2.1; omega), List.take_of_length_le (by have := HB.out.2.2; omega)] at h
          exact decide_eq_true h
        subst hbt
        clear heq
        go_wp2_with fail
        go_ret
        exact ⟨rfl, hinv.out⟩
  · have hd : ¬ (n1 : Int) = (n2 : Int) := by omega
    have hbf : b = false := by rw [← HB.out.1]; exact decide_eq_false (fun h => hne (by rw [← HB.out.2.1, ← HB.out.2.2, h]))
    subst hbf
    clear hne
    go_enter Try.func220, Try.ntmps220
    go_wp2_with fail
    go_ret
    exact ⟨rfl, Below.refl _ _⟩
end Go.Proofs.Ytpdenhmkpiafiaa
