/-
  What the statement rests on, part 5: TxBase OctPlain TxData.
-/
import Derived.Test.YtpdenhmkpiafiaaQTC1
import Derived.Test.YtpdenhmkpiafiaaQTC3
namespace Go.Proofs.Ytpdenhmkpiafiaa
open Go Go.RowKit K6
def Rs {α : Type} (f : α → List Value) (z : Nat) (w : World) (u : Value) (l : List α) : Prop := ∃ q c, u = .slice q l.length c ∧ (0 < l.length → ∃ g o, q = some ⟨g, o, none⟩ ∧ g < w.heap.size ∧ ∀ i x, l[i]? = some x → ∀ j v, (f x)[j]? = some v → w.cell? ⟨g, o + i * z + j, none⟩ = some v)
theorem Rs.below {α : Type} {f : α → List Value} {z : Nat} {w w' : World} {u : Value} {l : List α} (h : Rs f z w u l) (hb : Below w.heap.size w w') : Rs f z w' u l := by
  obtain ⟨q, c, rfl, h⟩ := h
  refine ⟨q, c, rfl, fun h0 => ?_⟩
  obtain ⟨g, o, rfl, hg, hc⟩ := h h0
  exact ⟨g, o, rfl, Nat.lt_of_lt_of_le hg hb.size, fun i x hx j v hj => (World.cell?_of_block (hb.block g hg)).trans (hc i x hx j v hj)⟩
theorem Rs.nil {α : Type} (f : α → List Value) (z : Nat) (w : World) : Rs f z w (.slice none 0 0) [] := ⟨none, 0, rfl, fun h => absurd h (Nat.lt_irrefl 0)⟩
theorem Rs.get {α : Type} {f : α → List Value} {z : Nat} {w : World} {u : Value} {l : List α} (h : Rs f z w u l) {i : Nat} {x : α} (hx : l[i]? = some x) :
    ∃ g o c, u = .slice (some ⟨g, o, none⟩) l.length c ∧ g < w.heap.size ∧ ∀ j v, (f x)[j]? = some v → w.cell? ⟨g, o + i * z + j, none⟩ = some v := by
  obtain ⟨q, c, rfl, h⟩ := h
  obtain ⟨g, o, rfl, hg, hc⟩ := h (by have := (List.getElem?_eq_some_iff.1 hx).1; omega)
  exact ⟨g, o, c, rfl, hg, fun j v hj => hc i x hx j v hj⟩
def icl (n : Int) : List Value := [.int .i64 n]
abbrev Is := Rs icl 1
abbrev Hs := Rs bv 32
theorem eqItems_two {P : Program} (d : Nat) {e : TypeId} {k : IntKind} (he : P.underlying e = some (.int k)) (cs ds : Array Value) (f g : Nat → Int) (w : World) : ∀ is : List Nat, (∀ i ∈ is, cs[i]? = some (.int k (f i)) ∧ ds[i]? = some (.int k (g i))) → (Op.eqItems (d + 1) e 1 cs ds is).run P w = .ok (is.all fun i => f i == g i) w
  | [], _ => by simp [Op.eqItems]
  | i :: is, h => by
    obtain ⟨hx, hy⟩ := h i (List.mem_cons_self ..)
    have ih := eqItems_two d he cs ds f g w is fun j hj => h j (List.mem_cons_of_mem _ hj)
    have e1 : ∀ (a b : Int) (wx : World), (Op.equalIn (d + 1) e (.int k a) (.int k b)).run P wx = .ok (a == b) wx := fun a b wx => by
      simp [Op.equalIn, run_underlying he]
    cases hq : (f i == g i) with
    | true => simp [Op.eqItems, part, isAgg, run_underlying he, e1, hx, hy, hq, ih]
    | false => simp [Op.eqItems, part, isAgg, run_underlying he, e1, hx, hy, hq]
set_option maxRecDepth 100000 in
theorem eqH {X Y : List Int} (hX : X.length = 32) (hY : Y.length = 32) (w : World) : (Op.equalIn 10000 35 (.agg (bv X).toArray) (.agg (bv Y).toArray)).run Try.prog w = .ok (decide (X = Y)) w := by
  obtain ⟨i, hi⟩ := Option.isSome_iff_exists.1 (show (Try.prog.info? 5).isSome = true by kernel_rfl)
  have hc : Try.prog.cellsOf 5 = 1 := by kernel_rfl
  rw [run_equalIn_array w 9999 _ _ Try.underlying35 hi, hc]
  have hg : ∀ (Z : List Int) (j : Nat), j < Z.length → (bv Z).toArray[j]? = some (.int .u8 (Z.getD j 0)) := fun Z j hj => by
    rw [List.getElem?_toArray]
    unfold bv
    rw [List.getElem?_map, List.getD_eq_getElem?_getD, List.getElem?_eq_getElem hj]
    rfl
  rw [eqItems_two 9998 Try.underlying5 _ _ (fun j => X.getD j 0) (fun j => Y.getD j 0) w _ fun j hj => ⟨hg X j (by rw [hX]; exact List.mem_range.1 hj), hg Y j (by rw [hY]; exact List.mem_range.1 hj)⟩]
  congr 1
  rw [Bool.eq_iff_iff]
  simp only [List.all_eq_true, List.mem_range, beq_iff_eq, decide_eq_true_eq]
  constructor
  · intro h
    refine List.ext_getElem (by omega) fun j h1 h2 => ?_
    have h3 := h j (by omega)
    rw [List.getD_eq_getElem?_getD, List.getD_eq_getElem?_getD, List.getElem?_eq_getElem h1, List.getElem?_eq_getElem h2] at h3
    exact h3
  · rintro rfl j _; rfl
theorem take_app_eq' {α : Type} {l k : List α} {i : Nat} {x y : α} (hx : l[i]? = some x) (hy : k[i]? = some y) (h : l.take i = k.take i) (hxy : x = y) : l.take (i + 1) = k.take (i + 1) := by
  rw [List.take_add_one, List.take_add_one, hx, hy, h, hxy]
theorem get_ne' {α : Type} {l k : List α} {i : Nat} {x y : α} (hx : l[i]? = some x) (hy : k[i]? = some y) (hxy : x ≠ y) : l ≠ k := fun h => hxy (by rw [h, hy] at hx; exact (Option.some.inj hx).symm)
set_option maxRecDepth 100000 in
set_option maxHeartbeats 16000000 in
theorem isEq_at (u v : Value) (l k : List Int) (w : World) (hu : Is w u l) (hv : Is w v k) (hL : l.length ≤ 140737488355328) :
    Calls Try.prog 217 #[u, v] w fun r w' => r = .returned (.bool (decide (l = k))) ∧ Below w.heap.size w w' := by
  have HU := Lib.hid (show _ ∧ True from ⟨hu, trivial⟩)
  have HV := Lib.hid (show _ ∧ True from ⟨hv, trivial⟩)
  obtain ⟨q1, c1, rfl, -⟩ := hu
  obtain ⟨q2, c2, rfl, -⟩ := hv
  obtain ⟨n1, hn1⟩ : ∃ n, l.length = n := ⟨_, rfl⟩
  obtain ⟨n2, hn2⟩ : ∃ n, k.length = n := ⟨_, rfl⟩
  rw [hn1] at HU hL
  rw [hn2] at HV
  obtain ⟨b, hb⟩ : ∃ b, decide (l = k) = b := ⟨_, rfl⟩
  rw [hb, hn1, hn2]
  have HB := Lib.hid (show _ ∧ _ ∧ _ from ⟨hb, hn1, hn2⟩)
  have hni : (n1 : Int) ≤ 140737488355328 := by omega
  clear hb hn1 hn2 hL
  by_cases hne : n1 = n2
  · subst hne
    go_enter Try.func217, Try.ntmps217
    go_wp2_with fail
    go_loopg [5, 13] n1 (fun gg s5 s13 wr => ∃ i : Nat, i + gg = n1 ∧ s13 = .int .i64 (i : Int) ∧ Hid (l.take i = k.take i) ∧ Hid (Below w.heap.size w wr))
    case atStart => exact ⟨0, by omega, rfl, Lib.hid (by rw [List.take_zero, List.take_zero]), Lib.hid (Below.refl _ _)⟩
    case round =>
      obtain ⟨i, him, rfl, heq, hinv⟩ := hrel
      by_cases hi : i < n1
      · obtain ⟨x, hx⟩ : ∃ x, l[i]? = some x := ⟨_, List.getElem?_eq_getElem (by have := HB.out.2.1; omega)⟩
        obtain ⟨y, hy⟩ : ∃ y, k[i]? = some y := ⟨_, List.getElem?_eq_getElem (by have := HB.out.2.2; omega)⟩
        obtain ⟨gx, ox, cx', hu, hgx, hcx⟩ := (HU.out.1.below hinv.out).get hx
        simp only [Value.slice.injEq] at hu
        obtain ⟨rfl, -, -⟩ := hu
        obtain ⟨gy, oy, cy', hu, hgy, hcy⟩ := (HV.out.1.below hinv.out).get hy
        simp only [Value.slice.injEq] at hu
        obtain ⟨rfl, -, -⟩ := hu
        have cx0 : wr.cell? ⟨gx, ox + i, none⟩ = some (.int .i64 x) := by have h := hcx 0 _ rfl; simpa using h
        have cy0 : wr.cell? ⟨gy, oy + i, none⟩ = some (.int .i64 y) := by have h := hcy 0 _ rfl; simpa using h
        clear hcx hcy
        have HX := Lib.hid (show _ ∧ _ from ⟨hx, hy⟩)
        clear hx hy
        have hlt : (i : Int) < (n1 : Int) := by omega
        by_cases hxy : x = y
        · subst hxy
          have q1 := trivial
          have hnext := Lib.hid (take_app_eq' HX.out.1 HX.out.2 heq.out rfl)
          clear HX heq
          go_upto_region 6 with (fail)
          let L : List Sp := []
          refine wp_region_six (shs L) (look6 L) (None_) (by kernel_rfl) (by kernel_rfl) (mk_St L [] [] (by kernel_rfl) (by kernel_rfl) trivial (by simp)) ?_
          intro QQ hQ
          refine stepK rfl (by kernel_rfl) (fun K hK => ?_); go_simp
          apply Exists.intro; apply And.intro; (focus (intro wk hk; go_simp; exact ⟨rfl, rfl⟩)); refine hK _ _ ?_; clear hK K
          refine stepK rfl (by kernel_rfl) (fun K hK => ?_); go_simp
          apply Exists.intro; apply And.intro; (focus (intro wk hk; go_simp; exact ⟨rfl, rfl⟩)); refine hK _ _ ?_; clear hK K
          refine stepK rfl (by kernel_rfl) (fun K hK => ?_); go_simp
          apply Exists.intro; apply And.intro; (focus (intro wk hk; go_simp; exact ⟨rfl, rfl⟩)); refine hK _ _ ?_; clear hK K
          refine stepK rfl (by kernel_rfl) (fun K hK => ?_); go_simp
          apply Exists.intro; apply And.intro; (focus (intro wk hk; have cc : wk.cell? ⟨gx, ox + i, none⟩ = some (.int .i64 x) := (World.cell?_of_block (hk.undrew.below.block _ hgx)).trans cx0; go_simp; exact ⟨rfl, rfl⟩)); refine hK _ _ ?_; clear hK K
          refine stepK rfl (by kernel_rfl) (fun K hK => ?_); go_simp
          apply Exists.intro; apply And.intro; (focus (intro wk hk; go_simp; exact ⟨rfl, rfl⟩)); refine hK _ _ ?_; clear hK K
          refine stepK rfl (by kernel_rfl) (fun K hK => ?_); go_simp
          apply Exists.intro; apply And.intro; (focus (intro wk hk; go_simp; exact ⟨rfl, rfl⟩)); refine hK _ _ ?_; clear hK K
          refine stepK rfl (by kernel_rfl) (fun K hK => ?_); go_simp
          apply Exists.intro; apply And.intro; (focus (intro wk hk; go_simp; exact ⟨rfl, rfl⟩)); refine hK _ _ ?_; clear hK K
          refine stepK rfl (by kernel_rfl) (fun K hK => ?_); go_simp
          apply Exists.intro; apply And.intro; (focus (intro wk hk; have cc : wk.cell? ⟨gy, oy + i, none⟩ = some (.int .i64 x) := (World.cell?_of_block (hk.undrew.below.block _ hgy)).trans cy0; go_simp; exact ⟨rfl, rfl⟩)); refine hK _ _ ?_; clear hK K
          refine stepK rfl (by kernel_rfl) (fun K hK => ?_); go_simp
          apply Exists.intro; apply And.intro; (focus (intro wk hk; go_simp; exact ⟨rfl, rfl⟩)); refine hK _ _ ?_; clear hK K
          refine stepN ?_
          refine hQ _ _ ?_
          intro w1 hT hG hF
          have hl1 := Lib.hid (hinv.out.trans (hT.undrew.below.mono hinv.out.size))
          clear hT hG hF hQ QQ L cx0 cy0 hinv q1
          go_wp2_with fail
          go_roundg (gk - 1)
          case measure => omega
          case rel => exact ⟨i + 1, by omega, by go_num, hnext, hl1⟩
        · have q1 : (x != y) = true := by rw [bne_iff_ne]; exact hxy
          have hbf : b = false := by rw [← HB.out.1]; exact decide_eq_false (get_ne' HX.out.1 HX.out.2 hxy)
          subst hbf
          clear HX heq hxy
          go_upto_region 6 with (fail)
          let L : List Sp := []
          refine wp_region_six (shs L) (look6 L) (None_) (by kernel_rfl) (by kernel_rfl) (mk_St L [] [] (by kernel_rfl) (by kernel_rfl) trivial (by simp)) ?_
          intro QQ hQ
          refine stepK rfl (by kernel_rfl) (fun K hK => ?_); go_simp
          apply Exists.intro; apply And.intro; (focus (intro wk hk; go_simp; exact ⟨rfl, rfl⟩)); refine hK _ _ ?_; clear hK K
          refine stepK rfl (by kernel_rfl) (fun K hK => ?_); go_simp
          apply Exists.intro; apply And.intro; (focus (intro wk hk; go_simp; exact ⟨rfl, rfl⟩)); refine hK _ _ ?_; clear hK K
          refine stepK rfl (by kernel_rfl) (fun K hK => ?_); go_simp
          apply Exists.intro; apply And.intro; (focus (intro wk hk; go_simp; exact ⟨rfl, rfl⟩)); refine hK _ _ ?_; clear hK K
          refine stepK rfl (by kernel_rfl) (fun K hK => ?_); go_simp
          apply Exists.intro; apply And.intro; (focus (intro wk hk; have cc : wk.cell? ⟨gx, ox + i, none⟩ = some (.int .i64 x) := (World.cell?_of_block (hk.undrew.below.block _ hgx)).trans cx0; go_simp; exact ⟨rfl, rfl⟩)); refine hK _ _ ?_; clear hK K
          refine stepK rfl (by kernel_rfl) (fun K hK => ?_); go_simp
          apply Exists.intro; apply And.intro; (focus (intro wk hk; go_simp; exact ⟨rfl, rfl⟩)); refine hK _ _ ?_; clear hK K
          refine stepK rfl (by kernel_rfl) (fun K hK => ?_); go_simp
          apply Exists.intro; apply And.intro; (focus (intro wk hk; go_simp; exact ⟨rfl, rfl⟩)); refine hK _ _ ?_; clear hK K
          refine stepK rfl (by kernel_rfl) (fun K hK => ?_); go_simp
          apply Exists.intro; apply And.intro; (focus (intro wk hk; go_simp; exact ⟨rfl, rfl⟩)); refine hK _ _ ?_; clear hK K
          refine stepK rfl (by kernel_rfl) (fun K hK => ?_); go_simp
          apply Exists.intro; apply And.intro; (focus (intro wk hk; have cc : wk.cell? ⟨gy, oy + i, none⟩ = some (.int .i64 y) := (World.cell?_of_block (hk.undrew.below.block _ hgy)).trans cy0; go_simp; exact ⟨rfl, rfl⟩)); refine hK _ _ ?_; clear hK K
          refine stepK rfl (by kernel_rfl) (fun K hK => ?_); go_simp
          apply Exists.intro; apply And.intro; (focus (intro wk hk; go_simp; exact ⟨rfl, rfl⟩)); refine hK _ _ ?_; clear hK K
          refine stepN ?_
          refine hQ _ _ ?_
          intro w1 hT hG hF
          have hl1 := Lib.hid (hinv.out.trans (hT.undrew.below.mono hinv.out.size))
          clear hT hG hF hQ QQ L cx0 cy0 hinv
          go_wp2_with fail
          go_ret
          exact ⟨rfl, hl1.out⟩
      · obtain rfl : i = n1 := by omega
        have hlt : ¬ (i : Int) < (i : Int) := by omega
        have hbt : b = true := by
          rw [← HB.out.1]
          have h := heq.out
          rw [List.take_of_length_le (by have := HB.out.2.1; omega), List.take_of_length_le (by have := HB.out.2.2; omega)] at h
          exact decide_eq_true h
        subst hbt
        clear heq
        go_wp2_with fail
        go_ret
        exact ⟨rfl, hinv.out⟩
  · have hd : ¬ (n1 : Int) = (n2 : Int) := by omega
    have hbf : b = false := by rw [← HB.out.1]; exact decide_eq_false (fun h => hne (by rw [← HB.out.2.1, ← HB.out.2.2, h]))
    subst hbf
    clear hne
    go_enter Try.func217, Try.ntmps217
    go_wp2_with fail
    go_ret
    exact ⟨rfl, Below.refl _ _⟩
set_option maxRecDepth 100000 in
set_option maxHeartbeats 16000000 in
theorem isRef_at (u v : Value) (l k : List Int) (w : World) (hu : Is w u l) (hv : Is w v k) (hL : l.length ≤ 140737488355328) :
    Calls Try.prog 219 #[u, v] w fun r w' => r = .returned (.bool (decide (l = k))) ∧ Below w.heap.size w w' := by
  have HU := Lib.hid (show _ ∧ True from ⟨hu, trivial⟩)
  have HV := Lib.hid (show _ ∧ True from ⟨hv, trivial⟩)
  obtain ⟨q1, c1, rfl, -⟩ := hu
  obtain ⟨q2, c2, rfl, -⟩ := hv
  obtain ⟨n1, hn1⟩ : ∃ n, l.length = n := ⟨_, rfl⟩
  obtain ⟨n2, hn2⟩ : ∃ n, k.length = n := ⟨_, rfl⟩
  rw [hn1] at HU hL
  rw [hn2] at HV
  obtain ⟨b, hb⟩ : ∃ b, decide (l = k) = b := ⟨_, rfl⟩
  rw [hb, hn1, hn2]
  have HB := Lib.hid (show _ ∧ _ ∧ _ from ⟨hb, hn1, hn2⟩)
  have hni : (n1 : Int) ≤ 140737488355328 := by omega
  clear hb hn1 hn2 hL
  by_cases hne : n1 = n2
  · subst hne
    go_enter Try.func219, Try.ntmps219
    go_wp2_with fail
    go_loopg [5, 13] n1 (fun gg s5 s13 wr => ∃ i : Nat, i + gg = n1 ∧ s13 = .int .i64 (i : Int) ∧ Hid (l.take i = k.take i) ∧ Hid (Below w.heap.size w wr))
    case atStart => exact ⟨0, by omega, rfl, Lib.hid (by rw [List.take_zero, List.take_zero]), Lib.hid (Below.refl _ _)⟩
    case round =>
      obtain ⟨i, him, rfl, heq, hinv⟩ := hrel
      by_cases hi : i < n1
      · obtain ⟨x, hx⟩ : ∃ x, l[i]? = some x := ⟨_, List.getElem?_eq_getElem (by have := HB.out.2.1; omega)⟩
        obtain ⟨y, hy⟩ : ∃ y, k[i]? = some y := ⟨_, List.getElem?_eq_getElem (by have := HB.out.2.2; omega)⟩
        obtain ⟨gx, ox, cx', hu, hgx, hcx⟩ := (HU.out.1.below hinv.out).get hx
        simp only [Value.slice.injEq] at hu
        obtain ⟨rfl, -, -⟩ := hu
        obtain ⟨gy, oy, cy', hu, hgy, hcy⟩ := (HV.out.1.below hinv.out).get hy
        simp only [Value.slice.injEq] at hu
        obtain ⟨rfl, -, -⟩ := hu
        have cx0 : wr.cell? ⟨gx, ox + i, none⟩ = some (.int .i64 x) := by have h := hcx 0 _ rfl; simpa using h
        have cy0 : wr.cell? ⟨gy, oy + i, none⟩ = some (.int .i64 y) := by have h := hcy 0 _ rfl; simpa using h
        clear hcx hcy
        have HX := Lib.hid (show _ ∧ _ from ⟨hx, hy⟩)
        clear hx hy
        have hlt : (i : Int) < (n1 : Int) := by omega
        by_cases hxy : x = y
        · subst hxy
          have q1 := trivial
          have hnext := Lib.hid (take_app_eq' HX.out.1 HX.out.2 heq.out rfl)
          clear HX heq
          go_upto_region 6 with (fail)
          let L : List Sp := []
          refine wp_region_six (shs L) (look6 L) (None_) (by kernel_rfl) (by kernel_rfl) (mk_St L [] [] (by kernel_rfl) (by kernel_rfl) trivial (by simp)) ?_
          intro QQ hQ
          refine stepK rfl (by kernel_rfl) (fun K hK => ?_); go_simp
          apply Exists.intro; apply And.intro; (focus (intro wk hk; go_simp; exact ⟨rfl, rfl⟩)); refine hK _ _ ?_; clear hK K
          refine stepK rfl (by kernel_rfl) (fun K hK => ?_); go_simp
          apply Exists.intro; apply And.intro; (focus (intro wk hk; go_simp; exact ⟨rfl, rfl⟩)); refine hK _ _ ?_; clear hK K
          refine stepK rfl (by kernel_rfl) (fun K hK => ?_); go_simp
          apply Exists.intro; apply And.intro; (focus (intro wk hk; go_simp; exact ⟨rfl, rfl⟩)); refine hK _ _ ?_; clear hK K
          refine stepK rfl (by kernel_rfl) (fun K hK => ?_); go_simp
          apply Exists.intro; apply And.intro; (focus (intro wk hk; have cc : wk.cell? ⟨gx, ox + i, none⟩ = some (.int .i64 x) := (World.cell?_of_block (hk.undrew.below.block _ hgx)).trans cx0; go_simp; exact ⟨rfl, rfl⟩)); refine hK _ _ ?_; clear hK K
          refine stepK rfl (by kernel_rfl) (fun K hK => ?_); go_simp
          apply Exists.intro; apply And.intro; (focus (intro wk hk; go_simp; exact ⟨rfl, rfl⟩)); refine hK _ _ ?_; clear hK K
          refine stepK rfl (by kernel_rfl) (fun K hK => ?_); go_simp
          apply Exists.intro; apply And.intro; (focus (intro wk hk; go_simp; exact ⟨rfl, rfl⟩)); refine hK _ _ ?_; clear hK K
          refine stepK rfl (by kernel_rfl) (fun K hK => ?_); go_simp
          apply Exists.intro; apply And.intro; (focus (intro wk hk; go_simp; exact ⟨rfl, rfl⟩)); refine hK _ _ ?_; clear hK K
          refine stepK rfl (by kernel_rfl) (fun K hK => ?_); go_simp
          apply Exists.intro; apply And.intro; (focus (intro wk hk; have cc : wk.cell? ⟨gy, oy + i, none⟩ = some (.int .i64 x) := (World.cell?_of_block (hk.undrew.below.block _ hgy)).trans cy0; go_simp; exact ⟨rfl, rfl⟩)); refine hK _ _ ?_; clear hK K
          refine stepK rfl (by kernel_rfl) (fun K hK => ?_); go_simp
          apply Exists.intro; apply And.intro; (focus (intro wk hk; go_simp; exact ⟨rfl, rfl⟩)); refine hK _ _ ?_; clear hK K
          refine stepN ?_
          refine hQ _ _ ?_
          intro w1 hT hG hF
          have hl1 := Lib.hid (hinv.out.trans (hT.undrew.below.mono hinv.out.size))
          clear hT hG hF hQ QQ L cx0 cy0 hinv q1
          go_wp2_with fail
          go_roundg (gk - 1)
          case measure => omega
          case rel => exact ⟨i + 1, by omega, by go_num, hnext, hl1⟩
        · have q1 : (x != y) = true := by rw [bne_iff_ne]; exact hxy
          have hbf : b = false := by rw [← HB.out.1]; exact decide_eq_false (get_ne' HX.out.1 HX.out.2 hxy)
          subst hbf
          clear HX heq hxy
          go_upto_region 6 with (fail)
          let L : List Sp := []
          refine wp_region_six (shs L) (look6 L) (None_) (by kernel_rfl) (by kernel_rfl) (mk_St L [] [] (by kernel_rfl) (by kernel_rfl) trivial (by simp)) ?_
          intro QQ hQ
          refine stepK rfl (by kernel_rfl) (fun K hK => ?_); go_simp
          apply Exists.intro; apply And.intro; (focus (intro wk hk; go_simp; exact ⟨rfl, rfl⟩)); refine hK _ _ ?_; clear hK K
          refine stepK rfl (by kernel_rfl) (fun K hK => ?_); go_simp
          apply Exists.intro; apply And.intro; (focus (intro wk hk; go_simp; exact ⟨rfl, rfl⟩)); refine hK _ _ ?_; clear hK K
          refine stepK rfl (by kernel_rfl) (fun K hK => ?_); go_simp
          apply Exists.intro; apply And.intro; (focus (intro wk hk; go_simp; exact ⟨rfl, rfl⟩)); refine hK _ _ ?_; clear hK K
          refine stepK rfl (by kernel_rfl) (fun K hK => ?_); go_simp
          apply Exists.intro; apply And.intro; (focus (intro wk hk; have cc : wk.cell? ⟨gx, ox + i, none⟩ = some (.int .i64 x) := (World.cell?_of_block (hk.undrew.below.block _ hgx)).trans cx0; go_simp; exact ⟨rfl, rfl⟩)); refine hK _ _ ?_; clear hK K
          refine stepK rfl (by kernel_rfl) (fun K hK => ?_); go_simp
          apply Exists.intro; apply And.intro; (focus (intro wk hk; go_simp; exact ⟨rfl, rfl⟩)); refine hK _ _ ?_; clear hK K
          refine stepK rfl (by kernel_rfl) (fun K hK => ?_); go_simp
          apply Exists.intro; apply And.intro; (focus (intro wk hk; go_simp; exact ⟨rfl, rfl⟩)); refine hK _ _ ?_; clear hK K
          refine stepK rfl (by kernel_rfl) (fun K hK => ?_); go_simp
          apply Exists.intro; apply And.intro; (focus (intro wk hk; go_simp; exact ⟨rfl, rfl⟩)); refine hK _ _ ?_; clear hK K
          refine stepK rfl (by kernel_rfl) (fun K hK => ?_); go_simp
          apply Exists.intro; apply And.intro; (focus (intro wk hk; have cc : wk.cell? ⟨gy, oy + i, none⟩ = some (.int .i64 y) := (World.cell?_of_block (hk.undrew.below.block _ hgy)).trans cy0; go_simp; exact ⟨rfl, rfl⟩)); refine hK _ _ ?_; clear hK K
          refine stepK rfl (by kernel_rfl) (fun K hK => ?_); go_simp
          apply Exists.intro; apply And.intro; (focus (intro wk hk; go_simp; exact ⟨rfl, rfl⟩)); refine hK _ _ ?_; clear hK K
          refine stepN ?_
          refine hQ _ _ ?_
          intro w1 hT hG hF
          have hl1 := Lib.hid (hinv.out.trans (hT.undrew.below.mono hinv.out.size))
          clear hT hG hF hQ QQ L cx0 cy0 hinv
          go_wp2_with fail
          go_ret
          exact ⟨rfl, hl1.out⟩
      · obtain rfl : i = n1 := by omega
        have hlt : ¬ (i : Int) < (i : Int) := by omega
        have hbt : b = true := by
          rw [← HB.out.1]
          have h := heq.out
          rw [List.take_of_length_le (by have := HB.out.2.1; omega), List.take_of_length_le (by have := HB.out.2.2; omega)] at h
          exact decide_eq_true h
        subst hbt
        clear heq
        go_wp2_with fail
        go_ret
        exact ⟨rfl, hinv.out⟩
  · have hd : ¬ (n1 : Int) = (n2 : Int) := by omega
    have hbf : b = false := by rw [← HB.out.1]; exact decide_eq_false (fun h => hne (by rw [← HB.out.2.1, ← HB.out.2.2, h]))
    subst hbf
    clear hne
    go_enter Try.func219, Try.ntmps219
    go_wp2_with fail
    go_ret
    exact ⟨rfl, Below.refl _ _⟩
set_option maxRecDepth 100000 in
set_option maxHeartbeats 16000000 in
theorem hsEq_at (u v : Value) (l k : List (List Int)) (w : World) (hu : Hs w u l) (hv : Hs w v k) (hlH : ∀ x ∈ l, x.length = 32) (hkH : ∀ x ∈ k, x.length = 32) (hL : l.length ≤ 140737488355328) :
    Calls Try.prog 218 #[u, v] w fun r w' => r = .returned (.bool (decide (l = k))) ∧ Below w.heap.size w w' := by
  have HU := Lib.hid (show _ ∧ _ from ⟨hu, hlH⟩)
  have HV := Lib.hid (show _ ∧ _ from ⟨hv, hkH⟩)
  obtain ⟨q1, c1, rfl, -⟩ := hu
  obtain ⟨q2, c2, rfl, -⟩ := hv
  obtain ⟨n1, hn1⟩ : ∃ n, l.length = n := ⟨_, rfl⟩
  obtain ⟨n2, hn2⟩ : ∃ n, k.length = n := ⟨_, rfl⟩
  rw [hn1] at HU hL
  rw [hn2] at HV
  obtain ⟨b, hb⟩ : ∃ b, decide (l = k) = b := ⟨_, rfl⟩
  rw [hb, hn1, hn2]
  have HB := Lib.hid (show _ ∧ _ ∧ _ from ⟨hb, hn1, hn2⟩)
  have hni : (n1 : Int) ≤ 140737488355328 := by omega
  clear hlH hkH hb hn1 hn2 hL
  by_cases hne : n1 = n2
  · subst hne
    go_enter Try.func218, Try.ntmps218
    go_wp2_with fail
    go_loopg [5, 13] n1 (fun gg s5 s13 wr => ∃ i : Nat, i + gg = n1 ∧ s13 = .int .i64 (i : Int) ∧ Hid (l.take i = k.take i) ∧ Hid (Below w.heap.size w wr))
    case atStart => exact ⟨0, by omega, rfl, Lib.hid (by rw [List.take_zero, List.take_zero]), Lib.hid (Below.refl _ _)⟩
    case round =>
      obtain ⟨i, him, rfl, heq, hinv⟩ := hrel
      by_cases hi : i < n1
      · obtain ⟨x, hx⟩ : ∃ x, l[i]? = some x := ⟨_, List.getElem?_eq_getElem (by have := HB.out.2.1; omega)⟩
        obtain ⟨y, hy⟩ : ∃ y, k[i]? = some y := ⟨_, List.getElem?_eq_getElem (by have := HB.out.2.2; omega)⟩
        obtain ⟨gx, ox, cx', hu, hgx, hcx⟩ := (HU.out.1.below hinv.out).get hx
        simp only [Value.slice.injEq] at hu
        obtain ⟨rfl, -, -⟩ := hu
        obtain ⟨gy, oy, cy', hu, hgy, hcy⟩ := (HV.out.1.below hinv.out).get hy
        simp only [Value.slice.injEq] at hu
        obtain ⟨rfl, -, -⟩ := hu
        have hxl := HU.out.2 x (List.mem_of_getElem? hx)
        have hyl := HV.out.2 y (List.mem_of_getElem? hy)
        have hbx : (bv x).length = 32 := by rw [bv_len]; exact hxl
        have hby : (bv y).length = 32 := by rw [bv_len]; exact hyl
        have HX := Lib.hid (show _ ∧ _ from ⟨hx, hy⟩)
        clear hx hy
        have hlt : (i : Int) < (n1 : Int) := by omega
        by_cases hxy : x = y
        · subst hxy
          have q1 : ∀ wx, (Op.equalIn 10000 35 (.agg (bv x).toArray) (.agg (bv x).toArray)).run Try.prog wx = .ok true wx := fun wx => by rw [eqH hxl hyl, decide_eq_true rfl]
          have hnext := Lib.hid (take_app_eq' HX.out.1 HX.out.2 heq.out rfl)
          clear hxl hyl HX heq
          go_upto_region 6 with (fail)
          let L : List Sp := []
          refine wp_region_six (shs L) (look6 L) (None_) (by kernel_rfl) (by kernel_rfl) (mk_St L [] [] (by kernel_rfl) (by kernel_rfl) trivial (by simp)) ?_
          intro QQ hQ
          refine stepK rfl (by kernel_rfl) (fun K hK => ?_); go_simp
          apply Exists.intro; apply And.intro; (focus (intro wk hk; go_simp; exact ⟨rfl, rfl⟩)); refine hK _ _ ?_; clear hK K
          refine stepK rfl (by kernel_rfl) (fun K hK => ?_); go_simp
          apply Exists.intro; apply And.intro; (focus (intro wk hk; go_simp; exact ⟨rfl, rfl⟩)); refine hK _ _ ?_; clear hK K
          refine stepK rfl (by kernel_rfl) (fun K hK => ?_); go_simp
          apply Exists.intro; apply And.intro; (focus (intro wk hk; go_simp; exact ⟨rfl, rfl⟩)); refine hK _ _ ?_; clear hK K
          refine stepK rfl (by kernel_rfl) (fun K hK => ?_); go_simp
          apply Exists.intro; apply And.intro; (focus exact kLoadE rfl rfl aggR35 hcx hbx hgx id); refine hK _ _ ?_; clear hK K
          refine stepK rfl (by kernel_rfl) (fun K hK => ?_); go_simp
          apply Exists.intro; apply And.intro; (focus (intro wk hk; go_simp; exact ⟨rfl, rfl⟩)); refine hK _ _ ?_; clear hK K
          refine stepK rfl (by kernel_rfl) (fun K hK => ?_); go_simp
          apply Exists.intro; apply And.intro; (focus (intro wk hk; go_simp; exact ⟨rfl, rfl⟩)); refine hK _ _ ?_; clear hK K
          refine stepK rfl (by kernel_rfl) (fun K hK => ?_); go_simp
          apply Exists.intro; apply And.intro; (focus (intro wk hk; go_simp; exact ⟨rfl, rfl⟩)); refine hK _ _ ?_; clear hK K
          refine stepK rfl (by kernel_rfl) (fun K hK => ?_); go_simp
          apply Exists.intro; apply And.intro; (focus exact kLoadE rfl rfl aggR35 hcy hby hgy id); refine hK _ _ ?_; clear hK K
          refine stepK rfl (by kernel_rfl) (fun K hK => ?_); go_simp
          apply Exists.intro; apply And.intro; (focus (intro wk hk; go_simp; exact ⟨rfl, rfl⟩)); refine hK _ _ ?_; clear hK K
          refine stepN ?_
          refine hQ _ _ ?_
          intro w1 hT hG hF
          have hl1 := Lib.hid (hinv.out.trans (hT.undrew.below.mono hinv.out.size))
          clear hT hG hF hQ QQ L hcx hcy hinv q1
          go_wp2_with fail
          go_roundg (gk - 1)
          case measure => omega
          case rel => exact ⟨i + 1, by omega, by go_num, hnext, hl1⟩
        · have q1 : ∀ wx, (Op.equalIn 10000 35 (.agg (bv x).toArray) (.agg (bv y).toArray)).run Try.prog wx = .ok false wx := fun wx => by rw [eqH hxl hyl, decide_eq_false hxy]
          have hbf : b = false := by rw [← HB.out.1]; exact decide_eq_false (get_ne' HX.out.1 HX.out.2 hxy)
          subst hbf
          clear hxl hyl HX heq hxy
          go_upto_region 6 with (fail)
          let L : List Sp := []
          refine wp_region_six (shs L) (look6 L) (None_) (by kernel_rfl) (by kernel_rfl) (mk_St L [] [] (by kernel_rfl) (by kernel_rfl) trivial (by simp)) ?_
          intro QQ hQ
          refine stepK rfl (by kernel_rfl) (fun K hK => ?_); go_simp
          apply Exists.intro; apply And.intro; (focus (intro wk hk; go_simp; exact ⟨rfl, rfl⟩)); refine hK _ _ ?_; clear hK K
          refine stepK rfl (by kernel_rfl) (fun K hK => ?_); go_simp
          apply Exists.intro; apply And.intro; (focus (intro wk hk; go_simp; exact ⟨rfl, rfl⟩)); refine hK _ _ ?_; clear hK K
          refine stepK rfl (by kernel_rfl) (fun K hK => ?_); go_simp
          apply Exists.intro; apply And.intro; (focus (intro wk hk; go_simp; exact ⟨rfl, rfl⟩)); refine hK _ _ ?_; clear hK K
          refine stepK rfl (by kernel_rfl) (fun K hK => ?_); go_simp
          apply Exists.intro; apply And.intro; (focus exact kLoadE rfl rfl aggR35 hcx hbx hgx id); refine hK _ _ ?_; clear hK K
          refine stepK rfl (by kernel_rfl) (fun K hK => ?_); go_simp
          apply Exists.intro; apply And.intro; (focus (intro wk hk; go_simp; exact ⟨rfl, rfl⟩)); refine hK _ _ ?_; clear hK K
          refine stepK rfl (by kernel_rfl) (fun K hK => ?_); go_simp
          apply Exists.intro; apply And.intro; (focus (intro wk hk; go_simp; exact ⟨rfl, rfl⟩)); refine hK _ _ ?_; clear hK K
          refine stepK rfl (by kernel_rfl) (fun K hK => ?_); go_simp
          apply Exists.intro; apply And.intro; (focus (intro wk hk; go_simp; exact ⟨rfl, rfl⟩)); refine hK _ _ ?_; clear hK K
          refine stepK rfl (by kernel_rfl) (fun K hK => ?_); go_simp
          apply Exists.intro; apply And.intro; (focus exact kLoadE rfl rfl aggR35 hcy hby hgy id); refine hK _ _ ?_; clear hK K
          refine stepK rfl (by kernel_rfl) (fun K hK => ?_); go_simp
          apply Exists.intro; apply And.intro; (focus (intro wk hk; go_simp; exact ⟨rfl, rfl⟩)); refine hK _ _ ?_; clear hK K
          refine stepN ?_
          refine hQ _ _ ?_
          intro w1 hT hG hF
          have hl1 := Lib.hid (hinv.out.trans (hT.undrew.below.mono hinv.out.size))
          clear hT hG hF hQ QQ L hcx hcy hinv
          go_wp2_with fail
          go_ret
          exact ⟨rfl, hl1.out⟩
      · obtain rfl : i = n1 := by omega
        have hlt : ¬ (i : Int) < (i : Int) := by omega
        have hbt : b = true := by
          rw [← HB.out.1]
          have h := heq.out
          rw [List.take_of_length_le (by have := HB.out.2.1; omega), List.take_of_length_le (by have := HB.out.2.2; omega)] at h
          exact decide_eq_true h
        subst hbt
        clear heq
        go_wp2_with fail
        go_ret
        exact ⟨rfl, hinv.out⟩
  · have hd : ¬ (n1 : Int) = (n2 : Int) := by omega
    have hbf : b = false := by rw [← HB.out.1]; exact decide_eq_false (fun h => hne (by rw [← HB.out.2.1, ← HB.out.2.2, h]))
    subst hbf
    clear hne
    go_enter Try.func218, Try.ntmps218
    go_wp2_with fail
    go_ret
    exact ⟨rfl, Below.refl _ _⟩
set_option maxRecDepth 100000 in
set_option maxHeartbeats 16000000 in
theorem hsRef_at (u v : Value) (l k : List (List Int)) (w : World) (hu : Hs w u l) (hv : Hs w v k) (hlH : ∀ x ∈ l, x.length = 32) (hkH : ∀ x ∈ k, x.length = 32) (hL : l.length ≤ 140737488355328) :
    Calls Try.prog 220 #[u, v] w fun r w' => r = .returned (.bool (decide (l = k))) ∧ Below w.heap.size w w' := by
  have HU := Lib.hid (show _ ∧ _ from ⟨hu, hlH⟩)
  have HV := Lib.hid (show _ ∧ _ from ⟨hv, hkH⟩)
  obtain ⟨q1, c1, rfl, -⟩ := hu
  obtain ⟨q2, c2, rfl, -⟩ := hv
  obtain ⟨n1, hn1⟩ : ∃ n, l.length = n := ⟨_, rfl⟩
  obtain ⟨n2, hn2⟩ : ∃ n, k.length = n := ⟨_, rfl⟩
  rw [hn1] at HU hL
  rw [hn2] at HV
  obtain ⟨b, hb⟩ : ∃ b, decide (l = k) = b := ⟨_, rfl⟩
  rw [hb, hn1, hn2]
  have HB := Lib.hid (show _ ∧ _ ∧ _ from ⟨hb, hn1, hn2⟩)
  have hni : (n1 : Int) ≤ 140737488355328 := by omega
  clear hlH hkH hb hn1 hn2 hL
  by_cases hne : n1 = n2
  · subst hne
    go_enter Try.func220, Try.ntmps220
    go_wp2_with fail
    go_loopg [5, 13] n1 (fun gg s5 s13 wr => ∃ i : Nat, i + gg = n1 ∧ s13 = .int .i64 (i : Int) ∧ Hid (l.take i = k.take i) ∧ Hid (Below w.heap.size w wr))
    case atStart => exact ⟨0, by omega, rfl, Lib.hid (by rw [List.take_zero, List.take_zero]), Lib.hid (Below.refl _ _)⟩
    case round =>
      obtain ⟨i, him, rfl, heq, hinv⟩ := hrel
      by_cases hi : i < n1
      · obtain ⟨x, hx⟩ : ∃ x, l[i]? = some x := ⟨_, List.getElem?_eq_getElem (by have := HB.out.2.1; omega)⟩
        obtain ⟨y, hy⟩ : ∃ y, k[i]? = some y := ⟨_, List.getElem?_eq_getElem (by have := HB.out.2.2; omega)⟩
        obtain ⟨gx, ox, cx', hu, hgx, hcx⟩ := (HU.out.1.below hinv.out).get hx
        simp only [Value.slice.injEq] at hu
        obtain ⟨rfl, -, -⟩ := hu
        obtain ⟨gy, oy, cy', hu, hgy, hcy⟩ := (HV.out.1.below hinv.out).get hy
        simp only [Value.slice.injEq] at hu
        obtain ⟨rfl, -, -⟩ := hu
        have hxl := HU.out.2 x (List.mem_of_getElem? hx)
        have hyl := HV.out.2 y (List.mem_of_getElem? hy)
        have hbx : (bv x).length = 32 := by rw [bv_len]; exact hxl
        have hby : (bv y).length = 32 := by rw [bv_len]; exact hyl
        have HX := Lib.hid (show _ ∧ _ from ⟨hx, hy⟩)
        clear hx hy
        have hlt : (i : Int) < (n1 : Int) := by omega
        by_cases hxy : x = y
        · subst hxy
          have q1 : ∀ wx, (Op.equalIn 10000 35 (.agg (bv x).toArray) (.agg (bv x).toArray)).run Try.prog wx = .ok true wx := fun wx => by rw [eqH hxl hyl, decide_eq_true rfl]
          have hnext := Lib.hid (take_app_eq' HX.out.1 HX.out.2 heq.out rfl)
          clear hxl hyl HX heq
          go_upto_region 6 with (fail)
          let L : List Sp := []
          refine wp_region_six (shs L) (look6 L) (None_) (by kernel_rfl) (by kernel_rfl) (mk_St L [] [] (by kernel_rfl) (by kernel_rfl) trivial (by simp)) ?_
          intro QQ hQ
          refine stepK rfl (by kernel_rfl) (fun K hK => ?_); go_simp
          apply Exists.intro; apply And.intro; (focus (intro wk hk; go_simp; exact ⟨rfl, rfl⟩)); refine hK _ _ ?_; clear hK K
          refine stepK rfl (by kernel_rfl) (fun K hK => ?_); go_simp
          apply Exists.intro; apply And.intro; (focus (intro wk hk; go_simp; exact ⟨rfl, rfl⟩)); refine hK _ _ ?_; clear hK K
          refine stepK rfl (by kernel_rfl) (fun K hK => ?_); go_simp
          apply Exists.intro; apply And.intro; (focus (intro wk hk; go_simp; exact ⟨rfl, rfl⟩)); refine hK _ _ ?_; clear hK K
          refine stepK rfl (by kernel_rfl) (fun K hK => ?_); go_simp
          apply Exists.intro; apply And.intro; (focus exact kLoadE rfl rfl aggR35 hcx hbx hgx id); refine hK _ _ ?_; clear hK K
          refine stepK rfl (by kernel_rfl) (fun K hK => ?_); go_simp
          apply Exists.intro; apply And.intro; (focus (intro wk hk; go_simp; exact ⟨rfl, rfl⟩)); refine hK _ _ ?_; clear hK K
          refine stepK rfl (by kernel_rfl) (fun K hK => ?_); go_simp
          apply Exists.intro; apply And.intro; (focus (intro wk hk; go_simp; exact ⟨rfl, rfl⟩)); refine hK _ _ ?_; clear hK K
          refine stepK rfl (by kernel_rfl) (fun K hK => ?_); go_simp
          apply Exists.intro; apply And.intro; (focus (intro wk hk; go_simp; exact ⟨rfl, rfl⟩)); refine hK _ _ ?_; clear hK K
          refine stepK rfl (by kernel_rfl) (fun K hK => ?_); go_simp
          apply Exists.intro; apply And.intro; (focus exact kLoadE rfl rfl aggR35 hcy hby hgy id); refine hK _ _ ?_; clear hK K
          refine stepK rfl (by kernel_rfl) (fun K hK => ?_); go_simp
          apply Exists.intro; apply And.intro; (focus (intro wk hk; go_simp; exact ⟨rfl, rfl⟩)); refine hK _ _ ?_; clear hK K
          refine stepN ?_
          refine hQ _ _ ?_
          intro w1 hT hG hF
          have hl1 := Lib.hid (hinv.out.trans (hT.undrew.below.mono hinv.out.size))
          clear hT hG hF hQ QQ L hcx hcy hinv q1
          go_wp2_with fail
          go_roundg (gk - 1)
          case measure => omega
          case rel => exact ⟨i + 1, by omega, by go_num, hnext, hl1⟩
        · have q1 : ∀ wx, (Op.equalIn 10000 35 (.agg (bv x).toArray) (.agg (bv y).toArray)).run Try.prog wx = .ok false wx := fun wx => by rw [eqH hxl hyl, decide_eq_false hxy]
          have hbf : b = false := by rw [← HB.out.1]; exact decide_eq_false (get_ne' HX.out.1 HX.out.2 hxy)
          subst hbf
          clear hxl hyl HX heq hxy
          go_upto_region 6 with (fail)
          let L : List Sp := []
          refine wp_region_six (shs L) (look6 L) (None_) (by kernel_rfl) (by kernel_rfl) (mk_St L [] [] (by kernel_rfl) (by kernel_rfl) trivial (by simp)) ?_
          intro QQ hQ
          refine stepK rfl (by kernel_rfl) (fun K hK => ?_); go_simp
          apply Exists.intro; apply And.intro; (focus (intro wk hk; go_simp; exact ⟨rfl, rfl⟩)); refine hK _ _ ?_; clear hK K
          refine stepK rfl (by kernel_rfl) (fun K hK => ?_); go_simp
          apply Exists.intro; apply And.intro; (focus (intro wk hk; go_simp; exact ⟨rfl, rfl⟩)); refine hK _ _ ?_; clear hK K
          refine stepK rfl (by kernel_rfl) (fun K hK => ?_); go_simp
          apply Exists.intro; apply And.intro; (focus (intro wk hk; go_simp; exact ⟨rfl, rfl⟩)); refine hK _ _ ?_; clear hK K
          refine stepK rfl (by kernel_rfl) (fun K hK => ?_); go_simp
          apply Exists.intro; apply And.intro; (focus exact kLoadE rfl rfl aggR35 hcx hbx hgx id); refine hK _ _ ?_; clear hK K
          refine stepK rfl (by kernel_rfl) (fun K hK => ?_); go_simp
          apply Exists.intro; apply And.intro; (focus (intro wk hk; go_simp; exact ⟨rfl, rfl⟩)); refine hK _ _ ?_; clear hK K
          refine stepK rfl (by kernel_rfl) (fun K hK => ?_); go_simp
          apply Exists.intro; apply And.intro; (focus (intro wk hk; go_simp; exact ⟨rfl, rfl⟩)); refine hK _ _ ?_; clear hK K
          refine stepK rfl (by kernel_rfl) (fun K hK => ?_); go_simp
          apply Exists.intro; apply And.intro; (focus (intro wk hk; go_simp; exact ⟨rfl, rfl⟩)); refine hK _ _ ?_; clear hK K
          refine stepK rfl (by kernel_rfl) (fun K hK => ?_); go_simp
          apply Exists.intro; apply And.intro; (focus exact kLoadE rfl rfl aggR35 hcy hby hgy id); refine hK _ _ ?_; clear hK K
          refine stepK rfl (by kernel_rfl) (fun K hK => ?_); go_simp
          apply Exists.intro; apply And.intro; (focus (intro wk hk; go_simp; exact ⟨rfl, rfl⟩)); refine hK _ _ ?_; clear hK K
          refine stepN ?_
          refine hQ _ _ ?_
          intro w1 hT hG hF
          have hl1 := Lib.hid (hinv.out.trans (hT.undrew.below.mono hinv.out.size))
          clear hT hG hF hQ QQ L hcx hcy hinv
          go_wp2_with fail
          go_ret
          exact ⟨rfl, hl1.out⟩
      · obtain rfl : i = n1 := by omega
        have hlt : ¬ (i : Int) < (i : Int) := by omega
        have hbt : b = true := by
          rw [← HB.out.1]
          have h := heq.out
          rw [List.take_of_length_le (by have := HB.out.2.1; omega), List.take_of_length_le (by have := HB.out.2.2; omega)] at h
          exact decide_eq_true h
        subst hbt
        clear heq
        go_wp2_with fail
        go_ret
        exact ⟨rfl, hinv.out⟩
  · have hd : ¬ (n1 : Int) = (n2 : Int) := by omega
    have hbf : b = false := by rw [← HB.out.1]; exact decide_eq_false (fun h => hne (by rw [← HB.out.2.1, ← HB.out.2.2, h]))
    subst hbf
    clear hne
    go_enter Try.func220, Try.ntmps220
    go_wp2_with fail
    go_ret
    exact ⟨rfl, Below.refl _ _⟩
end Go.Proofs.Ytpdenhmkpiafiaa
namespace Go.Proofs.Ytpdenhmkpiafiaa
open Go Go.RowKit K6
def By (xs : List Int) : Prop := ∀ x ∈ xs, 0 ≤ x ∧ x < 256
theorem By.nil : By [] := fun _ h => (by cases h)
theorem By.app {xs ys : List Int} (h : By xs) (k : By ys) : By (xs ++ ys) := fun x hx => (List.mem_append.1 hx).elim (h x) (k x)
theorem By.take {xs : List Int} (h : By xs) (n : Nat) : By (xs.take n) := fun x hx => h x (List.mem_of_mem_take hx)
theorem By.drop {xs : List Int} (h : By xs) (n : Nat) : By (xs.drop n) := fun x hx => h x (List.mem_of_mem_drop hx)
theorem By.tail {x : Int} {xs : List Int} (h : By (x :: xs)) : By xs := fun y hy => h y (List.mem_cons_of_mem _ hy)
theorem By.head {x : Int} {xs : List Int} (h : By (x :: xs)) : 0 ≤ x ∧ x < 256 := h x (List.mem_cons_self ..)
theorem By.cons {x : Int} {xs : List Int} (h0 : 0 ≤ x ∧ x < 256) (h : By xs) : By (x :: xs) := fun y hy => (List.mem_cons.1 hy).elim (fun e => e ▸ h0) (h y)
theorem grp_cons (i : Nat) (c : Int) (cs : List Int) : grp i (c :: cs) = if i = 9 then (4, 0) else if 128 ≤ c then grp (i + 1) cs else if c = 0 ∧ 0 < i then (4, 0) else (0, i + 1) := rfl
theorem enc_by (m : Nat) : By (enc m) := by
  induction m using Nat.strongRecOn with
  | _ m ih =>
    by_cases hm : m < 128
    · rw [enc_low hm]; exact By.cons ⟨by omega, by omega⟩ By.nil
    · rw [enc_high hm]; exact By.cons ⟨by omega, by omega⟩ (ih (m / 128) (by omega))
theorem gval_enc (m : Nat) : gval (enc m) = m := by
  induction m using Nat.strongRecOn with
  | _ m ih =>
    by_cases hm : m < 128
    · rw [enc_low hm]; show ((m : Int) % 128).toNat + 128 * 0 = m; omega
    · rw [enc_high hm]; show (((m % 128 + 128 : Nat) : Int) % 128).toNat + 128 * gval (enc (m / 128)) = m
      rw [ih (m / 128) (by omega)]; omega
theorem pow_step {m k : Nat} (h : m < 128 ^ (k + 1 + 1)) : m / 128 < 128 ^ (k + 1) := by
  rw [Nat.pow_succ] at h
  generalize 128 ^ (k + 1) = X at *
  omega
theorem grp_enc (r : List Int) : ∀ (k m i : Nat), m < 128 ^ (k + 1) → i + k < 9 → (0 < i → 0 < m) → grp i (enc m ++ r) = (0, i + (enc m).length)
  | k, m, i, hm, hi, h0 => by
    by_cases hm' : m < 128
    · rw [enc_low hm', List.singleton_append, grp_cons, if_neg (by omega), if_neg (by omega), if_neg (by omega)]
      rfl
    · match k with
      | 0 => exact absurd (by simpa using hm) hm'
      | k + 1 =>
        rw [enc_high hm', List.cons_append, grp_cons, if_neg (by omega), if_pos (by omega), grp_enc r k (m / 128) (i + 1) (pow_step hm) (by omega) (fun _ => by omega), List.length_cons]
        congr 1
        omega
theorem grp_cut : ∀ (k m i j : Nat), m < 128 ^ (k + 1) → i + k < 9 → j < (enc m).length → grp i ((enc m).take j) = (3, 0)
  | _, _, _, 0, _, _, _ => rfl
  | k, m, i, j + 1, hm, hi, hj => by
    by_cases hm' : m < 128
    · rw [enc_low hm'] at hj; simp at hj
    · match k with
      | 0 => exact absurd (by simpa using hm) hm'
      | k + 1 =>
        rw [enc_high hm', List.length_cons] at hj
        rw [enc_high hm', List.take_succ_cons, grp_cons, if_neg (by omega), if_pos (by omega)]
        exact grp_cut k (m / 128) (i + 1) j (pow_step hm) (by omega) (by omega)
theorem grp_back : ∀ (xs : List Int) (i : Nat), By xs → i ≤ 9 → (grp i xs).1 = 0 → ∃ m, xs.take ((grp i xs).2 - i) = enc m ∧ (0 < i → 0 < m)
  | [], _, _, _, h => by cases h
  | c :: cs, i, hb, hi, h => by
    have hc := hb.head
    rw [grp_cons] at h ⊢
    by_cases h9 : i = 9
    · rw [if_pos h9] at h; cases h
    · rw [if_neg h9] at h ⊢
      by_cases h128 : 128 ≤ c
      · rw [if_pos h128] at h ⊢
        obtain ⟨m, hm, hp⟩ := grp_back cs (i + 1) hb.tail (by omega) h
        have hsp : i + 1 < (grp (i + 1) cs).2 := by
          rcases grp_spec cs (i + 1) (by omega) with ⟨-, h2, -⟩ | ⟨h2, -⟩
          · exact h2
          · rw [h] at h2; rcases h2 with h2 | h2 <;> cases h2
        have hp := hp (by omega)
        refine ⟨(c - 128).toNat + 128 * m, ?_, fun _ => by omega⟩
        rw [enc_high (by omega), show (grp (i + 1) cs).2 - i = (grp (i + 1) cs).2 - (i + 1) + 1 by omega, List.take_succ_cons, hm]
        congr 1
        · omega
        · congr 1; omega
      · rw [if_neg h128] at h ⊢
        by_cases h0 : c = 0 ∧ 0 < i
        · rw [if_pos h0] at h; cases h
        · rw [if_neg h0]
          refine ⟨c.toNat, ?_, fun hi => by omega⟩
          rw [enc_low (by omega), show i + 1 - i = 1 by omega, List.take_succ_cons, List.take_zero, Int.toNat_of_nonneg hc.1]
theorem lt63 {m : Nat} (h : m < 9223372036854775808) : m < 128 ^ (8 + 1) := h
theorem enc_len9 {m : Nat} (h : m < 9223372036854775808) : (enc m).length ≤ 9 := enc_len 8 m (lt63 h)
theorem beV_cons (c : Int) (l : List Int) : beV (c :: l) = c.toNat * 256 ^ l.length + beV l := by
  have key : ∀ (l : List Int) (a : Nat), l.foldl (fun a c => a * 256 + c.toNat) a = a * 256 ^ l.length + beV l := by
    intro l
    induction l with
    | nil => intro a; show a = a * 1 + 0; omega
    | cons x l ih =>
      intro a
      unfold beV
      rw [List.foldl_cons, List.foldl_cons, ih, ih, List.length_cons, Nat.pow_succ, Nat.add_mul, Nat.zero_mul, Nat.zero_add, Nat.add_assoc, Nat.mul_assoc, Nat.mul_comm 256]
  show l.foldl _ (0 * 256 + c.toNat) = _
  rw [key, Nat.zero_mul, Nat.zero_add]
theorem beV_inj : ∀ (n : Nat) (l k : List Int), l.length = n → k.length = n → By l → By k → beV l = beV k → l = k
  | 0, l, k, hl, hk, _, _, _ => by rw [List.eq_nil_of_length_eq_zero hl, List.eq_nil_of_length_eq_zero hk]
  | n + 1, l, k, hl, hk, bl, bk, h => by
    have nl : l ≠ [] := fun e => by subst e; cases hl
    have nk : k ≠ [] := fun e => by subst e; cases hk
    have sl := List.dropLast_concat_getLast nl
    have sk := List.dropLast_concat_getLast nk
    have gl := bl _ (List.getLast_mem nl)
    have gk := bk _ (List.getLast_mem nk)
    rw [← sl, ← sk, beV_snoc, beV_snoc] at h
    have e1 : l.dropLast = k.dropLast := beV_inj n _ _ (by rw [List.length_dropLast]; omega) (by rw [List.length_dropLast]; omega) (fun x hx => bl x (List.dropLast_subset _ hx)) (fun x hx => bk x (List.dropLast_subset _ hx)) (by omega)
    have e2 : l.getLast nl = k.getLast nk := by omega
    rw [← sl, ← sk, e1, e2]
theorem beV_ge {c : Int} {l : List Int} (h0 : 0 < c) : 256 ^ l.length ≤ beV (c :: l) := by
  rw [beV_cons]
  have : 1 * 256 ^ l.length ≤ c.toNat * 256 ^ l.length := Nat.mul_le_mul_right _ (by omega)
  omega
theorem p256 (n : Nat) : 256 ^ n = 2 ^ (8 * n) := by rw [Nat.pow_mul]
theorem nby_lt (a : Nat) : a < 2 ^ (8 * nby a) := by
  refine Nat.lt_of_lt_of_le (lt_blen a) (Nat.pow_le_pow_right (by decide) ?_)
  unfold nby; omega
theorem nby_ge {a : Nat} (h : 0 < nby a) : 2 ^ (8 * (nby a - 1)) ≤ a := by
  rcases Nat.lt_or_ge a (2 ^ (8 * (nby a - 1))) with h1 | h1
  · have h2 := blen_le h1
    unfold nby at *
    omega
  · exact h1
theorem nby_eq {a n : Nat} (h1 : a < 256 ^ n) (h2 : 0 < n → 256 ^ (n - 1) ≤ a) : nby a = n := by
  rw [p256] at h1
  have h3 := blen_le h1
  rcases Nat.eq_zero_or_pos n with rfl | hn
  · unfold nby; omega
  · have h4 := h2 hn
    rw [p256] at h4
    have h5 : 8 * (n - 1) < blen a := by
      rcases Nat.lt_or_ge (8 * (n - 1)) (blen a) with h | h
      · exact h
      · have := Nat.lt_of_lt_of_le (lt_blen a) (Nat.pow_le_pow_right (by decide) h)
        omega
    unfold nby; omega
theorem BL32_get (a j : Nat) (hj : j < (BL32 a).length) : (BL32 a)[j] = ((byN a (31 - j) : Nat) : Int) := by
  simp [BL32]
theorem BL32_by (a : Nat) : By (BL32 a) := fun x hx => by
  obtain ⟨j, hj, rfl⟩ := List.mem_iff_getElem.1 hx
  rw [BL32_get]
  have := byN_lt a (31 - j)
  omega
theorem fromN_congr {f g : Nat → Nat} : ∀ n, (∀ j, j < n → f j = g j) → fromN f n = fromN g n
  | 0, _ => rfl
  | n + 1, h => by
    show fromN f n + f n * 2 ^ (8 * (31 - n)) = fromN g n + g n * 2 ^ (8 * (31 - n))
    rw [fromN_congr n (fun j hj => h j (by omega)), h n (by omega)]
theorem beV_BL32 {a : Nat} (ha : a < M) : beV (BL32 a) = a := by
  have h := fromN_beV (BL32_len a) 32 (Nat.le_refl _)
  rw [Nat.sub_self, Nat.pow_zero, Nat.mul_one, List.take_of_length_le (by rw [BL32_len]; exact Nat.le_refl _)] at h
  rw [← h]
  refine (fromN_congr 32 fun j hj => ?_).trans (fromN_byN a ha)
  have hj' : j < (BL32 a).length := by rw [BL32_len]; exact hj
  rw [List.getD_eq_getElem?_getD, List.getElem?_eq_getElem hj', Option.getD_some, BL32_get]
  rfl
def amtB (a : Nat) : List Int := (BL32 a).drop (32 - nby a)
theorem amtL_eq (a : Nat) : amtL a = ((nby a : Nat) : Int) :: amtB a := rfl
theorem amtB_len {a : Nat} (ha : a < M) : (amtB a).length = nby a := by
  unfold amtB
  rw [List.length_drop, BL32_len]
  have := nby_le ha
  omega
theorem amtB_by (a : Nat) : By (amtB a) := (BL32_by a).drop _
theorem amtL_by {a : Nat} (ha : a < M) : By (amtL a) := By.cons ⟨by omega, by have := nby_le ha; omega⟩ (amtB_by a)
theorem amtB_beV {a : Nat} (ha : a < M) : beV (amtB a) = a := by
  have h : (BL32 a).take (32 - nby a) = List.replicate (32 - nby a) 0 := by
    have hl : ((BL32 a).take (32 - nby a)).length = 32 - nby a := by rw [List.length_take, BL32_len]; omega
    refine List.eq_replicate_iff.2 ⟨hl, fun x hx => ?_⟩
    obtain ⟨j, hj, rfl⟩ := List.mem_iff_getElem.1 hx
    rw [hl] at hj
    rw [List.getElem_take, BL32_get]
    unfold byN
    rw [Nat.div_eq_of_lt]
    · rfl
    · exact Nat.lt_of_lt_of_le (nby_lt a) (Nat.pow_le_pow_right (by decide) (by omega))
  have h2 := List.take_append_drop (32 - nby a) (BL32 a)
  rw [h] at h2
  have h3 := beV_zeros (32 - nby a) (amtB a)
  rw [show List.replicate (32 - nby a) 0 ++ amtB a = BL32 a from h2, beV_BL32 ha] at h3
  exact h3.symm
theorem amtB_head {a : Nat} (ha : a < M) : (amtB a).head? ≠ some 0 := by
  intro h
  unfold amtB at h
  rw [List.head?_drop] at h
  rcases Nat.eq_zero_or_pos (nby a) with h0 | h0
  · rw [h0, List.getElem?_eq_none (by rw [BL32_len]; exact Nat.le_refl _)] at h
    cases h
  · have h32 := nby_le ha
    have hj : 32 - nby a < (BL32 a).length := by rw [BL32_len]; omega
    rw [List.getElem?_eq_getElem hj, BL32_get, show 31 - (32 - nby a) = nby a - 1 by omega] at h
    have h1 := nby_ge h0
    have h2 := nby_lt a
    have h3 : a / 2 ^ (8 * (nby a - 1)) < 256 := by
      rw [Nat.div_lt_iff_lt_mul (Nat.pow_pos (by decide))]
      rw [show 8 * nby a = 8 + 8 * (nby a - 1) by omega, Nat.pow_add] at h2
      exact h2
    have h4 : 0 < a / 2 ^ (8 * (nby a - 1)) := Nat.div_pos h1 (Nat.pow_pos (by decide))
    unfold byN at h
    rw [Nat.mod_eq_of_lt h3] at h
    have h5 := Option.some.inj h
    omega
theorem amtL_of {ys : List Int} (hn : ys.length ≤ 32) (hb : By ys) (h0 : ys.head? ≠ some 0) : amtL (beV ys) = ((ys.length : Nat) : Int) :: ys := by
  have hM : beV ys < M := beV_M hn hb
  have e : nby (beV ys) = ys.length := by
    refine nby_eq (beV_lt _ ys rfl hb) fun hp => ?_
    match ys, hp, hb, h0 with
    | c :: cs, _, hb, h0 =>
      have hc := hb.head
      have : c ≠ 0 := fun e => h0 (by rw [e]; rfl)
      exact beV_ge (by omega)
  rw [amtL_eq, e]
  congr 1
  exact beV_inj ys.length _ _ ((amtB_len hM).trans e) rfl (amtB_by _) hb (amtB_beV hM)
abbrev St := Int × List Int
def gV (most : Int) (s : St) : Nat × St := (svN most s.1 s.2, svE most s.1 s.2, svR most s.1 s.2)
def gA (s : St) : Nat × St :=
  if s.1 = 0 then
    match s.2 with
    | [] => (0, 3, [])
    | c :: cs => if 32 < c ∨ (0 < c ∧ cs.head? = some 0) then (0, 4, []) else if c.toNat ≤ cs.length then (beV (cs.take c.toNat), 0, cs.drop c.toNat) else (0, 3, [])
  else (0, s.1, [])
def gT (n : Nat) (s : St) : List Int × St := (tkO n s.1 s.2, tkE n s.1 s.2, tkR n s.1 s.2)
def gH (s : St) : List Int × St := (if (gT 32 s).2.1 = 0 then (gT 32 s).1 else List.replicate 32 0, (gT 32 s).2)
theorem gV_fault {most : Int} {e : Int} (he : e ≠ 0) : gV most (e, []) = (0, e, []) := by
  unfold gV svN svR svE
  simp only [if_neg he]
theorem gA_fault {e : Int} (he : e ≠ 0) : gA (e, []) = (0, e, []) := by
  unfold gA
  rw [if_neg he]
theorem gT_fault {n : Nat} {e : Int} (he : e ≠ 0) : gT n (e, []) = ([], e, []) := by
  unfold gT tkO tkE tkR
  simp only [if_neg he]
theorem gH_fault {e : Int} (he : e ≠ 0) : gH (e, []) = (List.replicate 32 0, e, []) := by
  unfold gH
  rw [gT_fault he, if_neg he]
theorem gV_enc {m : Nat} {most : Int} (r : List Int) (hm : m < 9223372036854775808) (hle : (m : Int) ≤ most) : gV most (0, enc m ++ r) = (m, 0, r) := by
  have h := grp_enc r 8 m 0 (lt63 hm) (by decide) (fun h => absurd h (by decide))
  rw [Nat.zero_add] at h
  have hs : svE most 0 (enc m ++ r) = 0 := by
    unfold svE
    rw [if_pos rfl, h]
    simp only
    rw [if_pos trivial, List.take_left, gval_enc, if_neg (by omega)]
  unfold gV svN svR
  rw [hs, if_pos rfl, if_pos rfl, h]
  simp only
  rw [List.take_left, gval_enc, List.drop_left]
theorem gV_cut {m j : Nat} {most : Int} (hm : m < 9223372036854775808) (hj : j < (enc m).length) : gV most (0, (enc m).take j) = (0, 3, []) := by
  have h := grp_cut 8 m 0 j (lt63 hm) (by decide) hj
  unfold gV svN svR svE
  simp [h]
theorem gV_back {m : Nat} {most : Int} {xs r : List Int} (hb : By xs) (h : gV most (0, xs) = (m, 0, r)) : xs = enc m ++ r ∧ (m : Int) ≤ most ∧ m < 9223372036854775808 := by
  unfold gV svN svR at h
  simp only [Prod.mk.injEq] at h
  obtain ⟨h1, h2, h3⟩ := h
  rw [h2, if_pos rfl] at h1 h3
  unfold svE at h2
  rw [if_pos rfl] at h2
  by_cases h0 : (grp 0 xs).1 = 0
  · rw [if_pos h0] at h2
    by_cases hm : most < (gval (xs.take (grp 0 xs).2) : Int)
    · rw [if_pos hm] at h2; cases h2
    · obtain ⟨k, hk, -⟩ := grp_back xs 0 hb (by decide) h0
      rw [Nat.sub_zero] at hk
      have h9 : (xs.take (grp 0 xs).2).length ≤ 9 := by
        rw [List.length_take]
        rcases grp_spec xs 0 (by decide) with ⟨-, -, h9, -⟩ | ⟨-, h9⟩ <;> omega
      have h63 := gval_63 h9
      rw [h1] at h63 hm
      rw [hk, gval_enc] at h1
      subst h1
      refine ⟨?_, by omega, h63⟩
      rw [← hk, ← h3, List.take_append_drop]
  · rw [if_neg h0] at h2
    exact absurd h2 h0
theorem gV_lt {most : Int} {s : St} : (gV most s).1 < 9223372036854775808 := by
  unfold gV svN
  simp only
  split
  · refine gval_63 ?_
    rw [List.length_take]
    rcases grp_spec s.2 0 (by decide) with ⟨-, -, h9, -⟩ | ⟨-, h9⟩ <;> omega
  · decide
theorem gV_most {most : Int} {s : St} (hm : 0 ≤ most) : ((gV most s).1 : Int) ≤ most := by
  unfold gV svN
  simp only
  split
  · rename_i h
    unfold svE at h
    split at h
    · split at h
      · split at h
        · cases h
        · omega
      · rename_i h1; exact absurd h h1
    · rename_i h1; exact absurd h h1
  · omega
theorem gA_amt {a : Nat} (r : List Int) (ha : a < M) : gA (0, amtL a ++ r) = (a, 0, r) := by
  have hl := amtB_len ha
  have h32 := nby_le ha
  unfold gA
  rw [if_pos rfl, amtL_eq, List.cons_append]
  simp only
  rw [if_neg, if_pos, Int.toNat_natCast, ← hl, List.take_left, List.drop_left, amtB_beV ha]
  · rw [Int.toNat_natCast, List.length_append]; omega
  · rintro (h | ⟨h, h1⟩)
    · omega
    · refine amtB_head ha ?_
      match hB : amtB a with
      | [] => rw [hB] at hl; simp at hl; omega
      | c :: cs => rw [hB] at h1; exact h1
theorem gA_cut {a j : Nat} (ha : a < M) (hj : j < (amtL a).length) : gA (0, (amtL a).take j) = (0, 3, []) := by
  have hl := amtB_len ha
  have h32 := nby_le ha
  unfold gA
  rw [if_pos rfl]
  match j, hj with
  | 0, _ => rfl
  | j + 1, hj =>
    rw [amtL_eq, List.length_cons] at hj
    rw [amtL_eq, List.take_succ_cons]
    simp only
    rw [if_neg, if_neg]
    · rw [Int.toNat_natCast, List.length_take]; omega
    · rintro (h | ⟨h, h1⟩)
      · omega
      · refine amtB_head ha ?_
        rw [List.head?_take] at h1
        split at h1
        · cases h1
        · exact h1
theorem gA_back {a : Nat} {xs r : List Int} (hb : By xs) (h : gA (0, xs) = (a, 0, r)) : xs = amtL a ++ r ∧ a < M := by
  unfold gA at h
  rw [if_pos rfl] at h
  match xs, hb, h with
  | [], _, h => cases h
  | c :: cs, hb, h =>
    simp only at h
    have hc := hb.head
    split at h
    · cases h
    · rename_i h1
      split at h
      · rename_i h2
        simp only [Prod.mk.injEq, true_and] at h
        obtain ⟨rfl, rfl⟩ := h
        have hlen : (cs.take c.toNat).length = c.toNat := by rw [List.length_take]; omega
        have e := amtL_of (ys := cs.take c.toNat) (by omega) (hb.tail.take _) (fun h0 => h1 (by
          rw [List.head?_take] at h0
          split at h0
          · cases h0
          · exact .inr ⟨by omega, h0⟩))
        refine ⟨?_, beV_M (by omega) (hb.tail.take _)⟩
        rw [e, hlen, Int.toNat_of_nonneg hc.1, List.cons_append, List.take_append_drop]
      · cases h
theorem gA_lt {s : St} (hb : By s.2) : (gA s).1 < M := by
  unfold gA
  split
  · split
    · exact M_pos
    · rename_i c cs e
      rw [e] at hb
      split
      · exact M_pos
      · rename_i h1
        split
        · rename_i h2
          exact beV_M (by rw [List.length_take]; omega) (hb.tail.take _)
        · exact M_pos
  · exact M_pos
end Go.Proofs.Ytpdenhmkpiafiaa
namespace Go.Proofs.Ytpdenhmkpiafiaa
open Go Go.RowKit K6
structure Lf where
  i : Int
  t : Int
  a : Nat
  pq : Option Addr
  pc : Nat
  p : List (List Int)
instance : Inhabited Lf := ⟨⟨0, 0, 0, none, 0, []⟩⟩
def Lf.pv (x : Lf) : Value := .slice x.pq x.p.length x.pc
def lfc (x : Lf) : List Value := [.int .i64 x.i, .int .i64 x.t] ++ ((W4 x.a).toList ++ [x.pv])
def I64 (n : Int) : Prop := -9223372036854775808 ≤ n ∧ n < 9223372036854775808
def HsOk (l : List (List Int)) : Prop := ∀ y ∈ l, y.length = 32 ∧ By y
structure LfOk (w : World) (x : Lf) : Prop where
  p : Hs w x.pv x.p
  h : HsOk x.p
  a : x.a < M
  i : I64 x.i
  t : I64 x.t
theorem LfOk.below {w w' : World} {x : Lf} (h : LfOk w x) (hb : Below w.heap.size w w') : LfOk w' x := ⟨h.p.below hb, h.h, h.a, h.i, h.t⟩
def Ls (w : World) (u : Value) (l : List Lf) : Prop := Rs lfc 7 w u l ∧ ∀ x ∈ l, LfOk w x
theorem Ls.below {w w' : World} {u : Value} {l : List Lf} (h : Ls w u l) (hb : Below w.heap.size w w') : Ls w' u l := ⟨h.1.below hb, fun x hx => (h.2 x hx).below hb⟩
theorem Ls.nil (w : World) : Ls w (.slice none 0 0) [] := ⟨Rs.nil _ _ _, fun _ h => (by cases h)⟩
structure Cm where
  r : Int
  x : Int
  e : Int
  tok : List Int
  pq : Option Addr
  pc : Nat
  p : List (List Int)
  lq : Option Addr
  lc : Nat
  l : List Lf
  z : Int
def Cm.pv (c : Cm) : Value := .slice c.pq c.p.length c.pc
def Cm.lv (c : Cm) : Value := .slice c.lq c.l.length c.lc
def Cm.cs (c : Cm) : List Value := [.int .i64 c.r, .int .i64 c.x, .int .i64 c.e] ++ (bv c.tok ++ [c.pv, c.lv, .int .i64 c.z])
structure CmOk (w : World) (c : Cm) : Prop where
  tok : c.tok.length = 32
  by_ : By c.tok
  p : Hs w c.pv c.p
  h : HsOk c.p
  l : Ls w c.lv c.l
  r : I64 c.r
  x : I64 c.x
  e : I64 c.e
  z : I64 c.z
theorem CmOk.below {w w' : World} {c : Cm} (h : CmOk w c) (hb : Below w.heap.size w w') : CmOk w' c := ⟨h.tok, h.by_, h.p.below hb, h.h, h.l.below hb, h.r, h.x, h.e, h.z⟩
def cm0 : Cm := ⟨0, 0, 0, List.replicate 32 0, none, 0, [], none, 0, [], 0⟩
theorem cm0_ok (w : World) : CmOk w cm0 := by
  have z : I64 0 := ⟨by decide, by decide⟩
  exact ⟨rfl, fun x hx => by rw [(List.mem_replicate.1 hx).2]; omega, Rs.nil _ _ _, (fun _ h => (by cases h)), Ls.nil w, z, z, z, z⟩
structure Txv where
  k : Int
  f : Int
  nq : Option Addr
  nc : Nat
  n : List Int
  aq : Option Addr
  ac : Nat
  a : List Nat
  hq : Option Addr
  hc : Nat
  h : List (List Int)
  c : Cm
def Txv.nv (t : Txv) : Value := .slice t.nq t.n.length t.nc
def Txv.av (t : Txv) : Value := .slice t.aq t.a.length t.ac
def Txv.hv (t : Txv) : Value := .slice t.hq t.h.length t.hc
def Txv.cs (t : Txv) : List Value := [.int .i64 t.k, .int .i64 t.f, t.nv, t.av, t.hv] ++ t.c.cs
structure TxOk (w : World) (t : Txv) : Prop where
  k : I64 t.k
  f : I64 t.f
  n : Is w t.nv t.n
  nb : ∀ x ∈ t.n, I64 x
  a : Us w t.av t.a
  ab : ∀ x ∈ t.a, x < M
  h : Hs w t.hv t.h
  hb : HsOk t.h
  c : CmOk w t.c
theorem TxOk.below {w w' : World} {t : Txv} (h : TxOk w t) (hb : Below w.heap.size w w') : TxOk w' t := ⟨h.k, h.f, h.n.below hb, h.nb, h.a.below hb, h.ab, h.h.below hb, h.hb, h.c.below hb⟩
theorem lfc_len (x : Lf) : (lfc x).length = 7 := rfl
theorem lfc_a (x : Lf) : ∀ j v, (W4 x.a)[j]? = some v → (lfc x).toArray[2 + j]? = some v := fun j v hj => by
  have hj4 : j < 4 := (Array.getElem?_eq_some_iff.1 hj).1
  have : j = 0 ∨ j = 1 ∨ j = 2 ∨ j = 3 := by omega
  rcases this with rfl | rfl | rfl | rfl <;> exact hj
theorem Cm.len {c : Cm} (h : c.tok.length = 32) : c.cs.length = 38 := by
  unfold Cm.cs
  rw [List.length_append, List.length_append, bv_len, h]
  rfl
theorem Cm.at_ {c : Cm} (h : c.tok.length = 32) (j : Nat) : c.cs[35 + j]? = [c.pv, c.lv, .int .i64 c.z][j]? := by
  unfold Cm.cs
  rw [List.getElem?_append_right (by show 3 ≤ _; omega), List.getElem?_append_right (by rw [bv_len, h]; show 32 ≤ 35 + j - 3; omega), bv_len, h]
  congr 1
  show 35 + j - 3 - 32 = j
  omega
theorem Cm.tok_ {c : Cm} (h : c.tok.length = 32) : ∀ j v, (bv c.tok).toArray[j]? = some v → c.cs.toArray[3 + j]? = some v := fun j v hj => by
  have hj2 : (bv c.tok)[j]? = some v := by simpa using hj
  have hj32 : j < 32 := by have h9 := (List.getElem?_eq_some_iff.1 hj2).1; rw [bv_len, h] at h9; exact h9
  rw [List.getElem?_toArray]
  unfold Cm.cs
  rw [List.getElem?_append_right (by show 3 ≤ _; omega)]
  show (bv c.tok ++ [c.pv, c.lv, Value.int .i64 c.z])[3 + j - 3]? = _
  rw [show 3 + j - 3 = j by omega, List.getElem?_append_left (by rw [bv_len, h]; exact hj32)]
  exact hj2
theorem Txv.len {t : Txv} (h : t.c.tok.length = 32) : t.cs.length = 43 := by
  unfold Txv.cs
  rw [List.length_append, Cm.len h]
  rfl
theorem Txv.c_ (t : Txv) : ∀ j v, t.c.cs.toArray[j]? = some v → t.cs.toArray[5 + j]? = some v := fun j v hj => by
  have hj2 : t.c.cs[j]? = some v := by simpa using hj
  rw [List.getElem?_toArray]
  unfold Txv.cs
  rw [List.getElem?_append_right (by show 5 ≤ _; omega)]
  show t.c.cs[5 + j - 5]? = _
  rw [show 5 + j - 5 = j by omega]
  exact hj2
theorem bv_all (l : List Int) : (bv l).all (·.oneCell') = true := by
  rw [List.all_eq_true]
  intro x hx
  obtain ⟨y, -, rfl⟩ := List.mem_map.1 hx
  rfl
theorem lfc_one (x : Lf) : (lfc x).toArray.all (·.oneCell') = true := by kernel_rfl
theorem Cm.one (c : Cm) : c.cs.toArray.all (·.oneCell') = true := by
  rw [List.all_toArray]
  unfold Cm.cs
  rw [List.all_append, List.all_append, bv_all]
  rfl
theorem Txv.one (t : Txv) : t.cs.toArray.all (·.oneCell') = true := by
  rw [List.all_toArray]
  unfold Txv.cs
  rw [List.all_append]
  have h := t.c.one
  rw [List.all_toArray] at h
  rw [h]
  rfl
abbrev LfK := Int × Int × Nat × List (List Int)
instance dK1 : DecidableEq LfK := inferInstance
instance dK2 : DecidableEq (List LfK) := inferInstance
instance dK3 : DecidableEq (List (List Int)) := inferInstance
instance dK4 : DecidableEq (List (List Int) × List LfK) := inferInstance
instance dK5 : DecidableEq (Int × List (List Int) × List LfK) := inferInstance
instance dK6 : DecidableEq (List Int × Int × List (List Int) × List LfK) := inferInstance
instance dK7 : DecidableEq (Int × List Int × Int × List (List Int) × List LfK) := inferInstance
instance dK8 : DecidableEq (Int × Int × List Int × Int × List (List Int) × List LfK) := inferInstance
abbrev CmK := Int × Int × Int × List Int × Int × List (List Int) × List LfK
instance dK9 : DecidableEq CmK := inferInstance
instance dKa : DecidableEq (List (List Int) × CmK) := inferInstance
instance dKb : DecidableEq (List Nat × List (List Int) × CmK) := inferInstance
instance dKc : DecidableEq (List Int × List Nat × List (List Int) × CmK) := inferInstance
abbrev TxK := Int × Int × List Int × List Nat × List (List Int) × CmK
instance dKd : DecidableEq (Int × List Int × List Nat × List (List Int) × CmK) := inferInstance
instance dKe : DecidableEq TxK := inferInstance
def Lf.key (x : Lf) : LfK := (x.i, x.t, x.a, x.p)
def Cm.key (c : Cm) : CmK := (c.r, c.x, c.e, c.tok, c.z, c.p, c.l.map Lf.key)
def Txv.key (t : Txv) : TxK := (t.k, t.f, t.n, t.a, t.h, t.c.key)
theorem aggT198 : AggT Try.prog 198 7 := ⟨⟨_, Try.underlying198, rfl⟩, by kernel_rfl⟩
theorem aggT114 : AggT Try.prog 114 38 := ⟨⟨_, Try.underlying114, rfl⟩, by kernel_rfl⟩
theorem aggT116 : AggT Try.prog 116 43 := ⟨⟨_, Try.underlying116, rfl⟩, by kernel_rfl⟩
end Go.Proofs.Ytpdenhmkpiafiaa
