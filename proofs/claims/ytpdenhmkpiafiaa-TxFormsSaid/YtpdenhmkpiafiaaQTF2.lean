/-
  What the statement rests on, part 3: TxBase OctPlain TxData FrameT TxSame TxSame2.
-/
import Derived.OpenShut
import Derived.Test.YtpdenhmkpiafiaaQTF1
namespace Go.Proofs.Ytpdenhmkpiafiaa
open Go Go.RowKit K6
def Rs {α : Type} (f : α → List Value) (z : Nat) (w : World) (u : Value) (l : List α) : Prop := ∃ q c, u = .slice q l.length c ∧ (0 < l.length → ∃ g o, q = some ⟨g, o, none⟩ ∧ g < w.heap.size ∧ ∀ i x, l[i]? = some x → ∀ j v, (f x)[j]? = some v → w.cell? ⟨g, o + i * z + j, none⟩ = some v)
theorem Rs.below {α : Type} {f : α → List Value} {z : Nat} {w w' : World} {u : Value} {l : List α} (h : Rs f z w u l) (hb : Below w.heap.size w w') : Rs f z w' u l := by
  obtain ⟨q, c, rfl, h⟩ := h
  refine ⟨q, c, rfl, fun h0 => ?_⟩
  obtain ⟨g, o, rfl, hg, hc⟩ := h h0
  exact ⟨g, o, rfl, Nat.lt_of_lt_of_le hg hb.size, fun i x hx j v hj => (World.cell?_of_block (hb.block g hg)).trans (hc i x hx j v hj)⟩
theorem Rs.nil {α : Type} (f : α → List Value) (z : Nat) (w : World) : Rs f z w (.slice none 0 0) [] := ⟨none, 0, rfl, fun h => absurd h (Nat.lt_irrefl 0)⟩
theorem Rs.get {α : Type} {f : α → List Value} {z : Nat} {w : World} {u : Value} {l : List α} (h : Rs f z w u l) {i : Nat} {x : α} (hx : l[i]? = some x) :
    ∃ g o c, u = .slice (some ⟨g, o, none⟩) l.length c ∧ g < w.heap.size ∧ ∀ j v, (f x)[j]? = some v → w.cell? ⟨g, o + i * z + j, none⟩ = some v := by
  obtain ⟨q, c, rfl, h⟩ := h
  obtain ⟨g, o, rfl, hg, hc⟩ := h (by have := (List.getElem?_eq_some_iff.1 hx).1; omega)
  exact ⟨g, o, c, rfl, hg, fun j v hj => hc i x hx j v hj⟩
def icl (n : Int) : List Value := [.int .i64 n]
abbrev Is := Rs icl 1
abbrev Hs := Rs bv 32
theorem eqItems_two {P : Program} (d : Nat) {e : TypeId} {k : IntKind} (he : P.underlying e = some (.int k)) (cs ds : Array Value) (f g : Nat → Int) (w : World) : ∀ is : List Nat, (∀ i ∈ is, cs[i]? = some (.int k (f i)) ∧ ds[i]? = some (.int k (g i))) → (Op.eqItems (d + 1) e 1 cs ds is).run P w = .ok (is.all fun i => f i == g i) w
  | [], _ => by simp [Op.eqItems]
  | i :: is, h => by
    obtain ⟨hx, hy⟩ := h i (List.mem_cons_self ..)
    have ih := eqItems_two d he cs ds f g w is fun j hj => h j (List.mem_cons_of_mem _ hj)
    have e1 : ∀ (a b : Int) (wx : World), (Op.equalIn (d + 1) e (.int k a) (.int k b)).run P wx = .ok (a == b) wx := fun a b wx => by
      simp [Op.equalIn, run_underlying he]
    cases hq : (f i == g i) with
    | true => simp [Op.eqItems, part, isAgg, run_underlying he, e1, hx, hy, hq, ih]
    | false => simp [Op.eqItems, part, isAgg, run_underlying he, e1, hx, hy, hq]
set_option maxRecDepth 100000 in
theorem eqH {X Y : List Int} (hX : X.length = 32) (hY : Y.length = 32) (w : World) : (Op.equalIn 10000 35 (.agg (bv X).toArray) (.agg (bv Y).toArray)).run Try.prog w = .ok (decide (X = Y)) w := by
  obtain ⟨i, hi⟩ := Option.isSome_iff_exists.1 (show (Try.prog.info? 5).isSome = true by kernel_rfl)
  have hc : Try.prog.cellsOf 5 = 1 := by kernel_rfl
  rw [run_equalIn_array w 9999 _ _ Try.underlying35 hi, hc]
  have hg : ∀ (Z : List Int) (j : Nat), j < Z.length → (bv Z).toArray[j]? = some (.int .u8 (Z.getD j 0)) := fun Z j hj => by
    rw [List.getElem?_toArray]
    unfold bv
    rw [List.getElem?_map, List.getD_eq_getElem?_getD, List.getElem?_eq_getElem hj]
    rfl
  rw [eqItems_two 9998 Try.underlying5 _ _ (fun j => X.getD j 0) (fun j => Y.getD j 0) w _ fun j hj => ⟨hg X j (by rw [hX]; exact List.mem_range.1 hj), hg Y j (by rw [hY]; exact List.mem_range.1 hj)⟩]
  congr 1
  rw [Bool.eq_iff_iff]
  simp only [List.all_eq_true, List.mem_range, beq_iff_eq, decide_eq_true_eq]
  constructor
  · intro h
    refine List.ext_getElem (by omega) fun j h1 h2 => ?_
    have h3 := h j (by omega)
    rw [List.getD_eq_getElem?_getD, List.getD_eq_getElem?_getD, List.getElem?_eq_getElem h1, List.getElem?_eq_getElem h2] at h3
    exact h3
  · rintro rfl j _; rfl
theorem take_app_eq' {α : Type} {l k : List α} {i : Nat} {x y : α} (hx : l[i]? = some x) (hy : k[i]? = some y) (h : l.take i = k.take i) (hxy : x = y) : l.take (i + 1) = k.take (i + 1) := by
  rw [List.take_add_one, List.take_add_one, hx, hy, h, hxy]
theorem get_ne' {α : Type} {l k : List α} {i : Nat} {x y : α} (hx : l[i]? = some x) (hy : k[i]? = some y) (hxy : x ≠ y) : l ≠ k := fun h => hxy (by rw [h, hy] at hx; exact (Option.some.inj hx).symm)
set_option maxRecDepth 100000 in
set_option maxHeartbeats 16000000 in
theorem isEq_at (u v : Value) (l k : List Int) (w : World) (hu : Is w u l) (hv : Is w v k) (hL : l.length ≤ 140737488355328) :
    Calls Try.prog 217 #[u, v] w fun r w' => r = .returned (.bool (decide (l = k))) ∧ Below w.heap.size w w' := by
  have HU := Lib.hid (show _ ∧ True from ⟨hu, trivial⟩)
  have HV := Lib.hid (show _ ∧ True from ⟨hv, trivial⟩)
  obtain ⟨q1, c1, rfl, -⟩ := hu
  obtain ⟨q2, c2, rfl, -⟩ := hv
  obtain ⟨n1, hn1⟩ : ∃ n, l.length = n := ⟨_, rfl⟩
  obtain ⟨n2, hn2⟩ : ∃ n, k.length = n := ⟨_, rfl⟩
  rw [hn1] at HU hL
  rw [hn2] at HV
  obtain ⟨b, hb⟩ : ∃ b, decide (l = k) = b := ⟨_, rfl⟩
  rw [hb, hn1, hn2]
  have HB := Lib.hid (show _ ∧ _ ∧ _ from ⟨hb, hn1, hn2⟩)
  have hni : (n1 : Int) ≤ 140737488355328 := by omega
  clear hb hn1 hn2 hL
  by_cases hne : n1 = n2
  · subst hne
    go_enter Try.func217, Try.ntmps217
    go_wp2_with fail
    go_loopg [5, 13] n1 (fun gg s5 s13 wr => ∃ i : Nat, i + gg = n1 ∧ s13 = .int .i64 (i : Int) ∧ Hid (l.take i = k.take i) ∧ Hid (Below w.heap.size w wr))
    case atStart => exact ⟨0, by omega, rfl, Lib.hid (by rw [List.take_zero, List.take_zero]), Lib.hid (Below.refl _ _)⟩
    case round =>
      obtain ⟨i, him, rfl, heq, hinv⟩ := hrel
      by_cases hi : i < n1
      · obtain ⟨x, hx⟩ : ∃ x, l[i]? = some x := ⟨_, List.getElem?_eq_getElem (by have := HB.out.2.1; omega)⟩
        obtain ⟨y, hy⟩ : ∃ y, k[i]? = some y := ⟨_, List.getElem?_eq_getElem (by have := HB.out.2.2; omega)⟩
        obtain ⟨gx, ox, cx', hu, hgx, hcx⟩ := (HU.out.1.below hinv.out).get hx
        simp only [Value.slice.injEq] at hu
        obtain ⟨rfl, -, -⟩ := hu
        obtain ⟨gy, oy, cy', hu, hgy, hcy⟩ := (HV.out.1.below hinv.out).get hy
        simp only [Value.slice.injEq] at hu
        obtain ⟨rfl, -, -⟩ := hu
        have cx0 : wr.cell? ⟨gx, ox + i, none⟩ = some (.int .i64 x) := by have h := hcx 0 _ rfl; simpa using h
        have cy0 : wr.cell? ⟨gy, oy + i, none⟩ = some (.int .i64 y) := by have h := hcy 0 _ rfl; simpa using h
        clear hcx hcy
        have HX := Lib.hid (show _ ∧ _ from ⟨hx, hy⟩)
        clear hx hy
        have hlt : (i : Int) < (n1 : Int) := by omega
        by_cases hxy : x = y
        · subst hxy
          have q1 := trivial
          have hnext := Lib.hid (take_app_eq' HX.out.1 HX.out.2 heq.out rfl)
          clear HX heq
          go_upto_region 6 with (fail)
          let L : List Sp := []
          refine wp_region_six (shs L) (look6 L) (None_) (by kernel_rfl) (by kernel_rfl) (mk_St L [] [] (by kernel_rfl) (by kernel_rfl) trivial (by simp)) ?_
          intro QQ hQ
          refine stepK rfl (by kernel_rfl) (fun K hK => ?_); go_simp
          apply Exists.intro; apply And.intro; (focus (intro wk hk; go_simp; exact ⟨rfl, rfl⟩)); refine hK _ _ ?_; clear hK K
          refine stepK rfl (by kernel_rfl) (fun K hK => ?_); go_simp
          apply Exists.intro; apply And.intro; (focus (intro wk hk; go_simp; exact ⟨rfl, rfl⟩)); refine hK _ _ ?_; clear hK K
          refine stepK rfl (by kernel_rfl) (fun K hK => ?_); go_simp
          apply Exists.intro; apply And.intro; (focus (intro wk hk; go_simp; exact ⟨rfl, rfl⟩)); refine hK _ _ ?_; clear hK K
          refine stepK rfl (by kernel_rfl) (fun K hK => ?_); go_simp
          apply Exists.intro; apply And.intro; (focus (intro wk hk; have cc : wk.cell? ⟨gx, ox + i, none⟩ = some (.int .i64 x) := (World.cell?_of_block (hk.undrew.below.block _ hgx)).trans cx0; go_simp; exact ⟨rfl, rfl⟩)); refine hK _ _ ?_; clear hK K
          refine stepK rfl (by kernel_rfl) (fun K hK => ?_); go_simp
          apply Exists.intro; apply And.intro; (focus (intro wk hk; go_simp; exact ⟨rfl, rfl⟩)); refine hK _ _ ?_; clear hK K
          refine stepK rfl (by kernel_rfl) (fun K hK => ?_); go_simp
          apply Exists.intro; apply And.intro; (focus (intro wk hk; go_simp; exact ⟨rfl, rfl⟩)); refine hK _ _ ?_; clear hK K
          refine stepK rfl (by kernel_rfl) (fun K hK => ?_); go_simp
          apply Exists.intro; apply And.intro; (focus (intro wk hk; go_simp; exact ⟨rfl, rfl⟩)); refine hK _ _ ?_; clear hK K
          refine stepK rfl (by kernel_rfl) (fun K hK => ?_); go_simp
          apply Exists.intro; apply And.intro; (focus (intro wk hk; have cc : wk.cell? ⟨gy, oy + i, none⟩ = some (.int .i64 x) := (World.cell?_of_block (hk.undrew.below.block _ hgy)).trans cy0; go_simp; exact ⟨rfl, rfl⟩)); refine hK _ _ ?_; clear hK K
          refine stepK rfl (by kernel_rfl) (fun K hK => ?_); go_simp
          apply Exists.intro; apply And.intro; (focus (intro wk hk; go_simp; exact ⟨rfl, rfl⟩)); refine hK _ _ ?_; clear hK K
          refine stepN ?_
          refine hQ _ _ ?_
          intro w1 hT hG hF
          have hl1 := Lib.hid (hinv.out.trans (hT.undrew.below.mono hinv.out.size))
          clear hT hG hF hQ QQ L cx0 cy0 hinv q1
          go_wp2_with fail
          go_roundg (gk - 1)
          case measure => omega
          case rel => exact ⟨i + 1, by omega, by go_num, hnext, hl1⟩
        · have q1 : (x != y) = true := by rw [bne_iff_ne]; exact hxy
          have hbf : b = false := by rw [← HB.out.1]; exact decide_eq_false (get_ne' HX.out.1 HX.out.2 hxy)
          subst hbf
          clear HX heq hxy
          go_upto_region 6 with (fail)
          let L : List Sp := []
          refine wp_region_six (shs L) (look6 L) (None_) (by kernel_rfl) (by kernel_rfl) (mk_St L [] [] (by kernel_rfl) (by kernel_rfl) trivial (by simp)) ?_
          intro QQ hQ
          refine stepK rfl (by kernel_rfl) (fun K hK => ?_); go_simp
          apply Exists.intro; apply And.intro; (focus (intro wk hk; go_simp; exact ⟨rfl, rfl⟩)); refine hK _ _ ?_; clear hK K
          refine stepK rfl (by kernel_rfl) (fun K hK => ?_); go_simp
          apply Exists.intro; apply And.intro; (focus (intro wk hk; go_simp; exact ⟨rfl, rfl⟩)); refine hK _ _ ?_; clear hK K
          refine stepK rfl (by kernel_rfl) (fun K hK => ?_); go_simp
          apply Exists.intro; apply And.intro; (focus (intro wk hk; go_simp; exact ⟨rfl, rfl⟩)); refine hK _ _ ?_; clear hK K
          refine stepK rfl (by kernel_rfl) (fun K hK => ?_); go_simp
          apply Exists.intro; apply And.intro; (focus (intro wk hk; have cc : wk.cell? ⟨gx, ox + i, none⟩ = some (.int .i64 x) := (World.cell?_of_block (hk.undrew.below.block _ hgx)).trans cx0; go_simp; exact ⟨rfl, rfl⟩)); refine hK _ _ ?_; clear hK K
          refine stepK rfl (by kernel_rfl) (fun K hK => ?_); go_simp
          apply Exists.intro; apply And.intro; (focus (intro wk hk; go_simp; exact ⟨rfl, rfl⟩)); refine hK _ _ ?_; clear hK K
          refine stepK rfl (by kernel_rfl) (fun K hK => ?_); go_simp
          apply Exists.intro; apply And.intro; (focus (intro wk hk; go_simp; exact ⟨rfl, rfl⟩)); refine hK _ _ ?_; clear hK K
          refine stepK rfl (by kernel_rfl) (fun K hK => ?_); go_simp
          apply Exists.intro; apply And.intro; (focus (intro wk hk; go_simp; exact ⟨rfl, rfl⟩)); refine hK _ _ ?_; clear hK K
          refine stepK rfl (by kernel_rfl) (fun K hK => ?_); go_simp
          apply Exists.intro; apply And.intro; (focus (intro wk hk; have cc : wk.cell? ⟨gy, oy + i, none⟩ = some (.int .i64 y) := (World.cell?_of_block (hk.undrew.below.block _ hgy)).trans cy0; go_simp; exact ⟨rfl, rfl⟩)); refine hK _ _ ?_; clear hK K
          refine stepK rfl (by kernel_rfl) (fun K hK => ?_); go_simp
          apply Exists.intro; apply And.intro; (focus (intro wk hk; go_simp; exact ⟨rfl, rfl⟩)); refine hK _ _ ?_; clear hK K
          refine stepN ?_
          refine hQ _ _ ?_
          intro w1 hT hG hF
          have hl1 := Lib.hid (hinv.out.trans (hT.undrew.below.mono hinv.out.size))
          clear hT hG hF hQ QQ L cx0 cy0 hinv
          go_wp2_with fail
          go_ret
          exact ⟨rfl, hl1.out⟩
      · obtain rfl : i = n1 := by omega
        have hlt : ¬ (i : Int) < (i : Int) := by omega
        have hbt : b = true := by
          rw [← HB.out.1]
          have h := heq.out
          rw [List.take_of_length_le (by have := HB.out.2.1; omega), List.take_of_length_le (by have := HB.out.2.2; omega)] at h
          exact decide_eq_true h
        subst hbt
        clear heq
        go_wp2_with fail
        go_ret
        exact ⟨rfl, hinv.out⟩
  · have hd : ¬ (n1 : Int) = (n2 : Int) := by omega
    have hbf : b = false := by rw [← HB.out.1]; exact decide_eq_false (fun h => hne (by rw [← HB.out.2.1, ← HB.out.2.2, h]))
    subst hbf
    clear hne
    go_enter Try.func217, Try.ntmps217
    go_wp2_with fail
    go_ret
    exact ⟨rfl, Below.refl _ _⟩
set_option maxRecDepth 100000 in
set_option maxHeartbeats 16000000 in
theorem isRef_at (u v : Value) (l k : List Int) (w : World) (hu : Is w u l) (hv : Is w v k) (hL : l.length ≤ 140737488355328) :
    Calls Try.prog 219 #[u, v] w fun r w' => r = .returned (.bool (decide (l = k))) ∧ Below w.heap.size w w' := by
  have HU := Lib.hid (show _ ∧ True from ⟨hu, trivial⟩)
  have HV := Lib.hid (show _ ∧ True from ⟨hv, trivial⟩)
  obtain ⟨q1, c1, rfl, -⟩ := hu
  obtain ⟨q2, c2, rfl, -⟩ := hv
  obtain ⟨n1, hn1⟩ : ∃ n, l.length = n := ⟨_, rfl⟩
  obtain ⟨n2, hn2⟩ : ∃ n, k.length = n := ⟨_, rfl⟩
  rw [hn1] at HU hL
  rw [hn2] at HV
  obtain ⟨b, hb⟩ : ∃ b, decide (l = k) = b := ⟨_, rfl⟩
  rw [hb, hn1, hn2]
  have HB := Lib.hid (show _ ∧ _ ∧ _ from ⟨hb, hn1, hn2⟩)
  have hni : (n1 : Int) ≤ 140737488355328 := by omega
  clear hb hn1 hn2 hL
  by_cases hne : n1 = n2
  · subst hne
    go_enter Try.func219, Try.ntmps219
    go_wp2_with fail
    go_loopg [5, 13] n1 (fun gg s5 s13 wr => ∃ i : Nat, i + gg = n1 ∧ s13 = .int .i64 (i : Int) ∧ Hid (l.take i = k.take i) ∧ Hid (Below w.heap.size w wr))
    case atStart => exact ⟨0, by omega, rfl, Lib.hid (by rw [List.take_zero, List.take_zero]), Lib.hid (Below.refl _ _)⟩
    case round =>
      obtain ⟨i, him, rfl, heq, hinv⟩ := hrel
      by_cases hi : i < n1
      · obtain ⟨x, hx⟩ : ∃ x, l[i]? = some x := ⟨_, List.getElem?_eq_getElem (by have := HB.out.2.1; omega)⟩
        obtain ⟨y, hy⟩ : ∃ y, k[i]? = some y := ⟨_, List.getElem?_eq_getElem (by have := HB.out.2.2; omega)⟩
        obtain ⟨gx, ox, cx', hu, hgx, hcx⟩ := (HU.out.1.below hinv.out).get hx
        simp only [Value.slice.injEq] at hu
        obtain ⟨rfl, -, -⟩ := hu
        obtain ⟨gy, oy, cy', hu, hgy, hcy⟩ := (HV.out.1.below hinv.out).get hy
        simp only [Value.slice.injEq] at hu
        obtain ⟨rfl, -, -⟩ := hu
        have cx0 : wr.cell? ⟨gx, ox + i, none⟩ = some (.int .i64 x) := by have h := hcx 0 _ rfl; simpa using h
        have cy0 : wr.cell? ⟨gy, oy + i, none⟩ = some (.int .i64 y) := by have h := hcy 0 _ rfl; simpa using h
        clear hcx hcy
        have HX := Lib.hid (show _ ∧ _ from ⟨hx, hy⟩)
        clear hx hy
        have hlt : (i : Int) < (n1 : Int) := by omega
        by_cases hxy : x = y
        · subst hxy
          have q1 := trivial
          have hnext := Lib.hid (take_app_eq' HX.out.1 HX.out.2 heq.out rfl)
          clear HX heq
          go_upto_region 6 with (fail)
          let L : List Sp := []
          refine wp_region_six (shs L) (look6 L) (None_) (by kernel_rfl) (by kernel_rfl) (mk_St L [] [] (by kernel_rfl) (by kernel_rfl) trivial (by simp)) ?_
          intro QQ hQ
          refine stepK rfl (by kernel_rfl) (fun K hK => ?_); go_simp
          apply Exists.intro; apply And.intro; (focus (intro wk hk; go_simp; exact ⟨rfl, rfl⟩)); refine hK _ _ ?_; clear hK K
          refine stepK rfl (by kernel_rfl) (fun K hK => ?_); go_simp
          apply Exists.intro; apply And.intro; (focus (intro wk hk; go_simp; exact ⟨rfl, rfl⟩)); refine hK _ _ ?_; clear hK K
          refine stepK rfl (by kernel_rfl) (fun K hK => ?_); go_simp
          apply Exists.intro; apply And.intro; (focus (intro wk hk; go_simp; exact ⟨rfl, rfl⟩)); refine hK _ _ ?_; clear hK K
          refine stepK rfl (by kernel_rfl) (fun K hK => ?_); go_simp
          apply Exists.intro; apply And.intro; (focus (intro wk hk; have cc : wk.cell? ⟨gx, ox + i, none⟩ = some (.int .i64 x) := (World.cell?_of_block (hk.undrew.below.block _ hgx)).trans cx0; go_simp; exact ⟨rfl, rfl⟩)); refine hK _ _ ?_; clear hK K
          refine stepK rfl (by kernel_rfl) (fun K hK => ?_); go_simp
          apply Exists.intro; apply And.intro; (focus (intro wk hk; go_simp; exact ⟨rfl, rfl⟩)); refine hK _ _ ?_; clear hK K
          refine stepK rfl (by kernel_rfl) (fun K hK => ?_); go_simp
          apply Exists.intro; apply And.intro; (focus (intro wk hk; go_simp; exact ⟨rfl, rfl⟩)); refine hK _ _ ?_; clear hK K
          refine stepK rfl (by kernel_rfl) (fun K hK => ?_); go_simp
          apply Exists.intro; apply And.intro; (focus (intro wk hk; go_simp; exact ⟨rfl, rfl⟩)); refine hK _ _ ?_; clear hK K
          refine stepK rfl (by kernel_rfl) (fun K hK => ?_); go_simp
          apply Exists.intro; apply And.intro; (focus (intro wk hk; have cc : wk.cell? ⟨gy, oy + i, none⟩ = some (.int .i64 x) := (World.cell?_of_block (hk.undrew.below.block _ hgy)).trans cy0; go_simp; exact ⟨rfl, rfl⟩)); refine hK _ _ ?_; clear hK K
          refine stepK rfl (by kernel_rfl) (fun K hK => ?_); go_simp
          apply Exists.intro; apply And.intro; (focus (intro wk hk; go_simp; exact ⟨rfl, rfl⟩)); refine hK _ _ ?_; clear hK K
          refine stepN ?_
          refine hQ _ _ ?_
          intro w1 hT hG hF
          have hl1 := Lib.hid (hinv.out.trans (hT.undrew.below.mono hinv.out.size))
          clear hT hG hF hQ QQ L cx0 cy0 hinv q1
          go_wp2_with fail
          go_roundg (gk - 1)
          case measure => omega
          case rel => exact ⟨i + 1, by omega, by go_num, hnext, hl1⟩
        · have q1 : (x != y) = true := by rw [bne_iff_ne]; exact hxy
          have hbf : b = false := by rw [← HB.out.1]; exact decide_eq_false (get_ne' HX.out.1 HX.out.2 hxy)
          subst hbf
          clear HX heq hxy
          go_upto_region 6 with (fail)
          let L : List Sp := []
          refine wp_region_six (shs L) (look6 L) (None_) (by kernel_rfl) (by kernel_rfl) (mk_St L [] [] (by kernel_rfl) (by kernel_rfl) trivial (by simp)) ?_
          intro QQ hQ
          refine stepK rfl (by kernel_rfl) (fun K hK => ?_); go_simp
          apply Exists.intro; apply And.intro; (focus (intro wk hk; go_simp; exact ⟨rfl, rfl⟩)); refine hK _ _ ?_; clear hK K
          refine stepK rfl (by kernel_rfl) (fun K hK => ?_); go_simp
          apply Exists.intro; apply And.intro; (focus (intro wk hk; go_simp; exact ⟨rfl, rfl⟩)); refine hK _ _ ?_; clear hK K
          refine stepK rfl (by kernel_rfl) (fun K hK => ?_); go_simp
          apply Exists.intro; apply And.intro; (focus (intro wk hk; go_simp; exact ⟨rfl, rfl⟩)); refine hK _ _ ?_; clear hK K
          refine stepK rfl (by kernel_rfl) (fun K hK => ?_); go_simp
          apply Exists.intro; apply And.intro; (focus (intro wk hk; have cc : wk.cell? ⟨gx, ox + i, none⟩ = some (.int .i64 x) := (World.cell?_of_block (hk.undrew.below.block _ hgx)).trans cx0; go_simp; exact ⟨rfl, rfl⟩)); refine hK _ _ ?_; clear hK K
          refine stepK rfl (by kernel_rfl) (fun K hK => ?_); go_simp
          apply Exists.intro; apply And.intro; (focus (intro wk hk; go_simp; exact ⟨rfl, rfl⟩)); refine hK _ _ ?_; clear hK K
          refine stepK rfl (by kernel_rfl) (fun K hK => ?_); go_simp
          apply Exists.intro; apply And.intro; (focus (intro wk hk; go_simp; exact ⟨rfl, rfl⟩)); refine hK _ _ ?_; clear hK K
          refine stepK rfl (by kernel_rfl) (fun K hK => ?_); go_simp
          apply Exists.intro; apply And.intro; (focus (intro wk hk; go_simp; exact ⟨rfl, rfl⟩)); refine hK _ _ ?_; clear hK K
          refine stepK rfl (by kernel_rfl) (fun K hK => ?_); go_simp
          apply Exists.intro; apply And.intro; (focus (intro wk hk; have cc : wk.cell? ⟨gy, oy + i, none⟩ = some (.int .i64 y) := (World.cell?_of_block (hk.undrew.below.block _ hgy)).trans cy0; go_simp; exact ⟨rfl, rfl⟩)); refine hK _ _ ?_; clear hK K
          refine stepK rfl (by kernel_rfl) (fun K hK => ?_); go_simp
          apply Exists.intro; apply And.intro; (focus (intro wk hk; go_simp; exact ⟨rfl, rfl⟩)); refine hK _ _ ?_; clear hK K
          refine stepN ?_
          refine hQ _ _ ?_
          intro w1 hT hG hF
          have hl1 := Lib.hid (hinv.out.trans (hT.undrew.below.mono hinv.out.size))
          clear hT hG hF hQ QQ L cx0 cy0 hinv
          go_wp2_with fail
          go_ret
          exact ⟨rfl, hl1.out⟩
      · obtain rfl : i = n1 := by omega
        have hlt : ¬ (i : Int) < (i : Int) := by omega
        have hbt : b = true := by
          rw [← HB.out.1]
          have h := heq.out
          rw [List.take_of_length_le (by have := HB.out.2.1; omega), List.take_of_length_le (by have := HB.out.2.2; omega)] at h
          exact decide_eq_true h
        subst hbt
        clear heq
        go_wp2_with fail
        go_ret
        exact ⟨rfl, hinv.out⟩
  · have hd : ¬ (n1 : Int) = (n2 : Int) := by omega
    have hbf : b = false := by rw [← HB.out.1]; exact decide_eq_false (fun h => hne (by rw [← HB.out.2.1, ← HB.out.2.2, h]))
    subst hbf
    clear hne
    go_enter Try.func219, Try.ntmps219
    go_wp2_with fail
    go_ret
    exact ⟨rfl, Below.refl _ _⟩
set_option maxRecDepth 100000 in
set_option maxHeartbeats 16000000 in
theorem hsEq_at (u v : Value) (l k : List (List Int)) (w : World) (hu : Hs w u l) (hv : Hs w v k) (hlH : ∀ x ∈ l, x.length = 32) (hkH : ∀ x ∈ k, x.length = 32) (hL : l.length ≤ 140737488355328) :
    Calls Try.prog 218 #[u, v] w fun r w' => r = .returned (.bool (decide (l = k))) ∧ Below w.heap.size w w' := by
  have HU := Lib.hid (show _ ∧ _ from ⟨hu, hlH⟩)
  have HV := Lib.hid (show _ ∧ _ from ⟨hv, hkH⟩)
  obtain ⟨q1, c1, rfl, -⟩ := hu
  obtain ⟨q2, c2, rfl, -⟩ := hv
  obtain ⟨n1, hn1⟩ : ∃ n, l.length = n := ⟨_, rfl⟩
  obtain ⟨n2, hn2⟩ : ∃ n, k.length = n := ⟨_, rfl⟩
  rw [hn1] at HU hL
  rw [hn2] at HV
  obtain ⟨b, hb⟩ : ∃ b, decide (l = k) = b := ⟨_, rfl⟩
  rw [hb, hn1, hn2]
  have HB := Lib.hid (show _ ∧ _ ∧ _ from ⟨hb, hn1, hn2⟩)
  have hni : (n1 : Int) ≤ 140737488355328 := by omega
  clear hlH hkH hb hn1 hn2 hL
  by_cases hne : n1 = n2
  · subst hne
    go_enter Try.func218, Try.ntmps218
    go_wp2_with fail
    go_loopg [5, 13] n1 (fun gg s5 s13 wr => ∃ i : Nat, i + gg = n1 ∧ s13 = .int .i64 (i : Int) ∧ Hid (l.take i = k.take i) ∧ Hid (Below w.heap.size w wr))
    case atStart => exact ⟨0, by omega, rfl, Lib.hid (by rw [List.take_zero, List.take_zero]), Lib.hid (Below.refl _ _)⟩
    case round =>
      obtain ⟨i, him, rfl, heq, hinv⟩ := hrel
      by_cases hi : i < n1
      · obtain ⟨x, hx⟩ : ∃ x, l[i]? = some x := ⟨_, List.getElem?_eq_getElem (by have := HB.out.2.1; omega)⟩
        obtain ⟨y, hy⟩ : ∃ y, k[i]? = some y := ⟨_, List.getElem?_eq_getElem (by have := HB.out.2.2; omega)⟩
        obtain ⟨gx, ox, cx', hu, hgx, hcx⟩ := (HU.out.1.below hinv.out).get hx
        simp only [Value.slice.injEq] at hu
        obtain ⟨rfl, -, -⟩ := hu
        obtain ⟨gy, oy, cy', hu, hgy, hcy⟩ := (HV.out.1.below hinv.out).get hy
        simp only [Value.slice.injEq] at hu
        obtain ⟨rfl, -, -⟩ := hu
        have hxl := HU.out.2 x (List.mem_of_getElem? hx)
        have hyl := HV.out.2 y (List.mem_of_getElem? hy)
        have hbx : (bv x).length = 32 := by rw [bv_len]; exact hxl
        have hby : (bv y).length = 32 := by rw [bv_len]; exact hyl
        have HX := Lib.hid (show _ ∧ _ from ⟨hx, hy⟩)
        clear hx hy
        have hlt : (i : Int) < (n1 : Int) := by omega
        by_cases hxy : x = y
        · subst hxy
          have q1 : ∀ wx, (Op.equalIn 10000 35 (.agg (bv x).toArray) (.agg (bv x).toArray)).run Try.prog wx = .ok true wx := fun wx => by rw [eqH hxl hyl, decide_eq_true rfl]
          have hnext := Lib.hid (take_app_eq' HX.out.1 HX.out.2 heq.out rfl)
          clear hxl hyl HX heq
          go_upto_region 6 with (fail)
          let L : List Sp := []
          refine wp_region_six (shs L) (look6 L) (None_) (by kernel_rfl) (by kernel_rfl) (mk_St L [] [] (by kernel_rfl) (by kernel_rfl) trivial (by simp)) ?_
          intro QQ hQ
          refine stepK rfl (by kernel_rfl) (fun K hK => ?_); go_simp
          apply Exists.intro; apply And.intro; (focus (intro wk hk; go_simp; exact ⟨rfl, rfl⟩)); refine hK _ _ ?_; clear hK K
          refine stepK rfl (by kernel_rfl) (fun K hK => ?_); go_simp
          apply Exists.intro; apply And.intro; (focus (intro wk hk; go_simp; exact ⟨rfl, rfl⟩)); refine hK _ _ ?_; clear hK K
          refine stepK rfl (by kernel_rfl) (fun K hK => ?_); go_simp
          apply Exists.intro; apply And.intro; (focus (intro wk hk; go_simp; exact ⟨rfl, rfl⟩)); refine hK _ _ ?_; clear hK K
          refine stepK rfl (by kernel_rfl) (fun K hK => ?_); go_simp
          apply Exists.intro; apply And.intro; (focus exact kLoadE rfl rfl aggR35 hcx hbx hgx id); refine hK _ _ ?_; clear hK K
          refine stepK rfl (by kernel_rfl) (fun K hK => ?_); go_simp
          apply Exists.intro; apply And.intro; (focus (intro wk hk; go_simp; exact ⟨rfl, rfl⟩)); refine hK _ _ ?_; clear hK K
          refine stepK rfl (by kernel_rfl) (fun K hK => ?_); go_simp
          apply Exists.intro; apply And.intro; (focus (intro wk hk; go_simp; exact ⟨rfl, rfl⟩)); refine hK _ _ ?_; clear hK K
          refine stepK rfl (by kernel_rfl) (fun K hK => ?_); go_simp
          apply Exists.intro; apply And.intro; (focus (intro wk hk; go_simp; exact ⟨rfl, rfl⟩)); refine hK _ _ ?_; clear hK K
          refine stepK rfl (by kernel_rfl) (fun K hK => ?_); go_simp
          apply Exists.intro; apply And.intro; (focus exact kLoadE rfl rfl aggR35 hcy hby hgy id); refine hK _ _ ?_; clear hK K
          refine stepK rfl (by kernel_rfl) (fun K hK => ?_); go_simp
          apply Exists.intro; apply And.intro; (focus (intro wk hk; go_simp; exact ⟨rfl, rfl⟩)); refine hK _ _ ?_; clear hK K
          refine stepN ?_
          refine hQ _ _ ?_
          intro w1 hT hG hF
          have hl1 := Lib.hid (hinv.out.trans (hT.undrew.below.mono hinv.out.size))
          clear hT hG hF hQ QQ L hcx hcy hinv q1
          go_wp2_with fail
          go_roundg (gk - 1)
          case measure => omega
          case rel => exact ⟨i + 1, by omega, by go_num, hnext, hl1⟩
        · have q1 : ∀ wx, (Op.equalIn 10000 35 (.agg (bv x).toArray) (.agg (bv y).toArray)).run Try.prog wx = .ok false wx := fun wx => by rw [eqH hxl hyl, decide_eq_false hxy]
          have hbf : b = false := by rw [← HB.out.1]; exact decide_eq_false (get_ne' HX.out.1 HX.out.2 hxy)
          subst hbf
          clear hxl hyl HX heq hxy
          go_upto_region 6 with (fail)
          let L : List Sp := []
          refine wp_region_six (shs L) (look6 L) (None_) (by kernel_rfl) (by kernel_rfl) (mk_St L [] [] (by kernel_rfl) (by kernel_rfl) trivial (by simp)) ?_
          intro QQ hQ
          refine stepK rfl (by kernel_rfl) (fun K hK => ?_); go_simp
          apply Exists.intro; apply And.intro; (focus (intro wk hk; go_simp; exact ⟨rfl, rfl⟩)); refine hK _ _ ?_; clear hK K
          refine stepK rfl (by kernel_rfl) (fun K hK => ?_); go_simp
          apply Exists.intro; apply And.intro; (focus (intro wk hk; go_simp; exact ⟨rfl, rfl⟩)); refine hK _ _ ?_; clear hK K
          refine stepK rfl (by kernel_rfl) (fun K hK => ?_); go_simp
          apply Exists.intro; apply And.intro; (focus (intro wk hk; go_simp; exact ⟨rfl, rfl⟩)); refine hK _ _ ?_; clear hK K
          refine stepK rfl (by kernel_rfl) (fun K hK => ?_); go_simp
          apply Exists.intro; apply And.intro; (focus exact kLoadE rfl rfl aggR35 hcx hbx hgx id); refine hK _ _ ?_; clear hK K
          refine stepK rfl (by kernel_rfl) (fun K hK => ?_); go_simp
          apply Exists.intro; apply And.intro; (focus (intro wk hk; go_simp; exact ⟨rfl, rfl⟩)); refine hK _ _ ?_; clear hK K
          refine stepK rfl (by kernel_rfl) (fun K hK => ?_); go_simp
          apply Exists.intro; apply And.intro; (focus (intro wk hk; go_simp; exact ⟨rfl, rfl⟩)); refine hK _ _ ?_; clear hK K
          refine stepK rfl (by kernel_rfl) (fun K hK => ?_); go_simp
          apply Exists.intro; apply And.intro; (focus (intro wk hk; go_simp; exact ⟨rfl, rfl⟩)); refine hK _ _ ?_; clear hK K
          refine stepK rfl (by kernel_rfl) (fun K hK => ?_); go_simp
          apply Exists.intro; apply And.intro; (focus exact kLoadE rfl rfl aggR35 hcy hby hgy id); refine hK _ _ ?_; clear hK K
          refine stepK rfl (by kernel_rfl) (fun K hK => ?_); go_simp
          apply Exists.intro; apply And.intro; (focus (intro wk hk; go_simp; exact ⟨rfl, rfl⟩)); refine hK _ _ ?_; clear hK K
          refine stepN ?_
          refine hQ _ _ ?_
          intro w1 hT hG hF
          have hl1 := Lib.hid (hinv.out.trans (hT.undrew.below.mono hinv.out.size))
          clear hT hG hF hQ QQ L hcx hcy hinv
          go_wp2_with fail
          go_ret
          exact ⟨rfl, hl1.out⟩
      · obtain rfl : i = n1 := by omega
        have hlt : ¬ (i : Int) < (i : Int) := by omega
        have hbt : b = true := by
          rw [← HB.out.1]
          have h := heq.out
          rw [List.take_of_length_le (by have := HB.out.2.1; omega), List.take_of_length_le (by have := HB.out.2.2; omega)] at h
          exact decide_eq_true h
        subst hbt
        clear heq
        go_wp2_with fail
        go_ret
        exact ⟨rfl, hinv.out⟩
  · have hd : ¬ (n1 : Int) = (n2 : Int) := by omega
    have hbf : b = false := by rw [← HB.out.1]; exact decide_eq_false (fun h => hne (by rw [← HB.out.2.1, ← HB.out.2.2, h]))
    subst hbf
    clear hne
    go_enter Try.func218, Try.ntmps218
    go_wp2_with fail
    go_ret
    exact ⟨rfl, Below.refl _ _⟩
set_option maxRecDepth 100000 in
set_option maxHeartbeats 16000000 in
theorem hsRef_at (u v : Value) (l k : List (List Int)) (w : World) (hu : Hs w u l) (hv : Hs w v k) (hlH : ∀ x ∈ l, x.length = 32) (hkH : ∀ x ∈ k, x.length = 32) (hL : l.length ≤ 140737488355328) :
    Calls Try.prog 220 #[u, v] w fun r w' => r = .returned (.bool (decide (l = k))) ∧ Below w.heap.size w w' := by
  have HU := Lib.hid (show _ ∧ _ from ⟨hu, hlH⟩)
  have HV := Lib.hid (show _ ∧ _ from ⟨hv, hkH⟩)
  obtain ⟨q1, c1, rfl, -⟩ := hu
  obtain ⟨q2, c2, rfl, -⟩ := hv
  obtain ⟨n1, hn1⟩ : ∃ n, l.length = n := ⟨_, rfl⟩
  obtain ⟨n2, hn2⟩ : ∃ n, k.length = n := ⟨_, rfl⟩
  rw [hn1] at HU hL
  rw [hn2] at HV
  obtain ⟨b, hb⟩ : ∃ b, decide (l = k) = b := ⟨_, rfl⟩
  rw [hb, hn1, hn2]
  have HB := Lib.hid (show _ ∧ _ ∧ _ from ⟨hb, hn1, hn2⟩)
  have hni : (n1 : Int) ≤ 140737488355328 := by omega
  clear hlH hkH hb hn1 hn2 hL
  by_cases hne : n1 = n2
  · subst hne
    go_enter Try.func220, Try.ntmps220
    go_wp2_with fail
    go_loopg [5, 13] n1 (fun gg s5 s13 wr => ∃ i : Nat, i + gg = n1 ∧ s13 = .int .i64 (i : Int) ∧ Hid (l.take i = k.take i) ∧ Hid (Below w.heap.size w wr))
    case atStart => exact ⟨0, by omega, rfl, Lib.hid (by rw [List.take_zero, List.take_zero]), Lib.hid (Below.refl _ _)⟩
    case round =>
      obtain ⟨i, him, rfl, heq, hinv⟩ := hrel
      by_cases hi : i < n1
      · obtain ⟨x, hx⟩ : ∃ x, l[i]? = some x := ⟨_, List.getElem?_eq_getElem (by have := HB.out.2.1; omega)⟩
        obtain ⟨y, hy⟩ : ∃ y, k[i]? = some y := ⟨_, List.getElem?_eq_getElem (by have := HB.out.2.2; omega)⟩
        obtain ⟨gx, ox, cx', hu, hgx, hcx⟩ := (HU.out.1.below hinv.out).get hx
        simp only [Value.slice.injEq] at hu
        obtain ⟨rfl, -, -⟩ := hu
        obtain ⟨gy, oy, cy', hu, hgy, hcy⟩ := (HV.out.1.below hinv.out).get hy
        simp only [Value.slice.injEq] at hu
        obtain ⟨rfl, -, -⟩ := hu
        have hxl := HU.out.2 x (List.mem_of_getElem? hx)
        have hyl := HV.out.2 y (List.mem_of_getElem? hy)
        have hbx : (bv x).length = 32 := by rw [bv_len]; exact hxl
        have hby : (bv y).length = 32 := by rw [bv_len]; exact hyl
        have HX := Lib.hid (show _ ∧ _ from ⟨hx, hy⟩)
        clear hx hy
        have hlt : (i : Int) < (n1 : Int) := by omega
        by_cases hxy : x = y
        · subst hxy
          have q1 : ∀ wx, (Op.equalIn 10000 35 (.agg (bv x).toArray) (.agg (bv x).toArray)).run Try.prog wx = .ok true wx := fun wx => by rw [eqH hxl hyl, decide_eq_true rfl]
          have hnext := Lib.hid (take_app_eq' HX.out.1 HX.out.2 heq.out rfl)
          clear hxl hyl HX heq
          go_upto_region 6 with (fail)
          let L : List Sp := []
          refine wp_region_six (shs L) (look6 L) (None_) (by kernel_rfl) (by kernel_rfl) (mk_St L [] [] (by kernel_rfl) (by kernel_rfl) trivial (by simp)) ?_
          intro QQ hQ
          refine stepK rfl (by kernel_rfl) (fun K hK => ?_); go_simp
          apply Exists.intro; apply And.intro; (focus (intro wk hk; go_simp; exact ⟨rfl, rfl⟩)); refine hK _ _ ?_; clear hK K
          refine stepK rfl (by kernel_rfl) (fun K hK => ?_); go_simp
          apply Exists.intro; apply And.intro; (focus (intro wk hk; go_simp; exact ⟨rfl, rfl⟩)); refine hK _ _ ?_; clear hK K
          refine stepK rfl (by kernel_rfl) (fun K hK => ?_); go_simp
          apply Exists.intro; apply And.intro; (focus (intro wk hk; go_simp; exact ⟨rfl, rfl⟩)); refine hK _ _ ?_; clear hK K
          refine stepK rfl (by kernel_rfl) (fun K hK => ?_); go_simp
          apply Exists.intro; apply And.intro; (focus exact kLoadE rfl rfl aggR35 hcx hbx hgx id); refine hK _ _ ?_; clear hK K
          refine stepK rfl (by kernel_rfl) (fun K hK => ?_); go_simp
          apply Exists.intro; apply And.intro; (focus (intro wk hk; go_simp; exact ⟨rfl, rfl⟩)); refine hK _ _ ?_; clear hK K
          refine stepK rfl (by kernel_rfl) (fun K hK => ?_); go_simp
          apply Exists.intro; apply And.intro; (focus (intro wk hk; go_simp; exact ⟨rfl, rfl⟩)); refine hK _ _ ?_; clear hK K
          refine stepK rfl (by kernel_rfl) (fun K hK => ?_); go_simp
          apply Exists.intro; apply And.intro; (focus (intro wk hk; go_simp; exact ⟨rfl, rfl⟩)); refine hK _ _ ?_; clear hK K
          refine stepK rfl (by kernel_rfl) (fun K hK => ?_); go_simp
          apply Exists.intro; apply And.intro; (focus exact kLoadE rfl rfl aggR35 hcy hby hgy id); refine hK _ _ ?_; clear hK K
          refine stepK rfl (by kernel_rfl) (fun K hK => ?_); go_simp
          apply Exists.intro; apply And.intro; (focus (intro wk hk; go_simp; exact ⟨rfl, rfl⟩)); refine hK _ _ ?_; clear hK K
          refine stepN ?_
          refine hQ _ _ ?_
          intro w1 hT hG hF
          have hl1 := Lib.hid (hinv.out.trans (hT.undrew.below.mono hinv.out.size))
          clear hT hG hF hQ QQ L hcx hcy hinv q1
          go_wp2_with fail
          go_roundg (gk - 1)
          case measure => omega
          case rel => exact ⟨i + 1, by omega, by go_num, hnext, hl1⟩
        · have q1 : ∀ wx, (Op.equalIn 10000 35 (.agg (bv x).toArray) (.agg (bv y).toArray)).run Try.prog wx = .ok false wx := fun wx => by rw [eqH hxl hyl, decide_eq_false hxy]
          have hbf : b = false := by rw [← HB.out.1]; exact decide_eq_false (get_ne' HX.out.1 HX.out.2 hxy)
          subst hbf
          clear hxl hyl HX heq hxy
          go_upto_region 6 with (fail)
          let L : List Sp := []
          refine wp_region_six (shs L) (look6 L) (None_) (by kernel_rfl) (by kernel_rfl) (mk_St L [] [] (by kernel_rfl) (by kernel_rfl) trivial (by simp)) ?_
          intro QQ hQ
          refine stepK rfl (by kernel_rfl) (fun K hK => ?_); go_simp
          apply Exists.intro; apply And.intro; (focus (intro wk hk; go_simp; exact ⟨rfl, rfl⟩)); refine hK _ _ ?_; clear hK K
          refine stepK rfl (by kernel_rfl) (fun K hK => ?_); go_simp
          apply Exists.intro; apply And.intro; (focus (intro wk hk; go_simp; exact ⟨rfl, rfl⟩)); refine hK _ _ ?_; clear hK K
          refine stepK rfl (by kernel_rfl) (fun K hK => ?_); go_simp
          apply Exists.intro; apply And.intro; (focus (intro wk hk; go_simp; exact ⟨rfl, rfl⟩)); refine hK _ _ ?_; clear hK K
          refine stepK rfl (by kernel_rfl) (fun K hK => ?_); go_simp
          apply Exists.intro; apply And.intro; (focus exact kLoadE rfl rfl aggR35 hcx hbx hgx id); refine hK _ _ ?_; clear hK K
          refine stepK rfl (by kernel_rfl) (fun K hK => ?_); go_simp
          apply Exists.intro; apply And.intro; (focus (intro wk hk; go_simp; exact ⟨rfl, rfl⟩)); refine hK _ _ ?_; clear hK K
          refine stepK rfl (by kernel_rfl) (fun K hK => ?_); go_simp
          apply Exists.intro; apply And.intro; (focus (intro wk hk; go_simp; exact ⟨rfl, rfl⟩)); refine hK _ _ ?_; clear hK K
          refine stepK rfl (by kernel_rfl) (fun K hK => ?_); go_simp
          apply Exists.intro; apply And.intro; (focus (intro wk hk; go_simp; exact ⟨rfl, rfl⟩)); refine hK _ _ ?_; clear hK K
          refine stepK rfl (by kernel_rfl) (fun K hK => ?_); go_simp
          apply Exists.intro; apply And.intro; (focus exact kLoadE rfl rfl aggR35 hcy hby hgy id); refine hK _ _ ?_; clear hK K
          refine stepK rfl (by kernel_rfl) (fun K hK => ?_); go_simp
          apply Exists.intro; apply And.intro; (focus (intro wk hk; go_simp; exact ⟨rfl, rfl⟩)); refine hK _ _ ?_; clear hK K
          refine stepN ?_
          refine hQ _ _ ?_
          intro w1 hT hG hF
          have hl1 := Lib.hid (hinv.out.trans (hT.undrew.below.mono hinv.out.size))
          clear hT hG hF hQ QQ L hcx hcy hinv
          go_wp2_with fail
          go_ret
          exact ⟨rfl, hl1.out⟩
      · obtain rfl : i = n1 := by omega
        have hlt : ¬ (i : Int) < (i : Int) := by omega
        have hbt : b = true := by
          rw [← HB.out.1]
          have h := heq.out
          rw [List.take_of_length_le (by have := HB.out.2.1; omega), List.take_of_length_le (by have := HB.out.2.2; omega)] at h
          exact decide_eq_true h
        subst hbt
        clear heq
        go_wp2_with fail
        go_ret
        exact ⟨rfl, hinv.out⟩
  · have hd : ¬ (n1 : Int) = (n2 : Int) := by omega
    have hbf : b = false := by rw [← HB.out.1]; exact decide_eq_false (fun h => hne (by rw [← HB.out.2.1, ← HB.out.2.2, h]))
    subst hbf
    clear hne
    go_enter Try.func220, Try.ntmps220
    go_wp2_with fail
    go_ret
    exact ⟨rfl, Below.refl _ _⟩
end Go.Proofs.Ytpdenhmkpiafiaa
namespace Go.Proofs.Ytpdenhmkpiafiaa
open Go Go.RowKit K6
def By (xs : List Int) : Prop := ∀ x ∈ xs, 0 ≤ x ∧ x < 256
theorem By.nil : By [] := fun _ h => (by cases h)
theorem By.take {xs : List Int} (h : By xs) (n : Nat) : By (xs.take n) := fun x hx => h x (List.mem_of_mem_take hx)
theorem By.drop {xs : List Int} (h : By xs) (n : Nat) : By (xs.drop n) := fun x hx => h x (List.mem_of_mem_drop hx)
theorem By.tail {x : Int} {xs : List Int} (h : By (x :: xs)) : By xs := fun y hy => h y (List.mem_cons_of_mem _ hy)
theorem By.head {x : Int} {xs : List Int} (h : By (x :: xs)) : 0 ≤ x ∧ x < 256 := h x (List.mem_cons_self ..)
theorem By.cons {x : Int} {xs : List Int} (h0 : 0 ≤ x ∧ x < 256) (h : By xs) : By (x :: xs) := fun y hy => (List.mem_cons.1 hy).elim (fun e => e ▸ h0) (h y)
theorem lt63 {m : Nat} (h : m < 9223372036854775808) : m < 128 ^ (8 + 1) := h
theorem enc_len9 {m : Nat} (h : m < 9223372036854775808) : (enc m).length ≤ 9 := enc_len 8 m (lt63 h)
abbrev St := Int × List Int
end Go.Proofs.Ytpdenhmkpiafiaa
namespace Go.Proofs.Ytpdenhmkpiafiaa
open Go Go.RowKit K6
structure Lf where
  i : Int
  t : Int
  a : Nat
  pq : Option Addr
  pc : Nat
  p : List (List Int)
instance : Inhabited Lf := ⟨⟨0, 0, 0, none, 0, []⟩⟩
def Lf.pv (x : Lf) : Value := .slice x.pq x.p.length x.pc
def lfc (x : Lf) : List Value := [.int .i64 x.i, .int .i64 x.t] ++ ((W4 x.a).toList ++ [x.pv])
def I64 (n : Int) : Prop := -9223372036854775808 ≤ n ∧ n < 9223372036854775808
def HsOk (l : List (List Int)) : Prop := ∀ y ∈ l, y.length = 32 ∧ By y
structure LfOk (w : World) (x : Lf) : Prop where
  p : Hs w x.pv x.p
  h : HsOk x.p
  a : x.a < M
  i : I64 x.i
  t : I64 x.t
theorem LfOk.below {w w' : World} {x : Lf} (h : LfOk w x) (hb : Below w.heap.size w w') : LfOk w' x := ⟨h.p.below hb, h.h, h.a, h.i, h.t⟩
def Ls (w : World) (u : Value) (l : List Lf) : Prop := Rs lfc 7 w u l ∧ ∀ x ∈ l, LfOk w x
theorem Ls.below {w w' : World} {u : Value} {l : List Lf} (h : Ls w u l) (hb : Below w.heap.size w w') : Ls w' u l := ⟨h.1.below hb, fun x hx => (h.2 x hx).below hb⟩
theorem Ls.nil (w : World) : Ls w (.slice none 0 0) [] := ⟨Rs.nil _ _ _, fun _ h => (by cases h)⟩
structure Cm where
  r : Int
  x : Int
  e : Int
  tok : List Int
  pq : Option Addr
  pc : Nat
  p : List (List Int)
  lq : Option Addr
  lc : Nat
  l : List Lf
  z : Int
def Cm.pv (c : Cm) : Value := .slice c.pq c.p.length c.pc
def Cm.lv (c : Cm) : Value := .slice c.lq c.l.length c.lc
def Cm.cs (c : Cm) : List Value := [.int .i64 c.r, .int .i64 c.x, .int .i64 c.e] ++ (bv c.tok ++ [c.pv, c.lv, .int .i64 c.z])
structure CmOk (w : World) (c : Cm) : Prop where
  tok : c.tok.length = 32
  by_ : By c.tok
  p : Hs w c.pv c.p
  h : HsOk c.p
  l : Ls w c.lv c.l
  r : I64 c.r
  x : I64 c.x
  e : I64 c.e
  z : I64 c.z
theorem CmOk.below {w w' : World} {c : Cm} (h : CmOk w c) (hb : Below w.heap.size w w') : CmOk w' c := ⟨h.tok, h.by_, h.p.below hb, h.h, h.l.below hb, h.r, h.x, h.e, h.z⟩
def cm0 : Cm := ⟨0, 0, 0, List.replicate 32 0, none, 0, [], none, 0, [], 0⟩
theorem cm0_ok (w : World) : CmOk w cm0 := by
  have z : I64 0 := ⟨by decide, by decide⟩
  exact ⟨rfl, fun x hx => by rw [(List.mem_replicate.1 hx).2]; omega, Rs.nil _ _ _, (fun _ h => (by cases h)), Ls.nil w, z, z, z, z⟩
structure Txv where
  k : Int
  f : Int
  nq : Option Addr
  nc : Nat
  n : List Int
  aq : Option Addr
  ac : Nat
  a : List Nat
  hq : Option Addr
  hc : Nat
  h : List (List Int)
  c : Cm
def Txv.nv (t : Txv) : Value := .slice t.nq t.n.length t.nc
def Txv.av (t : Txv) : Value := .slice t.aq t.a.length t.ac
def Txv.hv (t : Txv) : Value := .slice t.hq t.h.length t.hc
def Txv.cs (t : Txv) : List Value := [.int .i64 t.k, .int .i64 t.f, t.nv, t.av, t.hv] ++ t.c.cs
structure TxOk (w : World) (t : Txv) : Prop where
  k : I64 t.k
  f : I64 t.f
  n : Is w t.nv t.n
  nb : ∀ x ∈ t.n, I64 x
  a : Us w t.av t.a
  ab : ∀ x ∈ t.a, x < M
  h : Hs w t.hv t.h
  hb : HsOk t.h
  c : CmOk w t.c
theorem TxOk.below {w w' : World} {t : Txv} (h : TxOk w t) (hb : Below w.heap.size w w') : TxOk w' t := ⟨h.k, h.f, h.n.below hb, h.nb, h.a.below hb, h.ab, h.h.below hb, h.hb, h.c.below hb⟩
theorem lfc_len (x : Lf) : (lfc x).length = 7 := rfl
theorem lfc_a (x : Lf) : ∀ j v, (W4 x.a)[j]? = some v → (lfc x).toArray[2 + j]? = some v := fun j v hj => by
  have hj4 : j < 4 := (Array.getElem?_eq_some_iff.1 hj).1
  have : j = 0 ∨ j = 1 ∨ j = 2 ∨ j = 3 := by omega
  rcases this with rfl | rfl | rfl | rfl <;> exact hj
theorem Cm.len {c : Cm} (h : c.tok.length = 32) : c.cs.length = 38 := by
  unfold Cm.cs
  rw [List.length_append, List.length_append, bv_len, h]
  rfl
theorem Cm.at_ {c : Cm} (h : c.tok.length = 32) (j : Nat) : c.cs[35 + j]? = [c.pv, c.lv, .int .i64 c.z][j]? := by
  unfold Cm.cs
  rw [List.getElem?_append_right (by show 3 ≤ _; omega), List.getElem?_append_right (by rw [bv_len, h]; show 32 ≤ 35 + j - 3; omega), bv_len, h]
  congr 1
  show 35 + j - 3 - 32 = j
  omega
theorem Cm.tok_ {c : Cm} (h : c.tok.length = 32) : ∀ j v, (bv c.tok).toArray[j]? = some v → c.cs.toArray[3 + j]? = some v := fun j v hj => by
  have hj2 : (bv c.tok)[j]? = some v := by simpa using hj
  have hj32 : j < 32 := by have h9 := (List.getElem?_eq_some_iff.1 hj2).1; rw [bv_len, h] at h9; exact h9
  rw [List.getElem?_toArray]
  unfold Cm.cs
  rw [List.getElem?_append_right (by show 3 ≤ _; omega)]
  show (bv c.tok ++ [c.pv, c.lv, Value.int .i64 c.z])[3 + j - 3]? = _
  rw [show 3 + j - 3 = j by omega, List.getElem?_append_left (by rw [bv_len, h]; exact hj32)]
  exact hj2
theorem Txv.len {t : Txv} (h : t.c.tok.length = 32) : t.cs.length = 43 := by
  unfold Txv.cs
  rw [List.length_append, Cm.len h]
  rfl
theorem Txv.c_ (t : Txv) : ∀ j v, t.c.cs.toArray[j]? = some v → t.cs.toArray[5 + j]? = some v := fun j v hj => by
  have hj2 : t.c.cs[j]? = some v := by simpa using hj
  rw [List.getElem?_toArray]
  unfold Txv.cs
  rw [List.getElem?_append_right (by show 5 ≤ _; omega)]
  show t.c.cs[5 + j - 5]? = _
  rw [show 5 + j - 5 = j by omega]
  exact hj2
theorem bv_all (l : List Int) : (bv l).all (·.oneCell') = true := by
  rw [List.all_eq_true]
  intro x hx
  obtain ⟨y, -, rfl⟩ := List.mem_map.1 hx
  rfl
theorem lfc_one (x : Lf) : (lfc x).toArray.all (·.oneCell') = true := by kernel_rfl
theorem Cm.one (c : Cm) : c.cs.toArray.all (·.oneCell') = true := by
  rw [List.all_toArray]
  unfold Cm.cs
  rw [List.all_append, List.all_append, bv_all]
  rfl
theorem Txv.one (t : Txv) : t.cs.toArray.all (·.oneCell') = true := by
  rw [List.all_toArray]
  unfold Txv.cs
  rw [List.all_append]
  have h := t.c.one
  rw [List.all_toArray] at h
  rw [h]
  rfl
abbrev LfK := Int × Int × Nat × List (List Int)
instance dK1 : DecidableEq LfK := inferInstance
instance dK2 : DecidableEq (List LfK) := inferInstance
instance dK3 : DecidableEq (List (List Int)) := inferInstance
instance dK4 : DecidableEq (List (List Int) × List LfK) := inferInstance
instance dK5 : DecidableEq (Int × List (List Int) × List LfK) := inferInstance
instance dK6 : DecidableEq (List Int × Int × List (List Int) × List LfK) := inferInstance
instance dK7 : DecidableEq (Int × List Int × Int × List (List Int) × List LfK) := inferInstance
instance dK8 : DecidableEq (Int × Int × List Int × Int × List (List Int) × List LfK) := inferInstance
abbrev CmK := Int × Int × Int × List Int × Int × List (List Int) × List LfK
instance dK9 : DecidableEq CmK := inferInstance
instance dKa : DecidableEq (List (List Int) × CmK) := inferInstance
instance dKb : DecidableEq (List Nat × List (List Int) × CmK) := inferInstance
instance dKc : DecidableEq (List Int × List Nat × List (List Int) × CmK) := inferInstance
abbrev TxK := Int × Int × List Int × List Nat × List (List Int) × CmK
instance dKd : DecidableEq (Int × List Int × List Nat × List (List Int) × CmK) := inferInstance
instance dKe : DecidableEq TxK := inferInstance
def Lf.key (x : Lf) : LfK := (x.i, x.t, x.a, x.p)
def Cm.key (c : Cm) : CmK := (c.r, c.x, c.e, c.tok, c.z, c.p, c.l.map Lf.key)
def Txv.key (t : Txv) : TxK := (t.k, t.f, t.n, t.a, t.h, t.c.key)
theorem aggT198 : AggT Try.prog 198 7 := ⟨⟨_, Try.underlying198, rfl⟩, by kernel_rfl⟩
theorem aggT114 : AggT Try.prog 114 38 := ⟨⟨_, Try.underlying114, rfl⟩, by kernel_rfl⟩
theorem aggT116 : AggT Try.prog 116 43 := ⟨⟨_, Try.underlying116, rfl⟩, by kernel_rfl⟩
end Go.Proofs.Ytpdenhmkpiafiaa
namespace Go.Proofs.Ytpdenhmkpiafiaa
open Go Go.ChangeShapes Go.WideShapes Go.ChangeAt Go.RowKit K6
set_option maxRecDepth 100000 in
theorem cell_hash {H : Type} {enc : TypeId × Value → H} {W : World} {base : Nat} {spare : Nat → Bool} {held : Bool} {fuel : Nat} {cs : List Value} {y : DataW H × List MemPlace}
    (h : DataW.trod enc Try.prog W base spare held fuel 35 cs = some y) : ∃ X : List Int, cs = bv X ∧ X.length = 32 ∧ By X := by
  obtain ⟨xs, m, -, -, hl, hxl, hf⟩ := Go.DataW.trod_array Try.underlying35 h
  have hl32 : cs.length = 32 := hl.trans (by kernel_rfl)
  have key : ∀ i, i < 32 → ∃ x : Int, cs[i]? = some (.int .u8 x) ∧ 0 ≤ x ∧ x < 256 := fun i hi => by
    have h1 := hf i hi
    rw [cells5', Nat.mul_one, List.getElem?_eq_getElem (by rw [hxl]; exact hi)] at h1
    obtain ⟨x0, e0, -, w0⟩ := DataW.trod_int Try.underlying5 h1
    have hb := bounds8' w0
    refine ⟨x0, ?_, hb⟩
    have h2 := congrArg (·[0]?) e0
    simpa using h2
  obtain ⟨F, hF⟩ := Go.Deep.choose_lt (α := Int) (n := 32) (p := fun i x => cs[i]? = some (.int .u8 x) ∧ 0 ≤ x ∧ x < 256) key
  refine ⟨(List.range 32).map F, ?_, by simp, fun x hx => ?_⟩
  · refine List.ext_getElem? fun i => ?_
    rcases Nat.lt_or_ge i 32 with hi | hi
    · rw [(hF i hi).1]
      unfold bv
      rw [List.getElem?_map, List.getElem?_map, List.getElem?_range hi]
      rfl
    · rw [List.getElem?_eq_none (by omega), List.getElem?_eq_none (by rw [bv_len]; simp; exact hi)]
  · obtain ⟨i, hi, rfl⟩ := List.mem_map.1 hx
    exact (hF i (List.mem_range.1 hi)).2
set_option maxRecDepth 100000 in
theorem cell_Rs {α : Type} [Inhabited α] {H : Type} {enc : TypeId × Value → H} {W : World} {base : Nat} {spare : Nat → Bool} {held : Bool} {fuel : Nat} {cs : List Value} {y : DataW H × List MemPlace} {t e : TypeId} {z : Nat}
    (ht : Try.prog.underlying t = some (.slice e)) (hz : Try.prog.cellsOf e = z) (hz0 : 0 < z) (f : α → List Value) (p : α → Prop)
    (hel : ∀ (n : Nat) (cs : List Value) (y : DataW H × List MemPlace), cs.length = z → DataW.trod enc Try.prog W base spare held n e cs = some y → ∃ x, cs = f x ∧ p x)
    (hf : DataW.trod enc Try.prog W base spare held fuel t cs = some y) :
    ∃ (q : Option Addr) (c : Nat) (l : List α), cs = [.slice q l.length c] ∧ Rs f z W (.slice q l.length c) l ∧ (∀ x ∈ l, p x) ∧ l.length ≤ maxLen := by
  rcases Go.Deep.open_slice ht hf with ⟨hc, hx⟩ | ⟨a, n, c, m, k, D, Pl, hc, _, hle, hmax, hm, hy, hcell⟩
  · exact ⟨none, 0, [], hc, Rs.nil f z W, (fun _ h => (by cases h)), Nat.zero_le _⟩
  · have hnm : n ≤ m := by rw [hm]; split <;> omega
    rw [hz] at hcell
    obtain ⟨F, hF⟩ := Go.Deep.choose_lt (α := α) (n := m) (p := fun i x => p x ∧ (f x).length = z ∧ W.cells? base (a.add (i * z)) z = some (f x)) (fun i hi => by
      obtain ⟨cs, h1, h2⟩ := hcell i hi
      obtain ⟨_, hlen, _⟩ := World.cells?_some h1
      obtain ⟨x, e, hx⟩ := hel _ cs _ hlen h2
      exact ⟨x, hx, by rw [← e]; exact hlen, by rw [h1, e]⟩)
    have e : ((List.range n).map F).length = n := by simp
    refine ⟨some a, c, (List.range n).map F, by rw [e]; exact hc, ⟨some a, c, rfl, fun h0 => ?_⟩, fun x hx => ?_, by rw [e]; omega⟩
    · rw [e] at h0
      obtain ⟨-, hl0, h10⟩ := hF 0 (by omega)
      obtain ⟨_, -, h0c⟩ := World.cells?_some h10
      have h2 := h0c 0 hz0
      have h3 : ∃ v, W.cell? ((a.add (0 * z)).add 0) = some v := by
        rw [h2]
        exact ⟨_, List.getElem?_eq_getElem (by omega)⟩
      obtain ⟨v0, h3⟩ := h3
      have h4 := spot_noneV h3
      have hs : a.spot = none := spot_of_addV (show (a.add 0).spot = none from spot_of_addV (by simpa using h4.1))
      rw [add_plainV hs, add_plainV (a := ⟨a.block, a.off + 0 * z, none⟩) rfl] at h4
      refine ⟨a.block, a.off, ?_, h4.2, fun i x hi j v hj => ?_⟩
      · congr 1
        obtain ⟨b, o, s⟩ := a
        simp only at hs
        subst hs
        rfl
      · have hi9 := (List.getElem?_eq_some_iff.1 hi).1
        rw [e] at hi9
        rw [List.getElem?_map, List.getElem?_range hi9] at hi
        simp only [Option.map_some, Option.some.injEq] at hi
        obtain ⟨-, hl1, h1⟩ := hF i (by omega)
        rw [hi] at hl1 h1
        obtain ⟨_, -, h1c⟩ := World.cells?_some h1
        have hjz : j < z := by have := (List.getElem?_eq_some_iff.1 hj).1; omega
        have h6 := h1c j hjz
        rw [add_plainV hs, add_plainV (a := ⟨a.block, a.off + i * z, none⟩) rfl] at h6
        rw [h6, ← hj]
    · obtain ⟨i, hi, rfl⟩ := List.mem_map.1 hx
      exact (hF i (by have := List.mem_range.1 hi; omega)).1
theorem cells35V : Try.prog.cellsOf 35 = 32 := by kernel_rfl
theorem cells198V : Try.prog.cellsOf 198 = 7 := by kernel_rfl
theorem cells114V : Try.prog.cellsOf 114 = 38 := by kernel_rfl
theorem cells116V : Try.prog.cellsOf 116 = 43 := by kernel_rfl
instance : Inhabited (List Int) := ⟨[]⟩
set_option maxRecDepth 100000 in
theorem cell_H {H : Type} {enc : TypeId × Value → H} {W : World} {base : Nat} {spare : Nat → Bool} {held : Bool} {fuel : Nat} {cs : List Value} {y : DataW H × List MemPlace}
    (hf : DataW.trod enc Try.prog W base spare held fuel 111 cs = some y) :
    ∃ (q : Option Addr) (c : Nat) (l : List (List Int)), cs = [.slice q l.length c] ∧ Hs W (.slice q l.length c) l ∧ HsOk l ∧ l.length ≤ maxLen :=
  cell_Rs Try.underlying111 cells35V (by decide) bv (fun X => X.length = 32 ∧ By X) (fun _ _ _ _ h => cell_hash h) hf
set_option maxRecDepth 100000 in
theorem cell_N {H : Type} {enc : TypeId × Value → H} {W : World} {base : Nat} {spare : Nat → Bool} {held : Bool} {fuel : Nat} {cs : List Value} {y : DataW H × List MemPlace}
    (hf : DataW.trod enc Try.prog W base spare held fuel 22 cs = some y) :
    ∃ (q : Option Addr) (c : Nat) (l : List Int), cs = [.slice q l.length c] ∧ Is W (.slice q l.length c) l ∧ (∀ x ∈ l, I64 x) ∧ l.length ≤ maxLen :=
  cell_Rs Try.underlying22 cells3V (by decide) icl I64 (fun _ _ _ _ h => by
    obtain ⟨x, e, -, w⟩ := DataW.trod_int Try.underlying3 h
    exact ⟨x, e, int_lo w, int_hi w⟩) hf
theorem cut_at {α : Type} (l : List α) (a n : Nat) : l.drop a = (l.drop a).take n ++ l.drop (a + n) := by
  rw [← List.drop_drop, List.take_append_drop]
theorem cut_end {α : Type} {l : List α} {a : Nat} (h : l.length = a) : l.drop a = [] := List.drop_eq_nil_of_le (by omega)
set_option maxRecDepth 100000 in
theorem cell_leaf {H : Type} {enc : TypeId × Value → H} {W : World} {base : Nat} {spare : Nat → Bool} {held : Bool} {fuel : Nat} {cs : List Value} {y : DataW H × List MemPlace}
    (hl : cs.length = 7) (h : DataW.trod enc Try.prog W base spare held fuel 198 cs = some y) : ∃ x : Lf, cs = lfc x ∧ LfOk W x ∧ x.p.length ≤ maxLen := by
  obtain ⟨y0, y1, y2, y3, n', t0, t1, t2, t3⟩ := Go.Proofs.Ytpdenhmkpiafiaa.trod_struct4 Try.underlying198 h
  match cs, hl with
  | [c0, c1, c2, c3, c4, c5, c6], _ =>
    have t0' : DataW.trod enc Try.prog W base spare held n' 3 [c0] = some y0 := by rw [← t0]; congr 1
    have t1' : DataW.trod enc Try.prog W base spare held n' 3 [c1] = some y1 := by rw [← t1]; congr 1
    have t2' : DataW.trod enc Try.prog W base spare held n' 31 [c2, c3, c4, c5] = some y2 := by rw [← t2]; congr 1
    have t3' : DataW.trod enc Try.prog W base spare held n' 111 [c6] = some y3 := by rw [← t3]; congr 1
    obtain ⟨x0, e0, -, w0⟩ := DataW.trod_int Try.underlying3 t0'
    obtain ⟨x1, e1, -, w1⟩ := DataW.trod_int Try.underlying3 t1'
    obtain ⟨k2, e2, hk2⟩ := words_V rfl t2'
    obtain ⟨q, c, l, e3, hp, hh, hm⟩ := cell_H t3'
    simp only [List.cons.injEq, and_true] at e0 e1 e3
    refine ⟨⟨x0, x1, k2, q, c, l⟩, ?_, ⟨hp, hh, hk2, ⟨int_lo w0, int_hi w0⟩, ⟨int_lo w1, int_hi w1⟩⟩, hm⟩
    unfold lfc Lf.pv
    simp only
    rw [← e2, e0, e1, e3]
    rfl
set_option maxRecDepth 100000 in
theorem cell_Ls {H : Type} {enc : TypeId × Value → H} {W : World} {base : Nat} {spare : Nat → Bool} {held : Bool} {fuel : Nat} {cs : List Value} {y : DataW H × List MemPlace}
    (hf : DataW.trod enc Try.prog W base spare held fuel 112 cs = some y) :
    ∃ (q : Option Addr) (c : Nat) (l : List Lf), cs = [.slice q l.length c] ∧ Ls W (.slice q l.length c) l ∧ (∀ x ∈ l, x.p.length ≤ maxLen) ∧ l.length ≤ maxLen := by
  obtain ⟨q, c, l, h1, h2, h3, h4⟩ := cell_Rs Try.underlying112 cells198V (by decide) lfc (fun x => LfOk W x ∧ x.p.length ≤ maxLen) (fun _ _ _ hl h => cell_leaf hl h) hf
  exact ⟨q, c, l, h1, ⟨h2, fun x hx => (h3 x hx).1⟩, fun x hx => (h3 x hx).2, h4⟩
structure CmLen (c : Cm) : Prop where
  p : c.p.length ≤ maxLen
  l : c.l.length ≤ maxLen
  q : ∀ x ∈ c.l, x.p.length ≤ maxLen
set_option maxRecDepth 100000 in
theorem cell_claim {H : Type} {enc : TypeId × Value → H} {W : World} {base : Nat} {spare : Nat → Bool} {held : Bool} {fuel : Nat} {cs : List Value} {y : DataW H × List MemPlace}
    (h : DataW.trod enc Try.prog W base spare held fuel 114 cs = some y) : ∃ c : Cm, cs = c.cs ∧ CmOk W c ∧ CmLen c := by
  obtain ⟨xs, n, -, -, hl, hxl, hf⟩ := DataW.trod_struct Try.underlying114 h
  rw [cells114V] at hl
  have hx7 : xs.length = 7 := hxl
  have g : ∀ i, i < 7 → ∃ y, xs[i]? = some y := fun i hi => ⟨_, List.getElem?_eq_getElem (by omega)⟩
  obtain ⟨y0, g0⟩ := g 0 (by decide)
  obtain ⟨y1, g1⟩ := g 1 (by decide)
  obtain ⟨y2, g2⟩ := g 2 (by decide)
  obtain ⟨y3, g3⟩ := g 3 (by decide)
  obtain ⟨y4, g4⟩ := g 4 (by decide)
  obtain ⟨y5, g5⟩ := g 5 (by decide)
  obtain ⟨y6, g6⟩ := g 6 (by decide)
  have t0 : DataW.trod enc Try.prog W base spare held n 3 ((cs.drop 0).take 1) = some y0 := (hf 0 _ rfl).trans g0
  have t1 : DataW.trod enc Try.prog W base spare held n 3 ((cs.drop 1).take 1) = some y1 := (hf 1 _ rfl).trans g1
  have t2 : DataW.trod enc Try.prog W base spare held n 3 ((cs.drop 2).take 1) = some y2 := (hf 2 _ rfl).trans g2
  have t3 : DataW.trod enc Try.prog W base spare held n 35 ((cs.drop 3).take 32) = some y3 := (hf 3 _ rfl).trans g3
  have t4 : DataW.trod enc Try.prog W base spare held n 111 ((cs.drop 35).take 1) = some y4 := (hf 4 _ rfl).trans g4
  have t5 : DataW.trod enc Try.prog W base spare held n 112 ((cs.drop 36).take 1) = some y5 := (hf 5 _ rfl).trans g5
  have t6 : DataW.trod enc Try.prog W base spare held n 3 ((cs.drop 37).take 1) = some y6 := (hf 6 _ rfl).trans g6
  obtain ⟨x0, e0, -, w0⟩ := DataW.trod_int Try.underlying3 t0
  obtain ⟨x1, e1, -, w1⟩ := DataW.trod_int Try.underlying3 t1
  obtain ⟨x2, e2, -, w2⟩ := DataW.trod_int Try.underlying3 t2
  obtain ⟨X, e3, hX, hby⟩ := cell_hash t3
  obtain ⟨pq, pc, p, e4, hp, hh, hpm⟩ := cell_H t4
  obtain ⟨lq, lc, l, e5, hls, hlq, hlm⟩ := cell_Ls t5
  obtain ⟨x6, e6, -, w6⟩ := DataW.trod_int Try.underlying3 t6
  refine ⟨⟨x0, x1, x2, X, pq, pc, p, lq, lc, l, x6⟩, ?_, ⟨hX, hby, hp, hh, hls, ⟨int_lo w0, int_hi w0⟩, ⟨int_lo w1, int_hi w1⟩, ⟨int_lo w2, int_hi w2⟩, ⟨int_lo w6, int_hi w6⟩⟩, ⟨hpm, hlm, hlq⟩⟩
  have e : cs = cs.drop 0 := rfl
  rw [e, cut_at cs 0 1, cut_at cs 1 1, cut_at cs 2 1, cut_at cs 3 32, cut_at cs 35 1, cut_at cs 36 1, cut_at cs 37 1, cut_end hl, e0, e1, e2, e3, e4, e5, e6]
  rfl
structure TxLen (t : Txv) : Prop where
  n : t.n.length ≤ maxLen
  a : t.a.length ≤ maxLen
  h : t.h.length ≤ maxLen
  c : CmLen t.c
set_option maxRecDepth 100000 in
theorem open_Tx {H : Type} {enc : TypeId × Value → H} {W : World} {base b0 : Nat} {r : Reach} {spare : Nat → Bool} {held : Bool} {v : Value} {d : DataW H} {p : List MemPlace}
    (hval : Value.okWide Try.prog W r b0 116 v) (h : DataW.Trod enc Try.prog W base spare held 116 v d p) : ∃ t : Txv, v = .agg t.cs.toArray ∧ TxOk W t ∧ TxLen t := by
  obtain ⟨ca, rfl, hsz⟩ := okWide_struct Try.underlying116 hval
  obtain ⟨fuel, hf0⟩ := h
  obtain ⟨cs, hcs⟩ : ∃ cs, ca.toList = cs := ⟨_, rfl⟩
  have hf1 : DataW.trod enc Try.prog W base spare held fuel 116 cs = some (d, p) := by rw [← hcs]; exact hf0
  obtain ⟨xs, n, -, -, hl, hxl, hf⟩ := DataW.trod_struct Try.underlying116 hf1
  rw [cells116V] at hl
  have hx6 : xs.length = 6 := hxl
  have g : ∀ i, i < 6 → ∃ y, xs[i]? = some y := fun i hi => ⟨_, List.getElem?_eq_getElem (by omega)⟩
  obtain ⟨y0, g0⟩ := g 0 (by decide)
  obtain ⟨y1, g1⟩ := g 1 (by decide)
  obtain ⟨y2, g2⟩ := g 2 (by decide)
  obtain ⟨y3, g3⟩ := g 3 (by decide)
  obtain ⟨y4, g4⟩ := g 4 (by decide)
  obtain ⟨y5, g5⟩ := g 5 (by decide)
  have t0 : DataW.trod enc Try.prog W base spare held n 3 ((cs.drop 0).take 1) = some y0 := (hf 0 _ rfl).trans g0
  have t1 : DataW.trod enc Try.prog W base spare held n 3 ((cs.drop 1).take 1) = some y1 := (hf 1 _ rfl).trans g1
  have t2 : DataW.trod enc Try.prog W base spare held n 22 ((cs.drop 2).take 1) = some y2 := (hf 2 _ rfl).trans g2
  have t3 : DataW.trod enc Try.prog W base spare held n 23 ((cs.drop 3).take 1) = some y3 := (hf 3 _ rfl).trans g3
  have t4 : DataW.trod enc Try.prog W base spare held n 111 ((cs.drop 4).take 1) = some y4 := (hf 4 _ rfl).trans g4
  have t5 : DataW.trod enc Try.prog W base spare held n 114 ((cs.drop 5).take 38) = some y5 := (hf 5 _ rfl).trans g5
  obtain ⟨x0, e0, -, w0⟩ := DataW.trod_int Try.underlying3 t0
  obtain ⟨x1, e1, -, w1⟩ := DataW.trod_int Try.underlying3 t1
  obtain ⟨nq, nc, nl, e2, hn, hnb, hnm⟩ := cell_N t2
  obtain ⟨aq, ac, al, e3, ha, hab, -⟩ := cell_U t3
  have ham : al.length ≤ maxLen := by
    rcases Go.Deep.open_slice Try.underlying23 t3 with ⟨hc, -⟩ | ⟨a, m, c, -, -, -, -, hc, -, hle, hmax, -⟩
    · rw [e3] at hc; simp only [List.cons.injEq, Value.slice.injEq, and_true] at hc; rw [hc.2.1]; exact Nat.zero_le _
    · rw [e3] at hc; simp only [List.cons.injEq, Value.slice.injEq, and_true] at hc; rw [hc.2.1]; omega
  obtain ⟨hq, hc', hl', e4, hh, hhb, hhm⟩ := cell_H t4
  obtain ⟨c, e5, hc, hcl⟩ := cell_claim t5
  refine ⟨⟨x0, x1, nq, nc, nl, aq, ac, al, hq, hc', hl', c⟩, ?_, ⟨⟨int_lo w0, int_hi w0⟩, ⟨int_lo w1, int_hi w1⟩, hn, hnb, ha, hab, hh, hhb, hc⟩, ⟨hnm, ham, hhm, hcl⟩⟩
  have e : cs = cs.drop 0 := rfl
  have e9 : cs = (⟨x0, x1, nq, nc, nl, aq, ac, al, hq, hc', hl', c⟩ : Txv).cs := by
    rw [e, cut_at cs 0 1, cut_at cs 1 1, cut_at cs 2 1, cut_at cs 3 1, cut_at cs 4 1, cut_at cs 5 38, cut_end hl, e0, e1, e2, e3, e4, e5, List.append_nil]
    rfl
  rw [← e9, ← hcs]
end Go.Proofs.Ytpdenhmkpiafiaa
namespace Go.Proofs.Ytpdenhmkpiafiaa
open Go Go.RowKit K6
theorem lA0 (x : Lf) : (lfc x).toArray[0]? = some (.int .i64 x.i) := rfl
theorem lA1 (x : Lf) : (lfc x).toArray[1]? = some (.int .i64 x.t) := rfl
theorem lA6 (x : Lf) : (lfc x).toArray[6]? = some (.slice x.pq x.p.length x.pc) := rfl
theorem cA0 (c : Cm) : c.cs.toArray[0]? = some (.int .i64 c.r) := rfl
theorem cA1 (c : Cm) : c.cs.toArray[1]? = some (.int .i64 c.x) := rfl
theorem cA2 (c : Cm) : c.cs.toArray[2]? = some (.int .i64 c.e) := rfl
theorem cA35 {c : Cm} (h : c.tok.length = 32) : c.cs.toArray[35]? = some (.slice c.pq c.p.length c.pc) := by rw [List.getElem?_toArray]; exact Cm.at_ h 0
theorem cA36 {c : Cm} (h : c.tok.length = 32) : c.cs.toArray[36]? = some (.slice c.lq c.l.length c.lc) := by rw [List.getElem?_toArray]; exact Cm.at_ h 1
theorem cA37 {c : Cm} (h : c.tok.length = 32) : c.cs.toArray[37]? = some (.int .i64 c.z) := by rw [List.getElem?_toArray]; exact Cm.at_ h 2
set_option maxRecDepth 100000 in
set_option maxHeartbeats 16000000 in
theorem sameLeaf_at (x y : Lf) (w : World) (hx : LfOk w x) (hy : LfOk w y) (hL : x.p.length ≤ 140737488355328) :
    Calls Try.prog 241 #[.agg (lfc x).toArray, .agg (lfc y).toArray] w fun r w' => r = .returned (.bool (decide (x.key = y.key))) ∧ Below w.heap.size w w' := by
  obtain ⟨b, hb⟩ : ∃ b, decide (x.key = y.key) = b := ⟨_, rfl⟩
  rw [hb]
  have kH := Lib.hid fun wx (hbw : Below w.heap.size w wx) => hsEq_at x.pv y.pv x.p y.p wx (hx.p.below hbw) (hy.p.below hbw) (fun z hz => (hx.h z hz).1) (fun z hz => (hy.h z hz).1) hL
  have hxa := hx.a
  have hya := hy.a
  have q1 : ∀ wx, (Op.equalIn 10000 31 (.agg (W4 x.a)) (.agg (W4 y.a))).run Try.prog wx = .ok (decide (x.a = y.a)) wx := fun wx => eqU hxa hya wx
  clear hx hy hL hxa hya
  go_enter Try.func241, Try.ntmps241
  go_upto_region 1 with (fail)
  refine wp_abs (Mem w [(w.heap.size, 198, (lfc x).toArray), (w.heap.size + 1, 198, (lfc y).toArray)]) ⟨by go_grown, by (repeat (first | (refine Row.new_at ?_; simp; done) | refine Row.alloc ?_ _)), by (repeat (first | (refine Row.new_at ?_; simp; done) | refine Row.alloc ?_ _)), trivial⟩ ?_
  intro w0 hM
  obtain ⟨hl, r2, r3, -⟩ := hM
  by_cases e1 : x.i = y.i
  · have h1 : (x.i == y.i) = true := by rw [beq_iff_eq]; exact e1
    by_cases e2 : x.t = y.t
    · have h2 : (x.t == y.t) = true := by rw [beq_iff_eq]; exact e2
      by_cases e3 : x.a = y.a
      · have hbb : decide (x.p = y.p) = b := by
          rw [← hb]
          unfold Lf.key
          simp [e1, e2, e3]
        have q2 : ∀ wx, (Op.equalIn 10000 31 (.agg (W4 x.a)) (.agg (W4 y.a))).run Try.prog wx = .ok true wx := fun wx => by rw [q1, decide_eq_true e3]
        clear q1
        rw [hbb] at kH
        have HB := Lib.hid (show _ ∧ _ from ⟨e1, e3⟩)
        clear hb hbb e1 e2 e3
        simp only [Lf.pv] at kH
        let L : List Sp := [sV 24 [] [] (fun u => u = .bool b)]
        refine wp_region_six0 (shs L) (look6 L) (None_) (by kernel_rfl) (by kernel_rfl) (mk_St L [] [] (by kernel_rfl) (by kernel_rfl) ⟨ok_V ⟨_, rfl⟩, trivial⟩ (by simp)) ?_
        intro QQ hQ
        refine stepK rfl (by kernel_rfl) (fun K hK => ?_); go_simp
        apply Exists.intro; apply And.intro; (focus (intro wk hk; go_simp; exact ⟨rfl, rfl⟩)); refine hK _ _ ?_; clear hK K
        refine stepK rfl (by kernel_rfl) (fun K hK => ?_); go_simp
        apply Exists.intro; apply And.intro; (focus (intro wk hk; have cc : wk.cell? ⟨w.heap.size, 0, none⟩ = some (.int .i64 x.i) := ((K6.Row.tr r2 hk id).cell 0).trans (lA0 x); go_simp; exact ⟨rfl, rfl⟩)); refine hK _ _ ?_; clear hK K
        refine stepK rfl (by kernel_rfl) (fun K hK => ?_); go_simp
        apply Exists.intro; apply And.intro; (focus (intro wk hk; go_simp; exact ⟨rfl, rfl⟩)); refine hK _ _ ?_; clear hK K
        refine stepK rfl (by kernel_rfl) (fun K hK => ?_); go_simp
        apply Exists.intro; apply And.intro; (focus (intro wk hk; have cc : wk.cell? ⟨w.heap.size + 1, 0, none⟩ = some (.int .i64 y.i) := ((K6.Row.tr r3 hk id).cell 0).trans (lA0 y); go_simp; exact ⟨rfl, rfl⟩)); refine hK _ _ ?_; clear hK K
        refine stepK rfl (by kernel_rfl) (fun K hK => ?_); go_simp
        apply Exists.intro; apply And.intro; (focus (intro wk hk; go_simp; exact ⟨rfl, rfl⟩)); refine hK _ _ ?_; clear hK K
        refine stepK rfl (by kernel_rfl) (fun K hK => ?_); go_simp
        apply Exists.intro; apply And.intro; (focus (intro wk hk; go_simp; exact ⟨rfl, rfl⟩)); refine hK _ _ ?_; clear hK K
        refine stepK rfl (by kernel_rfl) (fun K hK => ?_); go_simp
        first | (refine hK _ _ ?_; clear hK K) | (apply Exists.intro; apply And.intro; (focus (intro wk hk; go_simp; exact ⟨rfl, rfl⟩)); refine hK _ _ ?_; clear hK K)
        refine stepK rfl (by kernel_rfl) (fun K hK => ?_); go_simp
        first | (refine hK _ _ ?_; clear hK K) | (apply Exists.intro; apply And.intro; (focus (intro wk hk; have cc : wk.cell? ⟨w.heap.size, 1, none⟩ = some (.int .i64 x.t) := ((K6.Row.tr r2 hk id).cell 1).trans (lA1 x); go_simp; exact ⟨rfl, rfl⟩)); refine hK _ _ ?_; clear hK K)
        refine stepK rfl (by kernel_rfl) (fun K hK => ?_); go_simp
        first | (refine hK _ _ ?_; clear hK K) | (apply Exists.intro; apply And.intro; (focus (intro wk hk; go_simp; exact ⟨rfl, rfl⟩)); refine hK _ _ ?_; clear hK K)
        refine stepK rfl (by kernel_rfl) (fun K hK => ?_); go_simp
        first | (refine hK _ _ ?_; clear hK K) | (apply Exists.intro; apply And.intro; (focus (intro wk hk; have cc : wk.cell? ⟨w.heap.size + 1, 1, none⟩ = some (.int .i64 y.t) := ((K6.Row.tr r3 hk id).cell 1).trans (lA1 y); go_simp; exact ⟨rfl, rfl⟩)); refine hK _ _ ?_; clear hK K)
        refine stepK rfl (by kernel_rfl) (fun K hK => ?_); go_simp
        first | (refine hK _ _ ?_; clear hK K) | (apply Exists.intro; apply And.intro; (focus (intro wk hk; go_simp; exact ⟨rfl, rfl⟩)); refine hK _ _ ?_; clear hK K)
        refine stepK rfl (by kernel_rfl) (fun K hK => ?_); go_simp
        apply Exists.intro; apply And.intro; (focus (intro wk hk; go_simp; exact ⟨rfl, rfl⟩)); refine hK _ _ ?_; clear hK K
        refine stepK rfl (by kernel_rfl) (fun K hK => ?_); go_simp
        apply Exists.intro; apply And.intro; (focus (intro wk hk; go_simp; exact ⟨rfl, rfl⟩)); refine hK _ _ ?_; clear hK K
        refine stepK rfl (by kernel_rfl) (fun K hK => ?_); go_simp
        first | (refine hK _ _ ?_; clear hK K) | (apply Exists.intro; apply And.intro; (focus (intro wk hk; go_simp; exact ⟨rfl, rfl⟩)); refine hK _ _ ?_; clear hK K)
        refine stepK rfl (by kernel_rfl) (fun K hK => ?_); go_simp
        first | (refine hK _ _ ?_; clear hK K) | (apply Exists.intro; apply And.intro; (focus exact kLoadMid rfl rfl aggT31 r2 (lfc_a x) (W4_size x.a) id); refine hK _ _ ?_; clear hK K)
        refine stepK rfl (by kernel_rfl) (fun K hK => ?_); go_simp
        first | (refine hK _ _ ?_; clear hK K) | (apply Exists.intro; apply And.intro; (focus (intro wk hk; go_simp; exact ⟨rfl, rfl⟩)); refine hK _ _ ?_; clear hK K)
        refine stepK rfl (by kernel_rfl) (fun K hK => ?_); go_simp
        first | (refine hK _ _ ?_; clear hK K) | (apply Exists.intro; apply And.intro; (focus exact kLoadMid rfl rfl aggT31 r3 (lfc_a y) (W4_size y.a) id); refine hK _ _ ?_; clear hK K)
        refine stepK rfl (by kernel_rfl) (fun K hK => ?_); go_simp
        first | (refine hK _ _ ?_; clear hK K) | (apply Exists.intro; apply And.intro; (focus (intro wk hk; go_simp; exact ⟨rfl, rfl⟩)); refine hK _ _ ?_; clear hK K)
        refine stepK rfl (by kernel_rfl) (fun K hK => ?_); go_simp
        apply Exists.intro; apply And.intro; (focus (intro wk hk; go_simp; exact ⟨rfl, rfl⟩)); refine hK _ _ ?_; clear hK K
        refine stepK rfl (by kernel_rfl) (fun K hK => ?_); go_simp
        apply Exists.intro; apply And.intro; (focus (intro wk hk; go_simp; exact ⟨rfl, rfl⟩)); refine hK _ _ ?_; clear hK K
        refine stepK rfl (by kernel_rfl) (fun K hK => ?_); go_simp
        first | (refine hK _ _ ?_; clear hK K) | (apply Exists.intro; apply And.intro; (focus (intro wk hk; go_simp; exact ⟨rfl, rfl⟩)); refine hK _ _ ?_; clear hK K)
        refine stepK rfl (by kernel_rfl) (fun K hK => ?_); go_simp
        first | (refine hK _ _ ?_; clear hK K) | (apply Exists.intro; apply And.intro; (focus (intro wk hk; have cc : wk.cell? ⟨w.heap.size, 6, none⟩ = some (.slice x.pq x.p.length x.pc) := ((K6.Row.tr r2 hk id).cell 6).trans (lA6 x); go_simp; exact ⟨rfl, rfl⟩)); refine hK _ _ ?_; clear hK K)
        refine stepK rfl (by kernel_rfl) (fun K hK => ?_); go_simp
        first | (refine hK _ _ ?_; clear hK K) | (apply Exists.intro; apply And.intro; (focus (intro wk hk; go_simp; exact ⟨rfl, rfl⟩)); refine hK _ _ ?_; clear hK K)
        refine stepK rfl (by kernel_rfl) (fun K hK => ?_); go_simp
        first | (refine hK _ _ ?_; clear hK K) | (apply Exists.intro; apply And.intro; (focus (intro wk hk; have cc : wk.cell? ⟨w.heap.size + 1, 6, none⟩ = some (.slice y.pq y.p.length y.pc) := ((K6.Row.tr r3 hk id).cell 6).trans (lA6 y); go_simp; exact ⟨rfl, rfl⟩)); refine hK _ _ ?_; clear hK K)
        refine stepS _ rfl (by kernel_rfl) (fun K hK => ?_); go_simp
        refine ⟨?_, ?_⟩
        · intro wk hk hg hu; go_simp; refine upon_enter ((kH.out _ (hl.trans (hk.below.mono hl.size))).mono ?_); rintro e w' ⟨rfl, hb⟩; exact ⟨_, rfl, left_V (p := fun u => u = .bool b) rfl (hb) rfl⟩
        rintro ⟨v24, lo24, hi24⟩ - - (rfl : v24 = _)
        refine hK _ _ ?_; clear hK K
        refine stepK rfl (by kernel_rfl) (fun K hK => ?_); go_simp
        apply Exists.intro; apply And.intro; (focus (intro wk hk; go_simp; exact ⟨rfl, rfl⟩)); refine hK _ _ ?_; clear hK K
        refine stepK rfl (by kernel_rfl) (fun K hK => ?_); go_simp
        apply Exists.intro; apply And.intro; (focus (intro wk hk; go_simp; exact ⟨rfl, rfl⟩)); refine hK _ _ ?_; clear hK K
        refine stepN ?_
        refine hQ _ _ ?_
        intro w9 hT hG hF
        have H9 := Lib.hid (hl.trans (hT.below.mono hl.size))
        clear hT hG hF hQ QQ L hl r2 r3
        go_wp2_with fail
        go_ret
        exact ⟨rfl, H9.out⟩
      · have hbb : b = false := by rw [← hb]; exact decide_eq_false (fun h => e3 (by unfold Lf.key at h; simp only [Prod.mk.injEq] at h; exact h.2.2.1))
        subst hbb
        have q2 : ∀ wx, (Op.equalIn 10000 31 (.agg (W4 x.a)) (.agg (W4 y.a))).run Try.prog wx = .ok false wx := fun wx => by rw [q1, decide_eq_false e3]
        clear q1 hb e1 e2 e3 kH
        let L : List Sp := []
        refine wp_region_six0 (shs L) (look6 L) (None_) (by kernel_rfl) (by kernel_rfl) (mk_St L [] [] (by kernel_rfl) (by kernel_rfl) trivial (by simp)) ?_
        intro QQ hQ
        refine stepK rfl (by kernel_rfl) (fun K hK => ?_); go_simp
        apply Exists.intro; apply And.intro; (focus (intro wk hk; go_simp; exact ⟨rfl, rfl⟩)); refine hK _ _ ?_; clear hK K
        refine stepK rfl (by kernel_rfl) (fun K hK => ?_); go_simp
        apply Exists.intro; apply And.intro; (focus (intro wk hk; have cc : wk.cell? ⟨w.heap.size, 0, none⟩ = some (.int .i64 x.i) := ((K6.Row.tr r2 hk id).cell 0).trans (lA0 x); go_simp; exact ⟨rfl, rfl⟩)); refine hK _ _ ?_; clear hK K
        refine stepK rfl (by kernel_rfl) (fun K hK => ?_); go_simp
        apply Exists.intro; apply And.intro; (focus (intro wk hk; go_simp; exact ⟨rfl, rfl⟩)); refine hK _ _ ?_; clear hK K
        refine stepK rfl (by kernel_rfl) (fun K hK => ?_); go_simp
        apply Exists.intro; apply And.intro; (focus (intro wk hk; have cc : wk.cell? ⟨w.heap.size + 1, 0, none⟩ = some (.int .i64 y.i) := ((K6.Row.tr r3 hk id).cell 0).trans (lA0 y); go_simp; exact ⟨rfl, rfl⟩)); refine hK _ _ ?_; clear hK K
        refine stepK rfl (by kernel_rfl) (fun K hK => ?_); go_simp
        apply Exists.intro; apply And.intro; (focus (intro wk hk; go_simp; exact ⟨rfl, rfl⟩)); refine hK _ _ ?_; clear hK K
        refine stepK rfl (by kernel_rfl) (fun K hK => ?_); go_simp
        apply Exists.intro; apply And.intro; (focus (intro wk hk; go_simp; exact ⟨rfl, rfl⟩)); refine hK _ _ ?_; clear hK K
        refine stepK rfl (by kernel_rfl) (fun K hK => ?_); go_simp
        first | (refine hK _ _ ?_; clear hK K) | (apply Exists.intro; apply And.intro; (focus (intro wk hk; go_simp; exact ⟨rfl, rfl⟩)); refine hK _ _ ?_; clear hK K)
        refine stepK rfl (by kernel_rfl) (fun K hK => ?_); go_simp
        first | (refine hK _ _ ?_; clear hK K) | (apply Exists.intro; apply And.intro; (focus (intro wk hk; have cc : wk.cell? ⟨w.heap.size, 1, none⟩ = some (.int .i64 x.t) := ((K6.Row.tr r2 hk id).cell 1).trans (lA1 x); go_simp; exact ⟨rfl, rfl⟩)); refine hK _ _ ?_; clear hK K)
        refine stepK rfl (by kernel_rfl) (fun K hK => ?_); go_simp
        first | (refine hK _ _ ?_; clear hK K) | (apply Exists.intro; apply And.intro; (focus (intro wk hk; go_simp; exact ⟨rfl, rfl⟩)); refine hK _ _ ?_; clear hK K)
        refine stepK rfl (by kernel_rfl) (fun K hK => ?_); go_simp
        first | (refine hK _ _ ?_; clear hK K) | (apply Exists.intro; apply And.intro; (focus (intro wk hk; have cc : wk.cell? ⟨w.heap.size + 1, 1, none⟩ = some (.int .i64 y.t) := ((K6.Row.tr r3 hk id).cell 1).trans (lA1 y); go_simp; exact ⟨rfl, rfl⟩)); refine hK _ _ ?_; clear hK K)
        refine stepK rfl (by kernel_rfl) (fun K hK => ?_); go_simp
        first | (refine hK _ _ ?_; clear hK K) | (apply Exists.intro; apply And.intro; (focus (intro wk hk; go_simp; exact ⟨rfl, rfl⟩)); refine hK _ _ ?_; clear hK K)
        refine stepK rfl (by kernel_rfl) (fun K hK => ?_); go_simp
        apply Exists.intro; apply And.intro; (focus (intro wk hk; go_simp; exact ⟨rfl, rfl⟩)); refine hK _ _ ?_; clear hK K
        refine stepK rfl (by kernel_rfl) (fun K hK => ?_); go_simp
        apply Exists.intro; apply And.intro; (focus (intro wk hk; go_simp; exact ⟨rfl, rfl⟩)); refine hK _ _ ?_; clear hK K
        refine stepK rfl (by kernel_rfl) (fun K hK => ?_); go_simp
        first | (refine hK _ _ ?_; clear hK K) | (apply Exists.intro; apply And.intro; (focus (intro wk hk; go_simp; exact ⟨rfl, rfl⟩)); refine hK _ _ ?_; clear hK K)
        refine stepK rfl (by kernel_rfl) (fun K hK => ?_); go_simp
        first | (refine hK _ _ ?_; clear hK K) | (apply Exists.intro; apply And.intro; (focus exact kLoadMid rfl rfl aggT31 r2 (lfc_a x) (W4_size x.a) id); refine hK _ _ ?_; clear hK K)
        refine stepK rfl (by kernel_rfl) (fun K hK => ?_); go_simp
        first | (refine hK _ _ ?_; clear hK K) | (apply Exists.intro; apply And.intro; (focus (intro wk hk; go_simp; exact ⟨rfl, rfl⟩)); refine hK _ _ ?_; clear hK K)
        refine stepK rfl (by kernel_rfl) (fun K hK => ?_); go_simp
        first | (refine hK _ _ ?_; clear hK K) | (apply Exists.intro; apply And.intro; (focus exact kLoadMid rfl rfl aggT31 r3 (lfc_a y) (W4_size y.a) id); refine hK _ _ ?_; clear hK K)
        refine stepK rfl (by kernel_rfl) (fun K hK => ?_); go_simp
        first | (refine hK _ _ ?_; clear hK K) | (apply Exists.intro; apply And.intro; (focus (intro wk hk; go_simp; exact ⟨rfl, rfl⟩)); refine hK _ _ ?_; clear hK K)
        refine stepK rfl (by kernel_rfl) (fun K hK => ?_); go_simp
        apply Exists.intro; apply And.intro; (focus (intro wk hk; go_simp; exact ⟨rfl, rfl⟩)); refine hK _ _ ?_; clear hK K
        refine stepK rfl (by kernel_rfl) (fun K hK => ?_); go_simp
        apply Exists.intro; apply And.intro; (focus (intro wk hk; go_simp; exact ⟨rfl, rfl⟩)); refine hK _ _ ?_; clear hK K
        refine stepK rfl (by kernel_rfl) (fun K hK => ?_); go_simp
        first | (refine hK _ _ ?_; clear hK K) | (apply Exists.intro; apply And.intro; (focus (intro wk hk; go_simp; exact ⟨rfl, rfl⟩)); refine hK _ _ ?_; clear hK K)
        refine stepK rfl (by kernel_rfl) (fun K hK => ?_); go_simp
        first | (refine hK _ _ ?_; clear hK K) | (apply Exists.intro; apply And.intro; (focus (intro wk hk; go_simp; exact ⟨rfl, rfl⟩)); refine hK _ _ ?_; clear hK K)
        refine stepK rfl (by kernel_rfl) (fun K hK => ?_); go_simp
        first | (refine hK _ _ ?_; clear hK K) | (apply Exists.intro; apply And.intro; (focus (intro wk hk; go_simp; exact ⟨rfl, rfl⟩)); refine hK _ _ ?_; clear hK K)
        refine stepK rfl (by kernel_rfl) (fun K hK => ?_); go_simp
        first | (refine hK _ _ ?_; clear hK K) | (apply Exists.intro; apply And.intro; (focus (intro wk hk; go_simp; exact ⟨rfl, rfl⟩)); refine hK _ _ ?_; clear hK K)
        refine stepK rfl (by kernel_rfl) (fun K hK => ?_); go_simp
        first | (refine hK _ _ ?_; clear hK K) | (apply Exists.intro; apply And.intro; (focus (intro wk hk; go_simp; exact ⟨rfl, rfl⟩)); refine hK _ _ ?_; clear hK K)
        refine stepK rfl (by kernel_rfl) (fun K hK => ?_); go_simp
        apply Exists.intro; apply And.intro; (focus (intro wk hk; go_simp; exact ⟨rfl, rfl⟩)); refine hK _ _ ?_; clear hK K
        refine stepK rfl (by kernel_rfl) (fun K hK => ?_); go_simp
        apply Exists.intro; apply And.intro; (focus (intro wk hk; go_simp; exact ⟨rfl, rfl⟩)); refine hK _ _ ?_; clear hK K
        refine stepN ?_
        refine hQ _ _ ?_
        intro w9 hT hG hF
        have H9 := Lib.hid (hl.trans (hT.below.mono hl.size))
        clear hT hG hF hQ QQ L hl r2 r3
        go_wp2_with fail
        go_ret
        exact ⟨rfl, H9.out⟩
    · have h2 : (x.t == y.t) = false := by rw [beq_eq_false_iff_ne]; exact e2
      have hbb : b = false := by rw [← hb]; exact decide_eq_false (fun h => e2 (by unfold Lf.key at h; simp only [Prod.mk.injEq] at h; exact h.2.1))
      subst hbb
      clear q1 hb e1 e2 kH
      let L : List Sp := []
      refine wp_region_six0 (shs L) (look6 L) (None_) (by kernel_rfl) (by kernel_rfl) (mk_St L [] [] (by kernel_rfl) (by kernel_rfl) trivial (by simp)) ?_
      intro QQ hQ
      refine stepK rfl (by kernel_rfl) (fun K hK => ?_); go_simp
      apply Exists.intro; apply And.intro; (focus (intro wk hk; go_simp; exact ⟨rfl, rfl⟩)); refine hK _ _ ?_; clear hK K
      refine stepK rfl (by kernel_rfl) (fun K hK => ?_); go_simp
      apply Exists.intro; apply And.intro; (focus (intro wk hk; have cc : wk.cell? ⟨w.heap.size, 0, none⟩ = some (.int .i64 x.i) := ((K6.Row.tr r2 hk id).cell 0).trans (lA0 x); go_simp; exact ⟨rfl, rfl⟩)); refine hK _ _ ?_; clear hK K
      refine stepK rfl (by kernel_rfl) (fun K hK => ?_); go_simp
      apply Exists.intro; apply And.intro; (focus (intro wk hk; go_simp; exact ⟨rfl, rfl⟩)); refine hK _ _ ?_; clear hK K
      refine stepK rfl (by kernel_rfl) (fun K hK => ?_); go_simp
      apply Exists.intro; apply And.intro; (focus (intro wk hk; have cc : wk.cell? ⟨w.heap.size + 1, 0, none⟩ = some (.int .i64 y.i) := ((K6.Row.tr r3 hk id).cell 0).trans (lA0 y); go_simp; exact ⟨rfl, rfl⟩)); refine hK _ _ ?_; clear hK K
      refine stepK rfl (by kernel_rfl) (fun K hK => ?_); go_simp
      apply Exists.intro; apply And.intro; (focus (intro wk hk; go_simp; exact ⟨rfl, rfl⟩)); refine hK _ _ ?_; clear hK K
      refine stepK rfl (by kernel_rfl) (fun K hK => ?_); go_simp
      apply Exists.intro; apply And.intro; (focus (intro wk hk; go_simp; exact ⟨rfl, rfl⟩)); refine hK _ _ ?_; clear hK K
      refine stepK rfl (by kernel_rfl) (fun K hK => ?_); go_simp
      first | (refine hK _ _ ?_; clear hK K) | (apply Exists.intro; apply And.intro; (focus (intro wk hk; go_simp; exact ⟨rfl, rfl⟩)); refine hK _ _ ?_; clear hK K)
      refine stepK rfl (by kernel_rfl) (fun K hK => ?_); go_simp
      first | (refine hK _ _ ?_; clear hK K) | (apply Exists.intro; apply And.intro; (focus (intro wk hk; have cc : wk.cell? ⟨w.heap.size, 1, none⟩ = some (.int .i64 x.t) := ((K6.Row.tr r2 hk id).cell 1).trans (lA1 x); go_simp; exact ⟨rfl, rfl⟩)); refine hK _ _ ?_; clear hK K)
      refine stepK rfl (by kernel_rfl) (fun K hK => ?_); go_simp
      first | (refine hK _ _ ?_; clear hK K) | (apply Exists.intro; apply And.intro; (focus (intro wk hk; go_simp; exact ⟨rfl, rfl⟩)); refine hK _ _ ?_; clear hK K)
      refine stepK rfl (by kernel_rfl) (fun K hK => ?_); go_simp
      first | (refine hK _ _ ?_; clear hK K) | (apply Exists.intro; apply And.intro; (focus (intro wk hk; have cc : wk.cell? ⟨w.heap.size + 1, 1, none⟩ = some (.int .i64 y.t) := ((K6.Row.tr r3 hk id).cell 1).trans (lA1 y); go_simp; exact ⟨rfl, rfl⟩)); refine hK _ _ ?_; clear hK K)
      refine stepK rfl (by kernel_rfl) (fun K hK => ?_); go_simp
      first | (refine hK _ _ ?_; clear hK K) | (apply Exists.intro; apply And.intro; (focus (intro wk hk; go_simp; exact ⟨rfl, rfl⟩)); refine hK _ _ ?_; clear hK K)
      refine stepK rfl (by kernel_rfl) (fun K hK => ?_); go_simp
      apply Exists.intro; apply And.intro; (focus (intro wk hk; go_simp; exact ⟨rfl, rfl⟩)); refine hK _ _ ?_; clear hK K
      refine stepK rfl (by kernel_rfl) (fun K hK => ?_); go_simp
      apply Exists.intro; apply And.intro; (focus (intro wk hk; go_simp; exact ⟨rfl, rfl⟩)); refine hK _ _ ?_; clear hK K
      refine stepK rfl (by kernel_rfl) (fun K hK => ?_); go_simp
      first | (refine hK _ _ ?_; clear hK K) | (apply Exists.intro; apply And.intro; (focus (intro wk hk; go_simp; exact ⟨rfl, rfl⟩)); refine hK _ _ ?_; clear hK K)
      refine stepK rfl (by kernel_rfl) (fun K hK => ?_); go_simp
      first | (refine hK _ _ ?_; clear hK K) | (apply Exists.intro; apply And.intro; (focus (intro wk hk; go_simp; exact ⟨rfl, rfl⟩)); refine hK _ _ ?_; clear hK K)
      refine stepK rfl (by kernel_rfl) (fun K hK => ?_); go_simp
      first | (refine hK _ _ ?_; clear hK K) | (apply Exists.intro; apply And.intro; (focus (intro wk hk; go_simp; exact ⟨rfl, rfl⟩)); refine hK _ _ ?_; clear hK K)
      refine stepK rfl (by kernel_rfl) (fun K hK => ?_); go_simp
      first | (refine hK _ _ ?_; clear hK K) | (apply Exists.intro; apply And.intro; (focus (intro wk hk; go_simp; exact ⟨rfl, rfl⟩)); refine hK _ _ ?_; clear hK K)
      refine stepK rfl (by kernel_rfl) (fun K hK => ?_); go_simp
      first | (refine hK _ _ ?_; clear hK K) | (apply Exists.intro; apply And.intro; (focus (intro wk hk; go_simp; exact ⟨rfl, rfl⟩)); refine hK _ _ ?_; clear hK K)
      refine stepK rfl (by kernel_rfl) (fun K hK => ?_); go_simp
      apply Exists.intro; apply And.intro; (focus (intro wk hk; go_simp; exact ⟨rfl, rfl⟩)); refine hK _ _ ?_; clear hK K
      refine stepK rfl (by kernel_rfl) (fun K hK => ?_); go_simp
      apply Exists.intro; apply And.intro; (focus (intro wk hk; go_simp; exact ⟨rfl, rfl⟩)); refine hK _ _ ?_; clear hK K
      refine stepK rfl (by kernel_rfl) (fun K hK => ?_); go_simp
      first | (refine hK _ _ ?_; clear hK K) | (apply Exists.intro; apply And.intro; (focus (intro wk hk; go_simp; exact ⟨rfl, rfl⟩)); refine hK _ _ ?_; clear hK K)
      refine stepK rfl (by kernel_rfl) (fun K hK => ?_); go_simp
      first | (refine hK _ _ ?_; clear hK K) | (apply Exists.intro; apply And.intro; (focus (intro wk hk; go_simp; exact ⟨rfl, rfl⟩)); refine hK _ _ ?_; clear hK K)
      refine stepK rfl (by kernel_rfl) (fun K hK => ?_); go_simp
      first | (refine hK _ _ ?_; clear hK K) | (apply Exists.intro; apply And.intro; (focus (intro wk hk; go_simp; exact ⟨rfl, rfl⟩)); refine hK _ _ ?_; clear hK K)
      refine stepK rfl (by kernel_rfl) (fun K hK => ?_); go_simp
      first | (refine hK _ _ ?_; clear hK K) | (apply Exists.intro; apply And.intro; (focus (intro wk hk; go_simp; exact ⟨rfl, rfl⟩)); refine hK _ _ ?_; clear hK K)
      refine stepK rfl (by kernel_rfl) (fun K hK => ?_); go_simp
      first | (refine hK _ _ ?_; clear hK K) | (apply Exists.intro; apply And.intro; (focus (intro wk hk; go_simp; exact ⟨rfl, rfl⟩)); refine hK _ _ ?_; clear hK K)
      refine stepK rfl (by kernel_rfl) (fun K hK => ?_); go_simp
      apply Exists.intro; apply And.intro; (focus (intro wk hk; go_simp; exact ⟨rfl, rfl⟩)); refine hK _ _ ?_; clear hK K
      refine stepK rfl (by kernel_rfl) (fun K hK => ?_); go_simp
      apply Exists.intro; apply And.intro; (focus (intro wk hk; go_simp; exact ⟨rfl, rfl⟩)); refine hK _ _ ?_; clear hK K
      refine stepN ?_
      refine hQ _ _ ?_
      intro w9 hT hG hF
      have H9 := Lib.hid (hl.trans (hT.below.mono hl.size))
      clear hT hG hF hQ QQ L hl r2 r3
      go_wp2_with fail
      go_ret
      exact ⟨rfl, H9.out⟩
  · have h1 : (x.i == y.i) = false := by rw [beq_eq_false_iff_ne]; exact e1
    have hbb : b = false := by rw [← hb]; exact decide_eq_false (fun h => e1 (by unfold Lf.key at h; simp only [Prod.mk.injEq] at h; exact h.1))
    subst hbb
    clear q1 hb e1 kH
    let L : List Sp := []
    refine wp_region_six0 (shs L) (look6 L) (None_) (by kernel_rfl) (by kernel_rfl) (mk_St L [] [] (by kernel_rfl) (by kernel_rfl) trivial (by simp)) ?_
    intro QQ hQ
    refine stepK rfl (by kernel_rfl) (fun K hK => ?_); go_simp
    apply Exists.intro; apply And.intro; (focus (intro wk hk; go_simp; exact ⟨rfl, rfl⟩)); refine hK _ _ ?_; clear hK K
    refine stepK rfl (by kernel_rfl) (fun K hK => ?_); go_simp
    apply Exists.intro; apply And.intro; (focus (intro wk hk; have cc : wk.cell? ⟨w.heap.size, 0, none⟩ = some (.int .i64 x.i) := ((K6.Row.tr r2 hk id).cell 0).trans (lA0 x); go_simp; exact ⟨rfl, rfl⟩)); refine hK _ _ ?_; clear hK K
    refine stepK rfl (by kernel_rfl) (fun K hK => ?_); go_simp
    apply Exists.intro; apply And.intro; (focus (intro wk hk; go_simp; exact ⟨rfl, rfl⟩)); refine hK _ _ ?_; clear hK K
    refine stepK rfl (by kernel_rfl) (fun K hK => ?_); go_simp
    apply Exists.intro; apply And.intro; (focus (intro wk hk; have cc : wk.cell? ⟨w.heap.size + 1, 0, none⟩ = some (.int .i64 y.i) := ((K6.Row.tr r3 hk id).cell 0).trans (lA0 y); go_simp; exact ⟨rfl, rfl⟩)); refine hK _ _ ?_; clear hK K
    refine stepK rfl (by kernel_rfl) (fun K hK => ?_); go_simp
    apply Exists.intro; apply And.intro; (focus (intro wk hk; go_simp; exact ⟨rfl, rfl⟩)); refine hK _ _ ?_; clear hK K
    refine stepK rfl (by kernel_rfl) (fun K hK => ?_); go_simp
    apply Exists.intro; apply And.intro; (focus (intro wk hk; go_simp; exact ⟨rfl, rfl⟩)); refine hK _ _ ?_; clear hK K
    refine stepK rfl (by kernel_rfl) (fun K hK => ?_); go_simp
    first | (refine hK _ _ ?_; clear hK K) | (apply Exists.intro; apply And.intro; (focus (intro wk hk; go_simp; exact ⟨rfl, rfl⟩)); refine hK _ _ ?_; clear hK K)
    refine stepK rfl (by kernel_rfl) (fun K hK => ?_); go_simp
    first | (refine hK _ _ ?_; clear hK K) | (apply Exists.intro; apply And.intro; (focus (intro wk hk; go_simp; exact ⟨rfl, rfl⟩)); refine hK _ _ ?_; clear hK K)
    refine stepK rfl (by kernel_rfl) (fun K hK => ?_); go_simp
    first | (refine hK _ _ ?_; clear hK K) | (apply Exists.intro; apply And.intro; (focus (intro wk hk; go_simp; exact ⟨rfl, rfl⟩)); refine hK _ _ ?_; clear hK K)
    refine stepK rfl (by kernel_rfl) (fun K hK => ?_); go_simp
    first | (refine hK _ _ ?_; clear hK K) | (apply Exists.intro; apply And.intro; (focus (intro wk hk; go_simp; exact ⟨rfl, rfl⟩)); refine hK _ _ ?_; clear hK K)
    refine stepK rfl (by kernel_rfl) (fun K hK => ?_); go_simp
    first | (refine hK _ _ ?_; clear hK K) | (apply Exists.intro; apply And.intro; (focus (intro wk hk; go_simp; exact ⟨rfl, rfl⟩)); refine hK _ _ ?_; clear hK K)
    refine stepK rfl (by kernel_rfl) (fun K hK => ?_); go_simp
    apply Exists.intro; apply And.intro; (focus (intro wk hk; go_simp; exact ⟨rfl, rfl⟩)); refine hK _ _ ?_; clear hK K
    refine stepK rfl (by kernel_rfl) (fun K hK => ?_); go_simp
    apply Exists.intro; apply And.intro; (focus (intro wk hk; go_simp; exact ⟨rfl, rfl⟩)); refine hK _ _ ?_; clear hK K
    refine stepK rfl (by kernel_rfl) (fun K hK => ?_); go_simp
    first | (refine hK _ _ ?_; clear hK K) | (apply Exists.intro; apply And.intro; (focus (intro wk hk; go_simp; exact ⟨rfl, rfl⟩)); refine hK _ _ ?_; clear hK K)
    refine stepK rfl (by kernel_rfl) (fun K hK => ?_); go_simp
    first | (refine hK _ _ ?_; clear hK K) | (apply Exists.intro; apply And.intro; (focus (intro wk hk; go_simp; exact ⟨rfl, rfl⟩)); refine hK _ _ ?_; clear hK K)
    refine stepK rfl (by kernel_rfl) (fun K hK => ?_); go_simp
    first | (refine hK _ _ ?_; clear hK K) | (apply Exists.intro; apply And.intro; (focus (intro wk hk; go_simp; exact ⟨rfl, rfl⟩)); refine hK _ _ ?_; clear hK K)
    refine stepK rfl (by kernel_rfl) (fun K hK => ?_); go_simp
    first | (refine hK _ _ ?_; clear hK K) | (apply Exists.intro; apply And.intro; (focus (intro wk hk; go_simp; exact ⟨rfl, rfl⟩)); refine hK _ _ ?_; clear hK K)
    refine stepK rfl (by kernel_rfl) (fun K hK => ?_); go_simp
    first | (refine hK _ _ ?_; clear hK K) | (apply Exists.intro; apply And.intro; (focus (intro wk hk; go_simp; exact ⟨rfl, rfl⟩)); refine hK _ _ ?_; clear hK K)
    refine stepK rfl (by kernel_rfl) (fun K hK => ?_); go_simp
    apply Exists.intro; apply And.intro; (focus (intro wk hk; go_simp; exact ⟨rfl, rfl⟩)); refine hK _ _ ?_; clear hK K
    refine stepK rfl (by kernel_rfl) (fun K hK => ?_); go_simp
    apply Exists.intro; apply And.intro; (focus (intro wk hk; go_simp; exact ⟨rfl, rfl⟩)); refine hK _ _ ?_; clear hK K
    refine stepK rfl (by kernel_rfl) (fun K hK => ?_); go_simp
    first | (refine hK _ _ ?_; clear hK K) | (apply Exists.intro; apply And.intro; (focus (intro wk hk; go_simp; exact ⟨rfl, rfl⟩)); refine hK _ _ ?_; clear hK K)
    refine stepK rfl (by kernel_rfl) (fun K hK => ?_); go_simp
    first | (refine hK _ _ ?_; clear hK K) | (apply Exists.intro; apply And.intro; (focus (intro wk hk; go_simp; exact ⟨rfl, rfl⟩)); refine hK _ _ ?_; clear hK K)
    refine stepK rfl (by kernel_rfl) (fun K hK => ?_); go_simp
    first | (refine hK _ _ ?_; clear hK K) | (apply Exists.intro; apply And.intro; (focus (intro wk hk; go_simp; exact ⟨rfl, rfl⟩)); refine hK _ _ ?_; clear hK K)
    refine stepK rfl (by kernel_rfl) (fun K hK => ?_); go_simp
    first | (refine hK _ _ ?_; clear hK K) | (apply Exists.intro; apply And.intro; (focus (intro wk hk; go_simp; exact ⟨rfl, rfl⟩)); refine hK _ _ ?_; clear hK K)
    refine stepK rfl (by kernel_rfl) (fun K hK => ?_); go_simp
    first | (refine hK _ _ ?_; clear hK K) | (apply Exists.intro; apply And.intro; (focus (intro wk hk; go_simp; exact ⟨rfl, rfl⟩)); refine hK _ _ ?_; clear hK K)
    refine stepK rfl (by kernel_rfl) (fun K hK => ?_); go_simp
    apply Exists.intro; apply And.intro; (focus (intro wk hk; go_simp; exact ⟨rfl, rfl⟩)); refine hK _ _ ?_; clear hK K
    refine stepK rfl (by kernel_rfl) (fun K hK => ?_); go_simp
    apply Exists.intro; apply And.intro; (focus (intro wk hk; go_simp; exact ⟨rfl, rfl⟩)); refine hK _ _ ?_; clear hK K
    refine stepN ?_
    refine hQ _ _ ?_
    intro w9 hT hG hF
    have H9 := Lib.hid (hl.trans (hT.below.mono hl.size))
    clear hT hG hF hQ QQ L hl r2 r3
    go_wp2_with fail
    go_ret
    exact ⟨rfl, H9.out⟩
end Go.Proofs.Ytpdenhmkpiafiaa
namespace Go.Proofs.Ytpdenhmkpiafiaa
open Go Go.RowKit K6
def sameL (E F : List Lf) : Bool := decide (E.map Lf.key = F.map Lf.key)
set_option maxRecDepth 100000 in
set_option maxHeartbeats 32000000 in
theorem lsEq_at (u v : Value) (E F : List Lf) (w : World) (hE : Ls w u E) (hF : Ls w v F) (hEm : E.length ≤ 100000) (hlen : ∀ e ∈ E, e.p.length ≤ 100000) :
    Calls Try.prog 256 #[u, v, .func (.func 241) #[] #[]] w fun r w' => r = .returned (.bool (sameL E F)) ∧ Below w.heap.size w w' := by
  have HC := Lib.hid (show _ ∧ _ from ⟨hE, hF⟩)
  obtain ⟨⟨q1, c1, rfl, -⟩, -⟩ := hE
  obtain ⟨⟨q2, c2, rfl, -⟩, -⟩ := hF
  obtain ⟨n1, hn1⟩ : ∃ n, E.length = n := ⟨_, rfl⟩
  obtain ⟨n2, hn2⟩ : ∃ n, F.length = n := ⟨_, rfl⟩
  obtain ⟨b, hb⟩ : ∃ b, sameL E F = b := ⟨_, rfl⟩
  rw [hb, hn1, hn2]
  have hni : (n1 : Int) ≤ 100000 := by omega
  have HB := Lib.hid (show _ ∧ _ ∧ _ ∧ _ from ⟨hb, hn1, hn2, hlen⟩)
  rw [hn1, hn2] at HC
  clear hb hn1 hn2 hEm hlen
  by_cases hne : n1 = n2
  case neg =>
    have hd : ¬ (n1 : Int) = (n2 : Int) := by omega
    have hbf : b = false := by rw [← HB.out.1]; exact decide_eq_false (fun h => hne (by rw [← HB.out.2.1, ← HB.out.2.2.1]; have := congrArg List.length h; simpa using this))
    subst hbf
    clear hne HC
    go_enter Try.func256, Try.ntmps256
    go_wp2_with fail
    go_ret
    exact ⟨rfl, Below.refl _ _⟩
  subst hne
  go_enter Try.func256, Try.ntmps256
  go_wp2_with fail
  go_loopg [7, 8, 9, 17] n1 (fun gg s7 s8 s9 s17 wr => ∃ i : Nat, i + gg = n1 ∧ s17 = .int .i64 (i : Int) ∧ Hid ((E.map Lf.key).take i = (F.map Lf.key).take i) ∧ Hid (Below w.heap.size w wr))
  case atStart => exact ⟨0, by omega, rfl, Lib.hid (by rw [List.take_zero, List.take_zero]), Lib.hid (Below.refl _ _)⟩
  case round =>
    obtain ⟨i, him, rfl, heq, hinv⟩ := hrel
    by_cases hi : i < n1
    · obtain ⟨e, hee⟩ : ∃ e, E[i]? = some e := ⟨_, List.getElem?_eq_getElem (by have := HB.out.2.1; omega)⟩
      obtain ⟨f, hff⟩ : ∃ f, F[i]? = some f := ⟨_, List.getElem?_eq_getElem (by have := HB.out.2.2.1; omega)⟩
      obtain ⟨g1, o1, c1', hu, hg1, hcs1⟩ := (HC.out.1.below hinv.out).1.get hee
      simp only [Value.slice.injEq] at hu
      obtain ⟨rfl, -, -⟩ := hu
      obtain ⟨g2, o2, c2', hu, hg2, hcs2⟩ := (HC.out.2.below hinv.out).1.get hff
      simp only [Value.slice.injEq] at hu
      obtain ⟨rfl, -, -⟩ := hu
      have hok1 := HC.out.1.2 e (List.mem_of_getElem? hee)
      have hok2 := HC.out.2.2 f (List.mem_of_getElem? hff)
      have hle := HB.out.2.2.2 e (List.mem_of_getElem? hee)
      have hke : (E.map Lf.key)[i]? = some e.key := by rw [List.getElem?_map, hee]; rfl
      have hkf : (F.map Lf.key)[i]? = some f.key := by rw [List.getElem?_map, hff]; rfl
      have hgo := Lib.hid (show (e.key = f.key → (E.map Lf.key).take (i + 1) = (F.map Lf.key).take (i + 1)) ∧ (e.key ≠ f.key → b = false) from ⟨fun h => take_app_eq' hke hkf heq.out h, fun h => by rw [← HB.out.1]; exact decide_eq_false (get_ne' hke hkf h)⟩)
      clear hee hff hke hkf heq
      have hlt : (i : Int) < (n1 : Int) := by omega
      have k0 := Lib.hid fun wx (hb : Below w.heap.size w wx) => sameLeaf_at e f wx (hok1.below hb) (hok2.below hb) (by omega)
      obtain ⟨d, hd⟩ : ∃ d, decide (e.key = f.key) = d := ⟨_, rfl⟩
      rw [hd] at k0
      have hd' := Lib.hid hd
      clear hok1 hok2 hle hd
      go_upto_region 5 with (fail)
      let L : List Sp := [sA 3 198 [5] #[.int .i64 0, .int .i64 0, .int .u64 0, .int .u64 0, .int .u64 0, .int .u64 0, .slice none 0 0], sT 5 3 198 [2] (fun g => aggOf g 2)]
      refine wp_region_six0 (shs L) (look6 L) (None_) (by kernel_rfl) (by kernel_rfl) (mk_St L [] [] (by kernel_rfl) (by kernel_rfl) ⟨ok_A, ok_T aggOf_congr, trivial⟩ (by simp)) ?_
      intro QQ hQ
      refine stepK rfl (by kernel_rfl) (fun K hK => ?_); go_simp
      apply Exists.intro; apply And.intro; (focus (intro wk hk; go_simp; exact ⟨rfl, rfl⟩)); refine hK _ _ ?_; clear hK K
      refine stepK rfl (by kernel_rfl) (fun K hK => ?_); go_simp
      apply Exists.intro; apply And.intro; (focus (intro wk hk; go_simp; exact ⟨rfl, rfl⟩)); refine hK _ _ ?_; clear hK K
      refine stepK rfl (by kernel_rfl) (fun K hK => ?_); go_simp
      apply Exists.intro; apply And.intro; (focus exact kLoadE rfl rfl aggT198 hcs1 (lfc_len e) hg1 id); refine hK _ _ ?_; clear hK K
      refine stepS _ rfl (by kernel_rfl) (fun K hK => ?_); go_simp
      refine ⟨?_, ?_⟩
      · intro wk hk hg hu; go_simp; exact left_A rfl rfl
      rintro ⟨v3, lo3, hi3⟩ hlo3 hhi3 ⟨e3, f3⟩
      replace e3 : v3 = .pointer (some ⟨lo3, 0, none⟩) := e3; replace f3 : hi3 = lo3 + 1 := f3; replace hlo3 : _ ≤ lo3 := hlo3; subst e3; subst f3
      refine hK _ _ ?_; clear hK K
      refine stepK rfl (by kernel_rfl) (fun K hK => ?_); go_simp
      apply Exists.intro; apply And.intro; (focus (intro wk hk; go_simp; exact ⟨rfl, rfl⟩)); refine hK _ _ ?_; clear hK K
      refine stepS _ rfl (by kernel_rfl) (fun K hK => ?_); go_simp
      refine ⟨?_, ?_⟩
      · exact sStoreT rfl rfl rfl rfl rfl rfl rfl (by kernel_rfl) rfl (by kernel_rfl) (by decide) aggOf_congr
      rintro ⟨v5, lo5, hi5⟩ - - (rfl : v5 = undef)
      refine hK _ _ ?_; clear hK K
      refine stepN ?_
      refine hQ _ _ ?_
      intro w1 hT hG hF
      have hbw1 := hT.below
      have r8 : Row w1 lo3 198 (lfc e).toArray := (hF 5 _ rfl rfl (by decide)).2
      clear hT hG hF hQ QQ L
      have hcs2' : ∀ j v, (lfc f)[j]? = some v → w1.cell? ⟨g2, o2 + i * 7 + j, none⟩ = some v := fun j v hj => (World.cell?_of_block (hbw1.block g2 hg2)).trans (hcs2 j v hj)
      have hg2' : g2 < w1.heap.size := Nat.lt_of_lt_of_le hg2 hbw1.size
      have HW1 := Lib.hid hbw1
      clear hbw1 hcs1 hcs2 hg1 hg2
      go_upto_region 6 with (fail)
      let L : List Sp := [sA 4 198 [5] #[.int .i64 0, .int .i64 0, .int .u64 0, .int .u64 0, .int .u64 0, .int .u64 0, .slice none 0 0], sT 5 4 198 [3] (fun g => aggOf g 3)]
      refine wp_region_six0 (shs L) (look6 L) (None_) (by kernel_rfl) (by kernel_rfl) (mk_St L [] [] (by kernel_rfl) (by kernel_rfl) ⟨ok_A, ok_T aggOf_congr, trivial⟩ (by simp)) ?_
      intro QQ hQ
      refine stepK rfl (by kernel_rfl) (fun K hK => ?_); go_simp
      apply Exists.intro; apply And.intro; (focus (intro wk hk; go_simp; exact ⟨rfl, rfl⟩)); refine hK _ _ ?_; clear hK K
      refine stepK rfl (by kernel_rfl) (fun K hK => ?_); go_simp
      apply Exists.intro; apply And.intro; (focus (intro wk hk; go_simp; exact ⟨rfl, rfl⟩)); refine hK _ _ ?_; clear hK K
      refine stepK rfl (by kernel_rfl) (fun K hK => ?_); go_simp
      apply Exists.intro; apply And.intro; (focus (intro wk hk; go_simp; exact ⟨rfl, rfl⟩)); refine hK _ _ ?_; clear hK K
      refine stepK rfl (by kernel_rfl) (fun K hK => ?_); go_simp
      apply Exists.intro; apply And.intro; (focus exact kLoadE rfl rfl aggT198 hcs2' (lfc_len f) hg2' id); refine hK _ _ ?_; clear hK K
      refine stepS _ rfl (by kernel_rfl) (fun K hK => ?_); go_simp
      refine ⟨?_, ?_⟩
      · intro wk hk hg hu; go_simp; exact left_A rfl rfl
      rintro ⟨v4, lo4, hi4⟩ hlo4 hhi4 ⟨e4, f4⟩
      replace e4 : v4 = .pointer (some ⟨lo4, 0, none⟩) := e4; replace f4 : hi4 = lo4 + 1 := f4; replace hlo4 : _ ≤ lo4 := hlo4; subst e4; subst f4
      refine hK _ _ ?_; clear hK K
      refine stepS _ rfl (by kernel_rfl) (fun K hK => ?_); go_simp
      refine ⟨?_, ?_⟩
      · exact sStoreT rfl rfl rfl rfl rfl rfl rfl (by kernel_rfl) rfl (by kernel_rfl) (by decide) aggOf_congr
      rintro ⟨v5, lo5, hi5⟩ - - (rfl : v5 = undef)
      refine hK _ _ ?_; clear hK K
      refine stepN ?_
      refine hQ _ _ ?_
      intro w2 hT hG hF
      have hbw2 := hT.below
      have r9 : Row w2 lo4 198 (lfc f).toArray := (hF 5 _ rfl rfl (by decide)).2
      clear hT hG hF hQ QQ L
      have r8 := r8.below hbw2 r8.lt
      have hb02 := HW1.out.trans (hbw2.mono HW1.out.size)
      have hl2 := Lib.hid (hinv.out.trans (hb02.mono hinv.out.size))
      clear hbw2 HW1 hcs2' hb02 hinv
      go_upto_region 7 with (fail)
      let L : List Sp := [sV 3 [] [] (fun u => u = .bool d)]
      refine wp_region_six0 (shs L) (look6 L) (None_) (by kernel_rfl) (by kernel_rfl) (mk_St L [] [] (by kernel_rfl) (by kernel_rfl) ⟨ok_V ⟨_, rfl⟩, trivial⟩ (by simp)) ?_
      intro QQ hQ
      refine stepK rfl (by kernel_rfl) (fun K hK => ?_); go_simp
      apply Exists.intro; apply And.intro; (focus (intro wk hk; go_simp; exact ⟨rfl, rfl⟩)); refine hK _ _ ?_; clear hK K
      refine stepK rfl (by kernel_rfl) (fun K hK => ?_); go_simp
      apply Exists.intro; apply And.intro; (focus exact kLoad rfl rfl aggT198 r8 (lfc_len e) id); refine hK _ _ ?_; clear hK K
      refine stepK rfl (by kernel_rfl) (fun K hK => ?_); go_simp
      apply Exists.intro; apply And.intro; (focus exact kLoad rfl rfl aggT198 r9 (lfc_len f) id); refine hK _ _ ?_; clear hK K
      refine stepS _ rfl (by kernel_rfl) (fun K hK => ?_); go_simp
      refine ⟨?_, ?_⟩
      · intro wk hk hg hu; go_simp; refine upon_enter ((k0.out _ (hl2.out.trans (hk.below.mono hl2.out.size))).mono ?_); rintro e w' ⟨rfl, hb⟩; exact ⟨_, rfl, left_V (p := fun u => u = .bool d) rfl (hb) rfl⟩
      rintro ⟨v3, lo3, hi3⟩ - - (rfl : v3 = _)
      refine hK _ _ ?_; clear hK K
      refine stepK rfl (by kernel_rfl) (fun K hK => ?_); go_simp
      apply Exists.intro; apply And.intro; (focus (intro wk hk; go_simp; exact ⟨rfl, rfl⟩)); refine hK _ _ ?_; clear hK K
      refine stepN ?_
      refine hQ _ _ ?_
      intro w3 hT hG hF
      have hl3 := Lib.hid (hl2.out.trans (hT.below.mono hl2.out.size))
      clear hT hG hF hQ QQ L r8 r9 k0 hl2
      cases d
      · have hbf : b = false := hgo.out.2 (of_decide_eq_false hd'.out)
        subst hbf
        go_wp2_with fail
        go_ret
        exact ⟨rfl, hl3.out⟩
      · have hnx := Lib.hid (hgo.out.1 (of_decide_eq_true hd'.out))
        go_wp2_with fail
        go_roundg (gk - 1)
        case measure => omega
        case rel => exact ⟨i + 1, by omega, by go_num, hnx, hl3⟩
    · obtain rfl : i = n1 := by omega
      have hlt : ¬ (i : Int) < (i : Int) := by omega
      have hbt : b = true := by
        rw [← HB.out.1]
        have h := heq.out
        rw [List.take_of_length_le (by rw [List.length_map]; have := HB.out.2.1; omega), List.take_of_length_le (by rw [List.length_map]; have := HB.out.2.2.1; omega)] at h
        exact decide_eq_true h
      subst hbt
      clear heq
      go_wp2_with fail
      go_ret
      exact ⟨rfl, hinv.out⟩
set_option maxRecDepth 100000 in
set_option maxHeartbeats 16000000 in
theorem alike_at (u v : Value) (E F : List Lf) (w : World) (hE : Ls w u E) (hF : Ls w v F) (hEm : E.length ≤ 100000) (hlen : ∀ e ∈ E, e.p.length ≤ 100000) :
    Calls Try.prog 240 #[u, v, .func (.func 241) #[] #[]] w fun r w' => r = .returned (.bool (sameL E F)) ∧ Below w.heap.size w w' := by
  have kk := Lib.hid (lsEq_at u v E F w hE hF hEm hlen)
  obtain ⟨b, hb⟩ : ∃ b, sameL E F = b := ⟨_, rfl⟩
  rw [hb] at kk ⊢
  clear hE hF hEm hlen hb
  go_enter Try.func240, Try.ntmps240
  go_wp2_with fail
  refine kk.out.mono ?_
  rintro e w1 ⟨rfl, hb⟩
  clear kk
  go_wp2_with fail
  go_ret
  exact ⟨rfl, hb⟩
end Go.Proofs.Ytpdenhmkpiafiaa
