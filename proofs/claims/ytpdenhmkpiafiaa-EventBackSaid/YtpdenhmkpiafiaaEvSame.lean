/-
  Whether two rows of events are alike: 191 190 189 77; the reference's: 192 78.
-/
import Derived.Test.YtpdenhmkpiafiaaEvSl
namespace Go.Proofs.Ytpdenhmkpiafiaa
open Go Go.RowKit K6

def Ev.key (e : Ev) : Int × List Nat := (e.k, e.l)
def sameE (E F : List Ev) : Bool := decide (E.map Ev.key = F.map Ev.key)
theorem take_app_eq {α : Type} {l k : List α} {i : Nat} {x y : α} (hx : l[i]? = some x) (hy : k[i]? = some y) (h : l.take i = k.take i) (hxy : x = y) : l.take (i + 1) = k.take (i + 1) := by
  rw [List.take_add_one, List.take_add_one, hx, hy, h, hxy]
theorem get_ne {α : Type} {l k : List α} {i : Nat} {x y : α} (hx : l[i]? = some x) (hy : k[i]? = some y) (hxy : x ≠ y) : l ≠ k := fun h => hxy (by rw [h, hy] at hx; exact (Option.some.inj hx).symm)
set_option maxRecDepth 100000 in
set_option maxHeartbeats 16000000 in
theorem usEq_at (u v : Value) (l k : List Nat) (w : World) (hu : Us w u l) (hv : Us w v k) (hlM : ∀ a ∈ l, a < M) (hkM : ∀ a ∈ k, a < M) (hL : l.length ≤ 140737488355328) :
    Calls Try.prog 191 #[u, v] w fun r w' => r = .returned (.bool (decide (l = k))) ∧ Below w.heap.size w w' := by
  have HU := Lib.hid (show _ ∧ _ from ⟨hu, hlM⟩)
  have HV := Lib.hid (show _ ∧ _ from ⟨hv, hkM⟩)
  obtain ⟨q1, c1, rfl, -, -⟩ := hu
  obtain ⟨q2, c2, rfl, -, -⟩ := hv
  obtain ⟨n1, hn1⟩ : ∃ n, l.length = n := ⟨_, rfl⟩
  obtain ⟨n2, hn2⟩ : ∃ n, k.length = n := ⟨_, rfl⟩
  rw [hn1] at HU hL
  rw [hn2] at HV
  obtain ⟨b, hb⟩ : ∃ b, decide (l = k) = b := ⟨_, rfl⟩
  rw [hb, hn1, hn2]
  have HB := Lib.hid (show _ ∧ _ ∧ _ from ⟨hb, hn1, hn2⟩)
  have hni : (n1 : Int) ≤ 140737488355328 := by omega
  clear hlM hkM hb hn1 hn2 hL
  by_cases hne : n1 = n2
  · subst hne
    go_enter Try.func191, Try.ntmps191
    go_wp2_with fail
    go_loopg [5, 13] n1 (fun gg s5 s13 wr => ∃ i : Nat, i + gg = n1 ∧ s13 = .int .i64 (i : Int) ∧ Hid (l.take i = k.take i) ∧ Hid (Below w.heap.size w wr))
    case atStart => exact ⟨0, by omega, rfl, Lib.hid (by rw [List.take_zero, List.take_zero]), Lib.hid (Below.refl _ _)⟩
    case round =>
      obtain ⟨i, him, rfl, heq, hinv⟩ := hrel
      by_cases hi : i < n1
      · obtain ⟨x, hx⟩ : ∃ x, l[i]? = some x := ⟨_, List.getElem?_eq_getElem (by have := HB.out.2.1; omega)⟩
        obtain ⟨y, hy⟩ : ∃ y, k[i]? = some y := ⟨_, List.getElem?_eq_getElem (by have := HB.out.2.2; omega)⟩
        have hxM := HU.out.2 x (List.mem_of_getElem? hx)
        have hyM := HV.out.2 y (List.mem_of_getElem? hy)
        obtain ⟨gx, ox, cx', hu, hgx, hcx⟩ := (HU.out.1.below hinv.out).elem hx
        simp only [Value.slice.injEq] at hu
        obtain ⟨rfl, -, -⟩ := hu
        obtain ⟨gy, oy, cy', hu, hgy, hcy⟩ := (HV.out.1.below hinv.out).elem hy
        simp only [Value.slice.injEq] at hu
        obtain ⟨rfl, -, -⟩ := hu
        have HX := Lib.hid (show _ ∧ _ from ⟨hx, hy⟩)
        clear hx hy
        have hlt : (i : Int) < (n1 : Int) := by omega
        by_cases hxy : x = y
        · subst hxy
          have q1 : ∀ wx, (Op.equalIn 10000 31 (.agg (W4 x)) (.agg (W4 x))).run Try.prog wx = .ok true wx := fun wx => by rw [eqU hxM hyM, decide_eq_true rfl]
          have hnext := Lib.hid (take_app_eq HX.out.1 HX.out.2 heq.out rfl)
          clear hxM hyM HX heq
          go_upto_region 6 with (fail)
          let L : List Sp := []
          refine wp_region_six (shs L) (look6 L) (None_) (by kernel_rfl) (by kernel_rfl) (mk_St L [] [] (by kernel_rfl) (by kernel_rfl) trivial (by simp)) ?_
          intro QQ hQ
          -- 0: t0
          refine stepK rfl (by kernel_rfl) (fun K hK => ?_); go_simp
          apply Exists.intro; apply And.intro; (focus (intro wk hk; go_simp; exact ⟨rfl, rfl⟩)); refine hK _ _ ?_; clear hK K
          -- 1: t5
          refine stepK rfl (by kernel_rfl) (fun K hK => ?_); go_simp
          apply Exists.intro; apply And.intro; (focus (intro wk hk; go_simp; exact ⟨rfl, rfl⟩)); refine hK _ _ ?_; clear hK K
          -- 2: indexAddr<23> t16[t17]
          refine stepK rfl (by kernel_rfl) (fun K hK => ?_); go_simp
          apply Exists.intro; apply And.intro; (focus (intro wk hk; go_simp; exact ⟨rfl, rfl⟩)); refine hK _ _ ?_; clear hK K
          -- 3: load<31> *t18
          refine stepK rfl (by kernel_rfl) (fun K hK => ?_); go_simp
          apply Exists.intro; apply And.intro; (focus exact kLoadA rfl rfl aggT31 hcx rfl hgx id); refine hK _ _ ?_; clear hK K
          -- 4: t1
          refine stepK rfl (by kernel_rfl) (fun K hK => ?_); go_simp
          apply Exists.intro; apply And.intro; (focus (intro wk hk; go_simp; exact ⟨rfl, rfl⟩)); refine hK _ _ ?_; clear hK K
          -- 5: t5
          refine stepK rfl (by kernel_rfl) (fun K hK => ?_); go_simp
          apply Exists.intro; apply And.intro; (focus (intro wk hk; go_simp; exact ⟨rfl, rfl⟩)); refine hK _ _ ?_; clear hK K
          -- 6: indexAddr<23> t20[t21]
          refine stepK rfl (by kernel_rfl) (fun K hK => ?_); go_simp
          apply Exists.intro; apply And.intro; (focus (intro wk hk; go_simp; exact ⟨rfl, rfl⟩)); refine hK _ _ ?_; clear hK K
          -- 7: load<31> *t22
          refine stepK rfl (by kernel_rfl) (fun K hK => ?_); go_simp
          apply Exists.intro; apply And.intro; (focus exact kLoadA rfl rfl aggT31 hcy rfl hgy id); refine hK _ _ ?_; clear hK K
          -- 8: neq<31> t19, t23
          refine stepK rfl (by kernel_rfl) (fun K hK => ?_); go_simp
          apply Exists.intro; apply And.intro; (focus (intro wk hk; go_simp; exact ⟨rfl, rfl⟩)); refine hK _ _ ?_; clear hK K
          refine stepN ?_
          refine hQ _ _ ?_
          intro w1 hT hG hF
          have hl1 := Lib.hid (hinv.out.trans (hT.undrew.below.mono hinv.out.size))
          clear hT hG hF hQ QQ L hcx hcy hinv q1
          go_wp2_with fail
          go_roundg (gk - 1)
          case measure => omega
          case rel => exact ⟨i + 1, by omega, by go_num, hnext, hl1⟩
        · have q1 : ∀ wx, (Op.equalIn 10000 31 (.agg (W4 x)) (.agg (W4 y))).run Try.prog wx = .ok false wx := fun wx => by rw [eqU hxM hyM, decide_eq_false hxy]
          have hbf : b = false := by rw [← HB.out.1]; exact decide_eq_false (get_ne HX.out.1 HX.out.2 hxy)
          subst hbf
          clear hxM hyM HX heq hxy
          go_upto_region 6 with (fail)
          let L : List Sp := []
          refine wp_region_six (shs L) (look6 L) (None_) (by kernel_rfl) (by kernel_rfl) (mk_St L [] [] (by kernel_rfl) (by kernel_rfl) trivial (by simp)) ?_
          intro QQ hQ
          -- 0: t0
          refine stepK rfl (by kernel_rfl) (fun K hK => ?_); go_simp
          apply Exists.intro; apply And.intro; (focus (intro wk hk; go_simp; exact ⟨rfl, rfl⟩)); refine hK _ _ ?_; clear hK K
          -- 1: t5
          refine stepK rfl (by kernel_rfl) (fun K hK => ?_); go_simp
          apply Exists.intro; apply And.intro; (focus (intro wk hk; go_simp; exact ⟨rfl, rfl⟩)); refine hK _ _ ?_; clear hK K
          -- 2: indexAddr<23> t16[t17]
          refine stepK rfl (by kernel_rfl) (fun K hK => ?_); go_simp
          apply Exists.intro; apply And.intro; (focus (intro wk hk; go_simp; exact ⟨rfl, rfl⟩)); refine hK _ _ ?_; clear hK K
          -- 3: load<31> *t18
          refine stepK rfl (by kernel_rfl) (fun K hK => ?_); go_simp
          apply Exists.intro; apply And.intro; (focus exact kLoadA rfl rfl aggT31 hcx rfl hgx id); refine hK _ _ ?_; clear hK K
          -- 4: t1
          refine stepK rfl (by kernel_rfl) (fun K hK => ?_); go_simp
          apply Exists.intro; apply And.intro; (focus (intro wk hk; go_simp; exact ⟨rfl, rfl⟩)); refine hK _ _ ?_; clear hK K
          -- 5: t5
          refine stepK rfl (by kernel_rfl) (fun K hK => ?_); go_simp
          apply Exists.intro; apply And.intro; (focus (intro wk hk; go_simp; exact ⟨rfl, rfl⟩)); refine hK _ _ ?_; clear hK K
          -- 6: indexAddr<23> t20[t21]
          refine stepK rfl (by kernel_rfl) (fun K hK => ?_); go_simp
          apply Exists.intro; apply And.intro; (focus (intro wk hk; go_simp; exact ⟨rfl, rfl⟩)); refine hK _ _ ?_; clear hK K
          -- 7: load<31> *t22
          refine stepK rfl (by kernel_rfl) (fun K hK => ?_); go_simp
          apply Exists.intro; apply And.intro; (focus exact kLoadA rfl rfl aggT31 hcy rfl hgy id); refine hK _ _ ?_; clear hK K
          -- 8: neq<31> t19, t23
          refine stepK rfl (by kernel_rfl) (fun K hK => ?_); go_simp
          apply Exists.intro; apply And.intro; (focus (intro wk hk; go_simp; exact ⟨rfl, rfl⟩)); refine hK _ _ ?_; clear hK K
          refine stepN ?_
          refine hQ _ _ ?_
          intro w1 hT hG hF
          have hl1 := Lib.hid (hinv.out.trans (hT.undrew.below.mono hinv.out.size))
          clear hT hG hF hQ QQ L hcx hcy hinv q1
          go_wp2_with fail
          go_ret
          exact ⟨rfl, hl1.out⟩
      · obtain rfl : i = n1 := by omega
        have hlt : ¬ (i : Int) < (i : Int) := by omega
        have hbt : b = true := by
          rw [← HB.out.1]
          have h := heq.out
          rw [List.take_of_length_le (by have := HB.out.2.1; omega), List.take_of_length_le (by have := HB.out.2.2; omega)] at h
          exact decide_eq_true h
        subst hbt
        clear heq
        go_wp2_with fail
        go_ret
        exact ⟨rfl, hinv.out⟩
  · have hd : ¬ (n1 : Int) = (n2 : Int) := by omega
    have hbf : b = false := by rw [← HB.out.1]; exact decide_eq_false (fun h => hne (by rw [← HB.out.2.1, ← HB.out.2.2, h]))
    subst hbf
    clear hne
    go_enter Try.func191, Try.ntmps191
    go_wp2_with fail
    go_ret
    exact ⟨rfl, Below.refl _ _⟩
set_option maxRecDepth 100000 in
set_option maxHeartbeats 16000000 in
theorem usRef_at (u v : Value) (l k : List Nat) (w : World) (hu : Us w u l) (hv : Us w v k) (hlM : ∀ a ∈ l, a < M) (hkM : ∀ a ∈ k, a < M) (hL : l.length ≤ 140737488355328) :
    Calls Try.prog 192 #[u, v] w fun r w' => r = .returned (.bool (decide (l = k))) ∧ Below w.heap.size w w' := by
  have HU := Lib.hid (show _ ∧ _ from ⟨hu, hlM⟩)
  have HV := Lib.hid (show _ ∧ _ from ⟨hv, hkM⟩)
  obtain ⟨q1, c1, rfl, -, -⟩ := hu
  obtain ⟨q2, c2, rfl, -, -⟩ := hv
  obtain ⟨n1, hn1⟩ : ∃ n, l.length = n := ⟨_, rfl⟩
  obtain ⟨n2, hn2⟩ : ∃ n, k.length = n := ⟨_, rfl⟩
  rw [hn1] at HU hL
  rw [hn2] at HV
  obtain ⟨b, hb⟩ : ∃ b, decide (l = k) = b := ⟨_, rfl⟩
  rw [hb, hn1, hn2]
  have HB := Lib.hid (show _ ∧ _ ∧ _ from ⟨hb, hn1, hn2⟩)
  have hni : (n1 : Int) ≤ 140737488355328 := by omega
  clear hlM hkM hb hn1 hn2 hL
  by_cases hne : n1 = n2
  · subst hne
    go_enter Try.func192, Try.ntmps192
    go_wp2_with fail
    go_loopg [5, 13] n1 (fun gg s5 s13 wr => ∃ i : Nat, i + gg = n1 ∧ s13 = .int .i64 (i : Int) ∧ Hid (l.take i = k.take i) ∧ Hid (Below w.heap.size w wr))
    case atStart => exact ⟨0, by omega, rfl, Lib.hid (by rw [List.take_zero, List.take_zero]), Lib.hid (Below.refl _ _)⟩
    case round =>
      obtain ⟨i, him, rfl, heq, hinv⟩ := hrel
      by_cases hi : i < n1
      · obtain ⟨x, hx⟩ : ∃ x, l[i]? = some x := ⟨_, List.getElem?_eq_getElem (by have := HB.out.2.1; omega)⟩
        obtain ⟨y, hy⟩ : ∃ y, k[i]? = some y := ⟨_, List.getElem?_eq_getElem (by have := HB.out.2.2; omega)⟩
        have hxM := HU.out.2 x (List.mem_of_getElem? hx)
        have hyM := HV.out.2 y (List.mem_of_getElem? hy)
        obtain ⟨gx, ox, cx', hu, hgx, hcx⟩ := (HU.out.1.below hinv.out).elem hx
        simp only [Value.slice.injEq] at hu
        obtain ⟨rfl, -, -⟩ := hu
        obtain ⟨gy, oy, cy', hu, hgy, hcy⟩ := (HV.out.1.below hinv.out).elem hy
        simp only [Value.slice.injEq] at hu
        obtain ⟨rfl, -, -⟩ := hu
        have HX := Lib.hid (show _ ∧ _ from ⟨hx, hy⟩)
        clear hx hy
        have hlt : (i : Int) < (n1 : Int) := by omega
        by_cases hxy : x = y
        · subst hxy
          have q1 : ∀ wx, (Op.equalIn 10000 31 (.agg (W4 x)) (.agg (W4 x))).run Try.prog wx = .ok true wx := fun wx => by rw [eqU hxM hyM, decide_eq_true rfl]
          have hnext := Lib.hid (take_app_eq HX.out.1 HX.out.2 heq.out rfl)
          clear hxM hyM HX heq
          go_upto_region 6 with (fail)
          let L : List Sp := []
          refine wp_region_six (shs L) (look6 L) (None_) (by kernel_rfl) (by kernel_rfl) (mk_St L [] [] (by kernel_rfl) (by kernel_rfl) trivial (by simp)) ?_
          intro QQ hQ
          -- 0: t0
          refine stepK rfl (by kernel_rfl) (fun K hK => ?_); go_simp
          apply Exists.intro; apply And.intro; (focus (intro wk hk; go_simp; exact ⟨rfl, rfl⟩)); refine hK _ _ ?_; clear hK K
          -- 1: t5
          refine stepK rfl (by kernel_rfl) (fun K hK => ?_); go_simp
          apply Exists.intro; apply And.intro; (focus (intro wk hk; go_simp; exact ⟨rfl, rfl⟩)); refine hK _ _ ?_; clear hK K
          -- 2: indexAddr<23> t16[t17]
          refine stepK rfl (by kernel_rfl) (fun K hK => ?_); go_simp
          apply Exists.intro; apply And.intro; (focus (intro wk hk; go_simp; exact ⟨rfl, rfl⟩)); refine hK _ _ ?_; clear hK K
          -- 3: load<31> *t18
          refine stepK rfl (by kernel_rfl) (fun K hK => ?_); go_simp
          apply Exists.intro; apply And.intro; (focus exact kLoadA rfl rfl aggT31 hcx rfl hgx id); refine hK _ _ ?_; clear hK K
          -- 4: t1
          refine stepK rfl (by kernel_rfl) (fun K hK => ?_); go_simp
          apply Exists.intro; apply And.intro; (focus (intro wk hk; go_simp; exact ⟨rfl, rfl⟩)); refine hK _ _ ?_; clear hK K
          -- 5: t5
          refine stepK rfl (by kernel_rfl) (fun K hK => ?_); go_simp
          apply Exists.intro; apply And.intro; (focus (intro wk hk; go_simp; exact ⟨rfl, rfl⟩)); refine hK _ _ ?_; clear hK K
          -- 6: indexAddr<23> t20[t21]
          refine stepK rfl (by kernel_rfl) (fun K hK => ?_); go_simp
          apply Exists.intro; apply And.intro; (focus (intro wk hk; go_simp; exact ⟨rfl, rfl⟩)); refine hK _ _ ?_; clear hK K
          -- 7: load<31> *t22
          refine stepK rfl (by kernel_rfl) (fun K hK => ?_); go_simp
          apply Exists.intro; apply And.intro; (focus exact kLoadA rfl rfl aggT31 hcy rfl hgy id); refine hK _ _ ?_; clear hK K
          -- 8: neq<31> t19, t23
          refine stepK rfl (by kernel_rfl) (fun K hK => ?_); go_simp
          apply Exists.intro; apply And.intro; (focus (intro wk hk; go_simp; exact ⟨rfl, rfl⟩)); refine hK _ _ ?_; clear hK K
          refine stepN ?_
          refine hQ _ _ ?_
          intro w1 hT hG hF
          have hl1 := Lib.hid (hinv.out.trans (hT.undrew.below.mono hinv.out.size))
          clear hT hG hF hQ QQ L hcx hcy hinv q1
          go_wp2_with fail
          go_roundg (gk - 1)
          case measure => omega
          case rel => exact ⟨i + 1, by omega, by go_num, hnext, hl1⟩
        · have q1 : ∀ wx, (Op.equalIn 10000 31 (.agg (W4 x)) (.agg (W4 y))).run Try.prog wx = .ok false wx := fun wx => by rw [eqU hxM hyM, decide_eq_false hxy]
          have hbf : b = false := by rw [← HB.out.1]; exact decide_eq_false (get_ne HX.out.1 HX.out.2 hxy)
          subst hbf
          clear hxM hyM HX heq hxy
          go_upto_region 6 with (fail)
          let L : List Sp := []
          refine wp_region_six (shs L) (look6 L) (None_) (by kernel_rfl) (by kernel_rfl) (mk_St L [] [] (by kernel_rfl) (by kernel_rfl) trivial (by simp)) ?_
          intro QQ hQ
          -- 0: t0
          refine stepK rfl (by kernel_rfl) (fun K hK => ?_); go_simp
          apply Exists.intro; apply And.intro; (focus (intro wk hk; go_simp; exact ⟨rfl, rfl⟩)); refine hK _ _ ?_; clear hK K
          -- 1: t5
          refine stepK rfl (by kernel_rfl) (fun K hK => ?_); go_simp
          apply Exists.intro; apply And.intro; (focus (intro wk hk; go_simp; exact ⟨rfl, rfl⟩)); refine hK _ _ ?_; clear hK K
          -- 2: indexAddr<23> t16[t17]
          refine stepK rfl (by kernel_rfl) (fun K hK => ?_); go_simp
          apply Exists.intro; apply And.intro; (focus (intro wk hk; go_simp; exact ⟨rfl, rfl⟩)); refine hK _ _ ?_; clear hK K
          -- 3: load<31> *t18
          refine stepK rfl (by kernel_rfl) (fun K hK => ?_); go_simp
          apply Exists.intro; apply And.intro; (focus exact kLoadA rfl rfl aggT31 hcx rfl hgx id); refine hK _ _ ?_; clear hK K
          -- 4: t1
          refine stepK rfl (by kernel_rfl) (fun K hK => ?_); go_simp
          apply Exists.intro; apply And.intro; (focus (intro wk hk; go_simp; exact ⟨rfl, rfl⟩)); refine hK _ _ ?_; clear hK K
          -- 5: t5
          refine stepK rfl (by kernel_rfl) (fun K hK => ?_); go_simp
          apply Exists.intro; apply And.intro; (focus (intro wk hk; go_simp; exact ⟨rfl, rfl⟩)); refine hK _ _ ?_; clear hK K
          -- 6: indexAddr<23> t20[t21]
          refine stepK rfl (by kernel_rfl) (fun K hK => ?_); go_simp
          apply Exists.intro; apply And.intro; (focus (intro wk hk; go_simp; exact ⟨rfl, rfl⟩)); refine hK _ _ ?_; clear hK K
          -- 7: load<31> *t22
          refine stepK rfl (by kernel_rfl) (fun K hK => ?_); go_simp
          apply Exists.intro; apply And.intro; (focus exact kLoadA rfl rfl aggT31 hcy rfl hgy id); refine hK _ _ ?_; clear hK K
          -- 8: neq<31> t19, t23
          refine stepK rfl (by kernel_rfl) (fun K hK => ?_); go_simp
          apply Exists.intro; apply And.intro; (focus (intro wk hk; go_simp; exact ⟨rfl, rfl⟩)); refine hK _ _ ?_; clear hK K
          refine stepN ?_
          refine hQ _ _ ?_
          intro w1 hT hG hF
          have hl1 := Lib.hid (hinv.out.trans (hT.undrew.below.mono hinv.out.size))
          clear hT hG hF hQ QQ L hcx hcy hinv q1
          go_wp2_with fail
          go_ret
          exact ⟨rfl, hl1.out⟩
      · obtain rfl : i = n1 := by omega
        have hlt : ¬ (i : Int) < (i : Int) := by omega
        have hbt : b = true := by
          rw [← HB.out.1]
          have h := heq.out
          rw [List.take_of_length_le (by have := HB.out.2.1; omega), List.take_of_length_le (by have := HB.out.2.2; omega)] at h
          exact decide_eq_true h
        subst hbt
        clear heq
        go_wp2_with fail
        go_ret
        exact ⟨rfl, hinv.out⟩
  · have hd : ¬ (n1 : Int) = (n2 : Int) := by omega
    have hbf : b = false := by rw [← HB.out.1]; exact decide_eq_false (fun h => hne (by rw [← HB.out.2.1, ← HB.out.2.2, h]))
    subst hbf
    clear hne
    go_enter Try.func192, Try.ntmps192
    go_wp2_with fail
    go_ret
    exact ⟨rfl, Below.refl _ _⟩
set_option maxRecDepth 100000 in
set_option maxHeartbeats 16000000 in
theorem sameC_at (e f : Ev) (w : World) (he : EvOk w e) (hf : EvOk w f) (hL : e.l.length ≤ 140737488355328) :
    Calls Try.prog 190 #[.agg #[.int .i64 e.k, e.v], .agg #[.int .i64 f.k, f.v]] w fun r w' => r = .returned (.bool (decide (e.key = f.key))) ∧ Below w.heap.size w w' := by
  obtain ⟨b, hb⟩ : ∃ b, decide (e.key = f.key) = b := ⟨_, rfl⟩
  rw [hb]
  have K := Lib.hid fun wx (hb : Below w.heap.size w wx) => usEq_at e.v f.v e.l f.l wx (he.us.below hb) (hf.us.below hb) he.lt hf.lt hL
  clear he hf hL
  obtain ⟨k1, q1, c1, l1⟩ := e
  obtain ⟨k2, q2, c2, l2⟩ := f
  obtain ⟨n1, hn1⟩ : ∃ n, l1.length = n := ⟨_, rfl⟩
  obtain ⟨n2, hn2⟩ : ∃ n, l2.length = n := ⟨_, rfl⟩
  simp only [Ev.v, hn1, hn2] at K ⊢
  by_cases hk : k1 = k2
  · subst hk
    have hb2 : decide (l1 = l2) = b := by rw [← hb]; simp [Ev.key]
    rw [hb2] at K
    clear hb hb2 hn1 hn2
    go_enter Try.func190, Try.ntmps190
    go_wp2_with fail
    have hl : Below w.heap.size w ((w.alloc (.cells #[.int .i64 k1, .slice q1 n1 c1] 26)).alloc (.cells #[.int .i64 k1, .slice q2 n2 c2] 26)) := ((Below.refl _ _).alloc (Nat.le_refl _) _).alloc (by simp) _
    refine (K.out _ hl).mono ?_
    rintro e w1 ⟨rfl, hb⟩
    have H := Lib.hid (hl.trans (hb.mono hl.size))
    clear hl hb K
    go_wp2_with fail
    go_ret
    exact ⟨rfl, H.out⟩
  · have hbf : b = false := by rw [← hb]; exact decide_eq_false (fun h => hk (congrArg Prod.fst h))
    subst hbf
    clear K hb hn1 hn2
    go_enter Try.func190, Try.ntmps190
    go_wp2_with fail
    go_ret
    exact ⟨by first | rfl | (simp; done), by go_grown⟩
set_option maxRecDepth 100000 in
set_option maxHeartbeats 32000000 in
theorem eqfunc_at (u v : Value) (E F : List Ev) (w : World) (hE : Es w u E) (hF : Es w v F) (hEm : E.length ≤ 100000) (hlen : ∀ e ∈ E, e.l.length ≤ 5000) :
    Calls Try.prog 189 #[u, v, .func (.func 190) #[] #[]] w fun r w' => r = .returned (.bool (sameE E F)) ∧ Below w.heap.size w w' := by
  have HC := Lib.hid (show _ ∧ _ from ⟨hE, hF⟩)
  obtain ⟨q1, c1, rfl, -, -⟩ := hE
  obtain ⟨q2, c2, rfl, -, -⟩ := hF
  obtain ⟨n1, hn1⟩ : ∃ n, E.length = n := ⟨_, rfl⟩
  obtain ⟨n2, hn2⟩ : ∃ n, F.length = n := ⟨_, rfl⟩
  obtain ⟨b, hb⟩ : ∃ b, sameE E F = b := ⟨_, rfl⟩
  rw [hb, hn1, hn2]
  have hni : (n1 : Int) ≤ 100000 := by omega
  have HB := Lib.hid (show _ ∧ _ ∧ _ ∧ _ from ⟨hb, hn1, hn2, hlen⟩)
  rw [hn1, hn2] at HC
  clear hb hn1 hn2 hEm hlen
  by_cases hne : n1 = n2
  case neg =>
    have hd : ¬ (n1 : Int) = (n2 : Int) := by omega
    have hbf : b = false := by rw [← HB.out.1]; exact decide_eq_false (fun h => hne (by rw [← HB.out.2.1, ← HB.out.2.2.1]; have := congrArg List.length h; simpa using this))
    subst hbf
    clear hne HC
    go_enter Try.func189, Try.ntmps189
    go_wp2_with fail
    go_ret
    exact ⟨rfl, Below.refl _ _⟩
  subst hne
  go_enter Try.func189, Try.ntmps189
  go_wp2_with fail
  go_loopg [7, 17] n1 (fun gg s7 s17 wr => ∃ i : Nat, i + gg = n1 ∧ s17 = .int .i64 (i : Int) ∧ Hid ((E.map Ev.key).take i = (F.map Ev.key).take i) ∧ Hid (Below w.heap.size w wr))
  case atStart => exact ⟨0, by omega, rfl, Lib.hid (by rw [List.take_zero, List.take_zero]), Lib.hid (Below.refl _ _)⟩
  case round =>
    obtain ⟨i, him, rfl, heq, hinv⟩ := hrel
    by_cases hi : i < n1
    · obtain ⟨e, hee⟩ : ∃ e, E[i]? = some e := ⟨_, List.getElem?_eq_getElem (by have := HB.out.2.1; omega)⟩
      obtain ⟨f, hff⟩ : ∃ f, F[i]? = some f := ⟨_, List.getElem?_eq_getElem (by have := HB.out.2.2.1; omega)⟩
      obtain ⟨g1, o1, c1', hu, hg1, hok1, hcs1⟩ := HC.out.1.get hinv.out hee
      simp only [Value.slice.injEq] at hu
      obtain ⟨rfl, -, -⟩ := hu
      obtain ⟨g2, o2, c2', hu, hg2, hok2, hcs2⟩ := HC.out.2.get hinv.out hff
      simp only [Value.slice.injEq] at hu
      obtain ⟨rfl, -, -⟩ := hu
      have hle := HB.out.2.2.2 e (List.mem_of_getElem? hee)
      have hke : (E.map Ev.key)[i]? = some e.key := by rw [List.getElem?_map, hee]; rfl
      have hkf : (F.map Ev.key)[i]? = some f.key := by rw [List.getElem?_map, hff]; rfl
      have hgo := Lib.hid (show (e.key = f.key → (E.map Ev.key).take (i + 1) = (F.map Ev.key).take (i + 1)) ∧ (e.key ≠ f.key → b = false) from ⟨fun h => take_app_eq hke hkf heq.out h, fun h => by rw [← HB.out.1]; exact decide_eq_false (get_ne hke hkf h)⟩)
      clear hee hff hke hkf heq
      have hlt : (i : Int) < (n1 : Int) := by omega
      have k0 := Lib.hid fun wx (hb : Below wr.heap.size wr wx) => sameC_at e f wx (hok1.below hb) (hok2.below hb) (by omega)
      obtain ⟨d, hd⟩ : ∃ d, decide (e.key = f.key) = d := ⟨_, rfl⟩
      rw [hd] at k0
      have hd' := Lib.hid hd
      clear hok1 hok2 hle hd
      obtain ⟨k1, qe1, ce1, le1⟩ := e
      obtain ⟨ne1, hne1⟩ : ∃ ne, le1.length = ne := ⟨_, rfl⟩
      simp only [Ev.v, hne1] at hcs1 k0
      obtain ⟨k2, qe2, ce2, le2⟩ := f
      obtain ⟨ne2, hne2⟩ : ∃ ne, le2.length = ne := ⟨_, rfl⟩
      simp only [Ev.v, hne2] at hcs2 k0
      clear hne1 hne2
      go_upto_region 5 with (fail)
      let L : List Sp := [sA 3 26 [5] #[.int .i64 0, .slice none 0 0], sT 5 3 26 [2] (fun g => aggOf g 2)]
      refine wp_region_six0 (shs L) (look6 L) (None_) (by kernel_rfl) (by kernel_rfl) (mk_St L [] [] (by kernel_rfl) (by kernel_rfl) ⟨ok_A, ok_T aggOf_congr, trivial⟩ (by simp)) ?_
      intro QQ hQ
      -- 0: t17
      refine stepK rfl (by kernel_rfl) (fun K hK => ?_); go_simp
      apply Exists.intro; apply And.intro; (focus (intro wk hk; go_simp; exact ⟨rfl, rfl⟩)); refine hK _ _ ?_; clear hK K
      -- 1: indexAddr<77> t15[t17]
      refine stepK rfl (by kernel_rfl) (fun K hK => ?_); go_simp
      apply Exists.intro; apply And.intro; (focus (intro wk hk; go_simp; exact ⟨rfl, rfl⟩)); refine hK _ _ ?_; clear hK K
      -- 2: load<26> *t20
      refine stepK rfl (by kernel_rfl) (fun K hK => ?_); go_simp
      apply Exists.intro; apply And.intro; (focus exact kLoadE rfl rfl aggT26 hcs1 rfl hg1 id); refine hK _ _ ?_; clear hK K
      -- 3: alloc<26>
      refine stepS _ rfl (by kernel_rfl) (fun K hK => ?_); go_simp
      refine ⟨?_, ?_⟩
      · intro wk hk hg hu; go_simp; exact left_A rfl rfl
      rintro ⟨v3, lo3, hi3⟩ hlo3 hhi3 ⟨e3, f3⟩
      replace e3 : v3 = .pointer (some ⟨lo3, 0, none⟩) := e3; replace f3 : hi3 = lo3 + 1 := f3; replace hlo3 : _ ≤ lo3 := hlo3; subst e3; subst f3
      refine hK _ _ ?_; clear hK K
      -- 4: assign t19
      refine stepK rfl (by kernel_rfl) (fun K hK => ?_); go_simp
      apply Exists.intro; apply And.intro; (focus (intro wk hk; go_simp; exact ⟨rfl, rfl⟩)); refine hK _ _ ?_; clear hK K
      -- 5: store<26> *t8 = t21
      refine stepS _ rfl (by kernel_rfl) (fun K hK => ?_); go_simp
      refine ⟨?_, ?_⟩
      · exact sStoreT rfl rfl rfl rfl rfl rfl rfl (by kernel_rfl) rfl (by kernel_rfl) (by decide) aggOf_congr
      rintro ⟨v5, lo5, hi5⟩ - - (rfl : v5 = undef)
      refine hK _ _ ?_; clear hK K
      refine stepN ?_
      refine hQ _ _ ?_
      intro w1 hT hG hF
      have hbw1 := hT.below
      have r8 : Row w1 lo3 26 (#[.int .i64 k1, .slice qe1 ne1 ce1]) := (hF 5 _ rfl rfl (by decide)).2
      clear hT hG hF hQ QQ L
      have hcs2' : ∀ j v, [Value.int .i64 k2, .slice qe2 ne2 ce2][j]? = some v → w1.cell? ⟨g2, o2 + i * 2 + j, none⟩ = some v := fun j v hj => (World.cell?_of_block (hbw1.block g2 hg2)).trans (hcs2 j v hj)
      have hg2' : g2 < w1.heap.size := Nat.lt_of_lt_of_le hg2 hbw1.size
      have HW1 := Lib.hid hbw1
      clear hbw1 hcs1 hcs2 hg1 hg2
      go_upto_region 6 with (fail)
      let L : List Sp := [sA 4 26 [5] #[.int .i64 0, .slice none 0 0], sT 5 4 26 [3] (fun g => aggOf g 3)]
      refine wp_region_six0 (shs L) (look6 L) (None_) (by kernel_rfl) (by kernel_rfl) (mk_St L [] [] (by kernel_rfl) (by kernel_rfl) ⟨ok_A, ok_T aggOf_congr, trivial⟩ (by simp)) ?_
      intro QQ hQ
      -- 0: t1
      refine stepK rfl (by kernel_rfl) (fun K hK => ?_); go_simp
      apply Exists.intro; apply And.intro; (focus (intro wk hk; go_simp; exact ⟨rfl, rfl⟩)); refine hK _ _ ?_; clear hK K
      -- 1: t7
      refine stepK rfl (by kernel_rfl) (fun K hK => ?_); go_simp
      apply Exists.intro; apply And.intro; (focus (intro wk hk; go_simp; exact ⟨rfl, rfl⟩)); refine hK _ _ ?_; clear hK K
      -- 2: indexAddr<77> t22[t23]
      refine stepK rfl (by kernel_rfl) (fun K hK => ?_); go_simp
      apply Exists.intro; apply And.intro; (focus (intro wk hk; go_simp; exact ⟨rfl, rfl⟩)); refine hK _ _ ?_; clear hK K
      -- 3: load<26> *t24
      refine stepK rfl (by kernel_rfl) (fun K hK => ?_); go_simp
      apply Exists.intro; apply And.intro; (focus exact kLoadE rfl rfl aggT26 hcs2' rfl hg2' id); refine hK _ _ ?_; clear hK K
      -- 4: alloc<26>
      refine stepS _ rfl (by kernel_rfl) (fun K hK => ?_); go_simp
      refine ⟨?_, ?_⟩
      · intro wk hk hg hu; go_simp; exact left_A rfl rfl
      rintro ⟨v4, lo4, hi4⟩ hlo4 hhi4 ⟨e4, f4⟩
      replace e4 : v4 = .pointer (some ⟨lo4, 0, none⟩) := e4; replace f4 : hi4 = lo4 + 1 := f4; replace hlo4 : _ ≤ lo4 := hlo4; subst e4; subst f4
      refine hK _ _ ?_; clear hK K
      -- 5: store<26> *t9 = t25
      refine stepS _ rfl (by kernel_rfl) (fun K hK => ?_); go_simp
      refine ⟨?_, ?_⟩
      · exact sStoreT rfl rfl rfl rfl rfl rfl rfl (by kernel_rfl) rfl (by kernel_rfl) (by decide) aggOf_congr
      rintro ⟨v5, lo5, hi5⟩ - - (rfl : v5 = undef)
      refine hK _ _ ?_; clear hK K
      refine stepN ?_
      refine hQ _ _ ?_
      intro w2 hT hG hF
      have hbw2 := hT.below
      have r9 : Row w2 lo4 26 (#[.int .i64 k2, .slice qe2 ne2 ce2]) := (hF 5 _ rfl rfl (by decide)).2
      clear hT hG hF hQ QQ L
      have r8 := r8.below hbw2 r8.lt
      have d0 := r8.cell 0
      have d1 := r8.cell 1
      have d2 := r9.cell 0
      have d3 := r9.cell 1
      have hb02 := HW1.out.trans (hbw2.mono HW1.out.size)
      have k9 := Lib.hid (k0.out w2 hb02)
      have hl2 := Lib.hid (hinv.out.trans (hb02.mono hinv.out.size))
      have hs2 := Nat.le_trans hinv.out.size hb02.size
      clear hbw2 HW1 hcs2' r8 r9 k0 hb02 hinv
      go_wp2_with fail
      refine k9.out.mono ?_
      rintro r w3 ⟨rfl, hb3⟩
      have hl3 := Lib.hid (hl2.out.trans (hb3.mono hs2))
      clear k9 hb3 hl2 d0 d1 d2 d3
      cases d
      · have hbf : b = false := hgo.out.2 (of_decide_eq_false hd'.out)
        subst hbf
        go_wp2_with fail
        go_ret
        exact ⟨rfl, hl3.out⟩
      · have hnx := Lib.hid (hgo.out.1 (of_decide_eq_true hd'.out))
        go_wp2_with fail
        go_roundg (gk - 1)
        case measure => omega
        case rel => exact ⟨i + 1, by omega, by go_num, hnx, hl3⟩
    · obtain rfl : i = n1 := by omega
      have hlt : ¬ (i : Int) < (i : Int) := by omega
      have hbt : b = true := by
        rw [← HB.out.1]
        have h := heq.out
        rw [List.take_of_length_le (by rw [List.length_map]; have := HB.out.2.1; omega), List.take_of_length_le (by rw [List.length_map]; have := HB.out.2.2.1; omega)] at h
        exact decide_eq_true h
      subst hbt
      clear heq
      go_wp2_with fail
      go_ret
      exact ⟨rfl, hinv.out⟩
set_option maxRecDepth 100000 in
set_option maxHeartbeats 32000000 in
theorem refsame_at (u v : Value) (E F : List Ev) (w : World) (hE : Es w u E) (hF : Es w v F) (hEm : E.length ≤ 100000) (hlen : ∀ e ∈ E, e.l.length ≤ 5000) :
    Calls Try.prog 78 #[u, v] w fun r w' => r = .returned (.bool (sameE E F)) ∧ Below w.heap.size w w' := by
  have HC := Lib.hid (show _ ∧ _ from ⟨hE, hF⟩)
  obtain ⟨q1, c1, rfl, -, -⟩ := hE
  obtain ⟨q2, c2, rfl, -, -⟩ := hF
  obtain ⟨n1, hn1⟩ : ∃ n, E.length = n := ⟨_, rfl⟩
  obtain ⟨n2, hn2⟩ : ∃ n, F.length = n := ⟨_, rfl⟩
  obtain ⟨b, hb⟩ : ∃ b, sameE E F = b := ⟨_, rfl⟩
  rw [hb, hn1, hn2]
  have hni : (n1 : Int) ≤ 100000 := by omega
  have HB := Lib.hid (show _ ∧ _ ∧ _ ∧ _ from ⟨hb, hn1, hn2, hlen⟩)
  rw [hn1, hn2] at HC
  clear hb hn1 hn2 hEm hlen
  by_cases hne : n1 = n2
  case neg =>
    have hd : ¬ (n1 : Int) = (n2 : Int) := by omega
    have hbf : b = false := by rw [← HB.out.1]; exact decide_eq_false (fun h => hne (by rw [← HB.out.2.1, ← HB.out.2.2.1]; have := congrArg List.length h; simpa using this))
    subst hbf
    clear hne HC
    go_enter Try.func78, Try.ntmps78
    go_wp2_with fail
    go_ret
    exact ⟨rfl, Below.refl _ _⟩
  subst hne
  go_enter Try.func78, Try.ntmps78
  go_wp2_with fail
  go_loopg [5, 13] n1 (fun gg s5 s13 wr => ∃ i : Nat, i + gg = n1 ∧ s13 = .int .i64 (i : Int) ∧ Hid ((E.map Ev.key).take i = (F.map Ev.key).take i) ∧ Hid (Below w.heap.size w wr))
  case atStart => exact ⟨0, by omega, rfl, Lib.hid (by rw [List.take_zero, List.take_zero]), Lib.hid (Below.refl _ _)⟩
  case round =>
    obtain ⟨i, him, rfl, heq, hinv⟩ := hrel
    by_cases hi : i < n1
    · obtain ⟨e, hee⟩ : ∃ e, E[i]? = some e := ⟨_, List.getElem?_eq_getElem (by have := HB.out.2.1; omega)⟩
      obtain ⟨f, hff⟩ : ∃ f, F[i]? = some f := ⟨_, List.getElem?_eq_getElem (by have := HB.out.2.2.1; omega)⟩
      obtain ⟨g1, o1, c1', hu, hg1, hok1, hcs1⟩ := HC.out.1.get hinv.out hee
      simp only [Value.slice.injEq] at hu
      obtain ⟨rfl, -, -⟩ := hu
      obtain ⟨g2, o2, c2', hu, hg2, hok2, hcs2⟩ := HC.out.2.get hinv.out hff
      simp only [Value.slice.injEq] at hu
      obtain ⟨rfl, -, -⟩ := hu
      have hle := HB.out.2.2.2 e (List.mem_of_getElem? hee)
      have hke : (E.map Ev.key)[i]? = some e.key := by rw [List.getElem?_map, hee]; rfl
      have hkf : (F.map Ev.key)[i]? = some f.key := by rw [List.getElem?_map, hff]; rfl
      have hgo := Lib.hid (show (e.key = f.key → (E.map Ev.key).take (i + 1) = (F.map Ev.key).take (i + 1)) ∧ (e.key ≠ f.key → b = false) from ⟨fun h => take_app_eq hke hkf heq.out h, fun h => by rw [← HB.out.1]; exact decide_eq_false (get_ne hke hkf h)⟩)
      clear hee hff hke hkf heq
      have hlt : (i : Int) < (n1 : Int) := by omega
      have k0 := Lib.hid fun wx (hb : Below wr.heap.size wr wx) => usRef_at e.v f.v e.l f.l wx (hok1.us.below hb) (hok2.us.below hb) hok1.lt hok2.lt (by omega)
      clear hok1 hok2 hle
      obtain ⟨k1, qe1, ce1, le1⟩ := e
      obtain ⟨ne1, hne1⟩ : ∃ ne, le1.length = ne := ⟨_, rfl⟩
      simp only [Ev.v, hne1] at hcs1 k0
      obtain ⟨k2, qe2, ce2, le2⟩ := f
      obtain ⟨ne2, hne2⟩ : ∃ ne, le2.length = ne := ⟨_, rfl⟩
      simp only [Ev.v, hne2] at hcs2 k0
      clear hne1 hne2
      have cag1 := hcs1 0 _ rfl
      have cbg1 := hcs1 1 _ rfl
      have cag2 := hcs2 0 _ rfl
      have cbg2 := hcs2 1 _ rfl
      rw [Nat.add_zero] at cag1 cag2
      clear hcs1 hcs2
      by_cases hk12 : k1 = k2
      · subst hk12
        obtain ⟨d, hd⟩ : ∃ d, decide (le1 = le2) = d := ⟨_, rfl⟩
        rw [hd] at k0
        have hd' := Lib.hid hd
        clear hd
        go_upto_region 6 with (fail)
        let L : List Sp := [sV 22 [] [] (fun u => u = .bool d)]
        refine wp_region_six (shs L) (look6 L) (None_) (by kernel_rfl) (by kernel_rfl) (mk_St L [] [] (by kernel_rfl) (by kernel_rfl) ⟨ok_V ⟨_, rfl⟩, trivial⟩ (by simp)) ?_
        intro QQ hQ
        -- 0: t0
        refine stepK rfl (by kernel_rfl) (fun K hK => ?_); go_simp
        apply Exists.intro; apply And.intro; (focus (intro wk hk; go_simp; exact ⟨rfl, rfl⟩)); refine hK _ _ ?_; clear hK K
        -- 1: t5
        refine stepK rfl (by kernel_rfl) (fun K hK => ?_); go_simp
        apply Exists.intro; apply And.intro; (focus (intro wk hk; go_simp; exact ⟨rfl, rfl⟩)); refine hK _ _ ?_; clear hK K
        -- 2: indexAddr<77> t16[t17]
        refine stepK rfl (by kernel_rfl) (fun K hK => ?_); go_simp
        apply Exists.intro; apply And.intro; (focus (intro wk hk; go_simp; exact ⟨rfl, rfl⟩)); refine hK _ _ ?_; clear hK K
        -- 3: fieldAddr<26> t18.0
        refine stepK rfl (by kernel_rfl) (fun K hK => ?_); go_simp
        apply Exists.intro; apply And.intro; (focus (intro wk hk; go_simp; exact ⟨rfl, rfl⟩)); refine hK _ _ ?_; clear hK K
        -- 4: load<3> *t19
        refine stepK rfl (by kernel_rfl) (fun K hK => ?_); go_simp
        apply Exists.intro; apply And.intro; (focus (intro wk hk; have cc : wk.cell? ⟨g1, o1 + i * 2, none⟩ = some (.int .i64 k1) := (by first | exact (World.cell?_of_block (hk.undrew.below.block _ hg1)).trans (cag1) | exact (World.cell?_of_block (hk.below.block _ hg1)).trans (cag1)); go_simp; exact ⟨rfl, rfl⟩)); refine hK _ _ ?_; clear hK K
        -- 5: t1
        refine stepK rfl (by kernel_rfl) (fun K hK => ?_); go_simp
        apply Exists.intro; apply And.intro; (focus (intro wk hk; go_simp; exact ⟨rfl, rfl⟩)); refine hK _ _ ?_; clear hK K
        -- 6: t5
        refine stepK rfl (by kernel_rfl) (fun K hK => ?_); go_simp
        apply Exists.intro; apply And.intro; (focus (intro wk hk; go_simp; exact ⟨rfl, rfl⟩)); refine hK _ _ ?_; clear hK K
        -- 7: indexAddr<77> t21[t22]
        refine stepK rfl (by kernel_rfl) (fun K hK => ?_); go_simp
        apply Exists.intro; apply And.intro; (focus (intro wk hk; go_simp; exact ⟨rfl, rfl⟩)); refine hK _ _ ?_; clear hK K
        -- 8: fieldAddr<26> t23.0
        refine stepK rfl (by kernel_rfl) (fun K hK => ?_); go_simp
        apply Exists.intro; apply And.intro; (focus (intro wk hk; go_simp; exact ⟨rfl, rfl⟩)); refine hK _ _ ?_; clear hK K
        -- 9: load<3> *t24
        refine stepK rfl (by kernel_rfl) (fun K hK => ?_); go_simp
        apply Exists.intro; apply And.intro; (focus (intro wk hk; have cc : wk.cell? ⟨g2, o2 + i * 2, none⟩ = some (.int .i64 k1) := (by first | exact (World.cell?_of_block (hk.undrew.below.block _ hg2)).trans (cag2) | exact (World.cell?_of_block (hk.below.block _ hg2)).trans (cag2)); go_simp; exact ⟨rfl, rfl⟩)); refine hK _ _ ?_; clear hK K
        -- 10: neq<3> t20, t25
        refine stepK rfl (by kernel_rfl) (fun K hK => ?_); go_simp
        apply Exists.intro; apply And.intro; (focus (intro wk hk; go_simp; exact ⟨rfl, rfl⟩)); refine hK _ _ ?_; clear hK K
        -- 11: t26
        refine stepK rfl (by kernel_rfl) (fun K hK => ?_); go_simp
        apply Exists.intro; apply And.intro; (focus (intro wk hk; go_simp; exact ⟨rfl, rfl⟩)); refine hK _ _ ?_; clear hK K
        -- 12: t0
        refine stepK rfl (by kernel_rfl) (fun K hK => ?_); go_simp
        first | (refine hK _ _ ?_; clear hK K) | (apply Exists.intro; apply And.intro; (focus (intro wk hk; go_simp; exact ⟨rfl, rfl⟩)); refine hK _ _ ?_; clear hK K)
        -- 13: t5
        refine stepK rfl (by kernel_rfl) (fun K hK => ?_); go_simp
        first | (refine hK _ _ ?_; clear hK K) | (apply Exists.intro; apply And.intro; (focus (intro wk hk; go_simp; exact ⟨rfl, rfl⟩)); refine hK _ _ ?_; clear hK K)
        -- 14: indexAddr<77> t28[t29]
        refine stepK rfl (by kernel_rfl) (fun K hK => ?_); go_simp
        first | (refine hK _ _ ?_; clear hK K) | (apply Exists.intro; apply And.intro; (focus (intro wk hk; go_simp; exact ⟨rfl, rfl⟩)); refine hK _ _ ?_; clear hK K)
        -- 15: fieldAddr<26> t30.1
        refine stepK rfl (by kernel_rfl) (fun K hK => ?_); go_simp
        first | (refine hK _ _ ?_; clear hK K) | (apply Exists.intro; apply And.intro; (focus (intro wk hk; go_simp; exact ⟨rfl, rfl⟩)); refine hK _ _ ?_; clear hK K)
        -- 16: load<23> *t31
        refine stepK rfl (by kernel_rfl) (fun K hK => ?_); go_simp
        first | (refine hK _ _ ?_; clear hK K) | (apply Exists.intro; apply And.intro; (focus (intro wk hk; have cc : wk.cell? ⟨g1, o1 + i * 2 + 1, none⟩ = some (.slice qe1 ne1 ce1) := (by first | exact (World.cell?_of_block (hk.undrew.below.block _ hg1)).trans (cbg1) | exact (World.cell?_of_block (hk.below.block _ hg1)).trans (cbg1)); go_simp; exact ⟨rfl, rfl⟩)); refine hK _ _ ?_; clear hK K)
        -- 17: t1
        refine stepK rfl (by kernel_rfl) (fun K hK => ?_); go_simp
        first | (refine hK _ _ ?_; clear hK K) | (apply Exists.intro; apply And.intro; (focus (intro wk hk; go_simp; exact ⟨rfl, rfl⟩)); refine hK _ _ ?_; clear hK K)
        -- 18: t5
        refine stepK rfl (by kernel_rfl) (fun K hK => ?_); go_simp
        first | (refine hK _ _ ?_; clear hK K) | (apply Exists.intro; apply And.intro; (focus (intro wk hk; go_simp; exact ⟨rfl, rfl⟩)); refine hK _ _ ?_; clear hK K)
        -- 19: indexAddr<77> t33[t34]
        refine stepK rfl (by kernel_rfl) (fun K hK => ?_); go_simp
        first | (refine hK _ _ ?_; clear hK K) | (apply Exists.intro; apply And.intro; (focus (intro wk hk; go_simp; exact ⟨rfl, rfl⟩)); refine hK _ _ ?_; clear hK K)
        -- 20: fieldAddr<26> t35.1
        refine stepK rfl (by kernel_rfl) (fun K hK => ?_); go_simp
        first | (refine hK _ _ ?_; clear hK K) | (apply Exists.intro; apply And.intro; (focus (intro wk hk; go_simp; exact ⟨rfl, rfl⟩)); refine hK _ _ ?_; clear hK K)
        -- 21: load<23> *t36
        refine stepK rfl (by kernel_rfl) (fun K hK => ?_); go_simp
        first | (refine hK _ _ ?_; clear hK K) | (apply Exists.intro; apply And.intro; (focus (intro wk hk; have cc : wk.cell? ⟨g2, o2 + i * 2 + 1, none⟩ = some (.slice qe2 ne2 ce2) := (by first | exact (World.cell?_of_block (hk.undrew.below.block _ hg2)).trans (cbg2) | exact (World.cell?_of_block (hk.below.block _ hg2)).trans (cbg2)); go_simp; exact ⟨rfl, rfl⟩)); refine hK _ _ ?_; clear hK K)
        -- 22: call F192(t32, t37)
        refine stepS _ rfl (by kernel_rfl) (fun K hK => ?_); go_simp
        refine ⟨?_, ?_⟩
        · intro wk hk hg hu; go_simp; refine upon_enter ((k0.out _ hk.undrew.below).mono ?_); rintro e w' ⟨rfl, hb⟩; exact ⟨_, rfl, left_V (p := fun u => u = .bool d) rfl (hb) rfl⟩
        rintro ⟨v22, lo22, hi22⟩ - - (rfl : v22 = _)
        refine hK _ _ ?_; clear hK K
        -- 23: not<4> t38
        refine stepK rfl (by kernel_rfl) (fun K hK => ?_); go_simp
        first | (refine hK _ _ ?_; clear hK K) | (apply Exists.intro; apply And.intro; (focus (intro wk hk; go_simp; exact ⟨rfl, rfl⟩)); refine hK _ _ ?_; clear hK K)
        -- 24: pick t27 ? true : t39
        refine stepK rfl (by kernel_rfl) (fun K hK => ?_); go_simp
        apply Exists.intro; apply And.intro; (focus (intro wk hk; go_simp; exact ⟨rfl, rfl⟩)); refine hK _ _ ?_; clear hK K
        refine stepN ?_
        refine hQ _ _ ?_
        intro w1 hT hG hF
        have hl1 := Lib.hid (hinv.out.trans (hT.undrew.below.mono hinv.out.size))
        clear hT hG hF hQ QQ L hinv k0 cag1 cbg1 cag2 cbg2
        cases d
        · have hbf : b = false := hgo.out.2 (fun h => of_decide_eq_false hd'.out (congrArg Prod.snd h))
          subst hbf
          go_wp2_with fail
          go_ret
          exact ⟨rfl, hl1.out⟩
        · have hnx := Lib.hid (hgo.out.1 (by rw [Ev.key, Ev.key, of_decide_eq_true hd'.out]))
          go_wp2_with fail
          go_roundg (gk - 1)
          case measure => omega
          case rel => exact ⟨i + 1, by omega, by go_num, hnx, hl1⟩
      · have hbf : b = false := hgo.out.2 (fun h => hk12 (congrArg Prod.fst h))
        subst hbf
        go_upto_region 6 with (fail)
        let L : List Sp := []
        refine wp_region_six (shs L) (look6 L) (None_) (by kernel_rfl) (by kernel_rfl) (mk_St L [] [] (by kernel_rfl) (by kernel_rfl) trivial (by simp)) ?_
        intro QQ hQ
        -- 0: t0
        refine stepK rfl (by kernel_rfl) (fun K hK => ?_); go_simp
        apply Exists.intro; apply And.intro; (focus (intro wk hk; go_simp; exact ⟨rfl, rfl⟩)); refine hK _ _ ?_; clear hK K
        -- 1: t5
        refine stepK rfl (by kernel_rfl) (fun K hK => ?_); go_simp
        apply Exists.intro; apply And.intro; (focus (intro wk hk; go_simp; exact ⟨rfl, rfl⟩)); refine hK _ _ ?_; clear hK K
        -- 2: indexAddr<77> t16[t17]
        refine stepK rfl (by kernel_rfl) (fun K hK => ?_); go_simp
        apply Exists.intro; apply And.intro; (focus (intro wk hk; go_simp; exact ⟨rfl, rfl⟩)); refine hK _ _ ?_; clear hK K
        -- 3: fieldAddr<26> t18.0
        refine stepK rfl (by kernel_rfl) (fun K hK => ?_); go_simp
        apply Exists.intro; apply And.intro; (focus (intro wk hk; go_simp; exact ⟨rfl, rfl⟩)); refine hK _ _ ?_; clear hK K
        -- 4: load<3> *t19
        refine stepK rfl (by kernel_rfl) (fun K hK => ?_); go_simp
        apply Exists.intro; apply And.intro; (focus (intro wk hk; have cc : wk.cell? ⟨g1, o1 + i * 2, none⟩ = some (.int .i64 k1) := (by first | exact (World.cell?_of_block (hk.undrew.below.block _ hg1)).trans (cag1) | exact (World.cell?_of_block (hk.below.block _ hg1)).trans (cag1)); go_simp; exact ⟨rfl, rfl⟩)); refine hK _ _ ?_; clear hK K
        -- 5: t1
        refine stepK rfl (by kernel_rfl) (fun K hK => ?_); go_simp
        apply Exists.intro; apply And.intro; (focus (intro wk hk; go_simp; exact ⟨rfl, rfl⟩)); refine hK _ _ ?_; clear hK K
        -- 6: t5
        refine stepK rfl (by kernel_rfl) (fun K hK => ?_); go_simp
        apply Exists.intro; apply And.intro; (focus (intro wk hk; go_simp; exact ⟨rfl, rfl⟩)); refine hK _ _ ?_; clear hK K
        -- 7: indexAddr<77> t21[t22]
        refine stepK rfl (by kernel_rfl) (fun K hK => ?_); go_simp
        apply Exists.intro; apply And.intro; (focus (intro wk hk; go_simp; exact ⟨rfl, rfl⟩)); refine hK _ _ ?_; clear hK K
        -- 8: fieldAddr<26> t23.0
        refine stepK rfl (by kernel_rfl) (fun K hK => ?_); go_simp
        apply Exists.intro; apply And.intro; (focus (intro wk hk; go_simp; exact ⟨rfl, rfl⟩)); refine hK _ _ ?_; clear hK K
        -- 9: load<3> *t24
        refine stepK rfl (by kernel_rfl) (fun K hK => ?_); go_simp
        apply Exists.intro; apply And.intro; (focus (intro wk hk; have cc : wk.cell? ⟨g2, o2 + i * 2, none⟩ = some (.int .i64 k2) := (by first | exact (World.cell?_of_block (hk.undrew.below.block _ hg2)).trans (cag2) | exact (World.cell?_of_block (hk.below.block _ hg2)).trans (cag2)); go_simp; exact ⟨rfl, rfl⟩)); refine hK _ _ ?_; clear hK K
        -- 10: neq<3> t20, t25
        refine stepK rfl (by kernel_rfl) (fun K hK => ?_); go_simp
        apply Exists.intro; apply And.intro; (focus (intro wk hk; go_simp; exact ⟨rfl, rfl⟩)); refine hK _ _ ?_; clear hK K
        -- 11: t26
        refine stepK rfl (by kernel_rfl) (fun K hK => ?_); go_simp
        apply Exists.intro; apply And.intro; (focus (intro wk hk; go_simp; exact ⟨rfl, rfl⟩)); refine hK _ _ ?_; clear hK K
        -- 12: t0
        refine stepK rfl (by kernel_rfl) (fun K hK => ?_); go_simp
        first | (refine hK _ _ ?_; clear hK K) | (apply Exists.intro; apply And.intro; (focus (intro wk hk; go_simp; exact ⟨rfl, rfl⟩)); refine hK _ _ ?_; clear hK K)
        -- 13: t5
        refine stepK rfl (by kernel_rfl) (fun K hK => ?_); go_simp
        first | (refine hK _ _ ?_; clear hK K) | (apply Exists.intro; apply And.intro; (focus (intro wk hk; go_simp; exact ⟨rfl, rfl⟩)); refine hK _ _ ?_; clear hK K)
        -- 14: indexAddr<77> t28[t29]
        refine stepK rfl (by kernel_rfl) (fun K hK => ?_); go_simp
        first | (refine hK _ _ ?_; clear hK K) | (apply Exists.intro; apply And.intro; (focus (intro wk hk; go_simp; exact ⟨rfl, rfl⟩)); refine hK _ _ ?_; clear hK K)
        -- 15: fieldAddr<26> t30.1
        refine stepK rfl (by kernel_rfl) (fun K hK => ?_); go_simp
        first | (refine hK _ _ ?_; clear hK K) | (apply Exists.intro; apply And.intro; (focus (intro wk hk; go_simp; exact ⟨rfl, rfl⟩)); refine hK _ _ ?_; clear hK K)
        -- 16: load<23> *t31
        refine stepK rfl (by kernel_rfl) (fun K hK => ?_); go_simp
        first | (refine hK _ _ ?_; clear hK K) | (apply Exists.intro; apply And.intro; (focus (intro wk hk; have cc : wk.cell? ⟨g1, o1 + i * 2 + 1, none⟩ = some (.slice qe1 ne1 ce1) := (by first | exact (World.cell?_of_block (hk.undrew.below.block _ hg1)).trans (cbg1) | exact (World.cell?_of_block (hk.below.block _ hg1)).trans (cbg1)); go_simp; exact ⟨rfl, rfl⟩)); refine hK _ _ ?_; clear hK K)
        -- 17: t1
        refine stepK rfl (by kernel_rfl) (fun K hK => ?_); go_simp
        first | (refine hK _ _ ?_; clear hK K) | (apply Exists.intro; apply And.intro; (focus (intro wk hk; go_simp; exact ⟨rfl, rfl⟩)); refine hK _ _ ?_; clear hK K)
        -- 18: t5
        refine stepK rfl (by kernel_rfl) (fun K hK => ?_); go_simp
        first | (refine hK _ _ ?_; clear hK K) | (apply Exists.intro; apply And.intro; (focus (intro wk hk; go_simp; exact ⟨rfl, rfl⟩)); refine hK _ _ ?_; clear hK K)
        -- 19: indexAddr<77> t33[t34]
        refine stepK rfl (by kernel_rfl) (fun K hK => ?_); go_simp
        first | (refine hK _ _ ?_; clear hK K) | (apply Exists.intro; apply And.intro; (focus (intro wk hk; go_simp; exact ⟨rfl, rfl⟩)); refine hK _ _ ?_; clear hK K)
        -- 20: fieldAddr<26> t35.1
        refine stepK rfl (by kernel_rfl) (fun K hK => ?_); go_simp
        first | (refine hK _ _ ?_; clear hK K) | (apply Exists.intro; apply And.intro; (focus (intro wk hk; go_simp; exact ⟨rfl, rfl⟩)); refine hK _ _ ?_; clear hK K)
        -- 21: load<23> *t36
        refine stepK rfl (by kernel_rfl) (fun K hK => ?_); go_simp
        first | (refine hK _ _ ?_; clear hK K) | (apply Exists.intro; apply And.intro; (focus (intro wk hk; have cc : wk.cell? ⟨g2, o2 + i * 2 + 1, none⟩ = some (.slice qe2 ne2 ce2) := (by first | exact (World.cell?_of_block (hk.undrew.below.block _ hg2)).trans (cbg2) | exact (World.cell?_of_block (hk.below.block _ hg2)).trans (cbg2)); go_simp; exact ⟨rfl, rfl⟩)); refine hK _ _ ?_; clear hK K)
        -- 22: call F192(t32, t37)
        refine stepK rfl (by kernel_rfl) (fun K hK => ?_); go_simp
        first | (refine hK _ _ ?_; clear hK K) | (apply Exists.intro; apply And.intro; (focus (intro wk hk; go_simp; exact ⟨rfl, rfl⟩)); refine hK _ _ ?_; clear hK K)
        -- 23: not<4> t38
        refine stepK rfl (by kernel_rfl) (fun K hK => ?_); go_simp
        first | (refine hK _ _ ?_; clear hK K) | (apply Exists.intro; apply And.intro; (focus (intro wk hk; go_simp; exact ⟨rfl, rfl⟩)); refine hK _ _ ?_; clear hK K)
        -- 24: pick t27 ? true : t39
        refine stepK rfl (by kernel_rfl) (fun K hK => ?_); go_simp
        apply Exists.intro; apply And.intro; (focus (intro wk hk; go_simp; exact ⟨rfl, rfl⟩)); refine hK _ _ ?_; clear hK K
        refine stepN ?_
        refine hQ _ _ ?_
        intro w1 hT hG hF
        have hl1 := Lib.hid (hinv.out.trans (hT.undrew.below.mono hinv.out.size))
        clear hT hG hF hQ QQ L hinv k0 cag1 cbg1 cag2 cbg2
        go_wp2_with fail
        go_ret
        exact ⟨rfl, hl1.out⟩
    · obtain rfl : i = n1 := by omega
      have hlt : ¬ (i : Int) < (i : Int) := by omega
      have hbt : b = true := by
        rw [← HB.out.1]
        have h := heq.out
        rw [List.take_of_length_le (by rw [List.length_map]; have := HB.out.2.1; omega), List.take_of_length_le (by rw [List.length_map]; have := HB.out.2.2.1; omega)] at h
        exact decide_eq_true h
      subst hbt
      clear heq
      go_wp2_with fail
      go_ret
      exact ⟨rfl, hinv.out⟩
set_option maxRecDepth 100000 in
theorem same_at (u v : Value) (E F : List Ev) (w : World) (hE : Es w u E) (hF : Es w v F) (hEm : E.length ≤ 100000) (hlen : ∀ e ∈ E, e.l.length ≤ 5000) :
    Calls Try.prog 77 #[u, v] w fun r w' => r = .returned (.bool (sameE E F)) ∧ Below w.heap.size w w' := by
  have K := Lib.hid (eqfunc_at u v E F w hE hF hEm hlen)
  obtain ⟨b, hb⟩ : ∃ b, sameE E F = b := ⟨_, rfl⟩
  rw [hb] at K ⊢
  clear hE hF hEm hlen hb
  go_enter Try.func77, Try.ntmps77
  go_wp2_with fail
  refine K.out.mono ?_
  rintro e w1 ⟨rfl, hb⟩
  clear K
  go_wp2_with fail
  go_ret
  exact ⟨rfl, hb⟩
end Go.Proofs.Ytpdenhmkpiafiaa
