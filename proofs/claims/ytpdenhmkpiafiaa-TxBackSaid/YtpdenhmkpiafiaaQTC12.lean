/-
  What the statement rests on, part 13: EvSame OctHash TxPut TxPut2 TxBytes TxLives TxRows TxWays.
-/
import Derived.Test.YtpdenhmkpiafiaaQTC1
import Derived.Test.YtpdenhmkpiafiaaQTC3
import Derived.Test.YtpdenhmkpiafiaaQTC4
import Derived.Test.YtpdenhmkpiafiaaQTC6
import Derived.Test.YtpdenhmkpiafiaaQTC7
import Derived.Test.YtpdenhmkpiafiaaQTC8
import Derived.Test.YtpdenhmkpiafiaaQTC9
import Derived.Test.YtpdenhmkpiafiaaQTC10
namespace Go.Proofs.Ytpdenhmkpiafiaa
open Go Go.RowKit K6
def Ev.key (e : Ev) : Int × List Nat := (e.k, e.l)
theorem take_app_eq {α : Type} {l k : List α} {i : Nat} {x y : α} (hx : l[i]? = some x) (hy : k[i]? = some y) (h : l.take i = k.take i) (hxy : x = y) : l.take (i + 1) = k.take (i + 1) := by
  rw [List.take_add_one, List.take_add_one, hx, hy, h, hxy]
theorem get_ne {α : Type} {l k : List α} {i : Nat} {x y : α} (hx : l[i]? = some x) (hy : k[i]? = some y) (hxy : x ≠ y) : l ≠ k := fun h => hxy (by rw [h, hy] at hx; exact (Option.some.inj hx).symm)
set_option maxRecDepth 100000 in
set_option maxHeartbeats 16000000 in
theorem usEq_at (u v : Value) (l k : List Nat) (w : World) (hu : Us w u l) (hv : Us w v k) (hlM : ∀ a ∈ l, a < M) (hkM : ∀ a ∈ k, a < M) (hL : l.length ≤ 140737488355328) :
    Calls Try.prog 191 #[u, v] w fun r w' => r = .returned (.bool (decide (l = k))) ∧ Below w.heap.size w w' := by
  have HU := Lib.hid (show _ ∧ _ from ⟨hu, hlM⟩)
  have HV := Lib.hid (show _ ∧ _ from ⟨hv, hkM⟩)
  obtain ⟨q1, c1, rfl, -, -⟩ := hu
  obtain ⟨q2, c2, rfl, -, -⟩ := hv
  obtain ⟨n1, hn1⟩ : ∃ n, l.length = n := ⟨_, rfl⟩
  obtain ⟨n2, hn2⟩ : ∃ n, k.length = n := ⟨_, rfl⟩
  rw [hn1] at HU hL
  rw [hn2] at HV
  obtain ⟨b, hb⟩ : ∃ b, decide (l = k) = b := ⟨_, rfl⟩
  rw [hb, hn1, hn2]
  have HB := Lib.hid (show _ ∧ _ ∧ _ from ⟨hb, hn1, hn2⟩)
  have hni : (n1 : Int) ≤ 140737488355328 := by omega
  clear hlM hkM hb hn1 hn2 hL
  by_cases hne : n1 = n2
  · subst hne
    go_enter Try.func191, Try.ntmps191
    go_wp2_with fail
    go_loopg [5, 13] n1 (fun gg s5 s13 wr => ∃ i : Nat, i + gg = n1 ∧ s13 = .int .i64 (i : Int) ∧ Hid (l.take i = k.take i) ∧ Hid (Below w.heap.size w wr))
    case atStart => exact ⟨0, by omega, rfl, Lib.hid (by rw [List.take_zero, List.take_zero]), Lib.hid (Below.refl _ _)⟩
    case round =>
      obtain ⟨i, him, rfl, heq, hinv⟩ := hrel
      by_cases hi : i < n1
      · obtain ⟨x, hx⟩ : ∃ x, l[i]? = some x := ⟨_, List.getElem?_eq_getElem (by have := HB.out.2.1; omega)⟩
        obtain ⟨y, hy⟩ : ∃ y, k[i]? = some y := ⟨_, List.getElem?_eq_getElem (by have := HB.out.2.2; omega)⟩
        have hxM := HU.out.2 x (List.mem_of_getElem? hx)
        have hyM := HV.out.2 y (List.mem_of_getElem? hy)
        obtain ⟨gx, ox, cx', hu, hgx, hcx⟩ := (HU.out.1.below hinv.out).elem hx
        simp only [Value.slice.injEq] at hu
        obtain ⟨rfl, -, -⟩ := hu
        obtain ⟨gy, oy, cy', hu, hgy, hcy⟩ := (HV.out.1.below hinv.out).elem hy
        simp only [Value.slice.injEq] at hu
        obtain ⟨rfl, -, -⟩ := hu
        have HX := Lib.hid (show _ ∧ _ from ⟨hx, hy⟩)
        clear hx hy
        have hlt : (i : Int) < (n1 : Int) := by omega
        by_cases hxy : x = y
        · subst hxy
          have q1 : ∀ wx, (Op.equalIn 10000 31 (.agg (W4 x)) (.agg (W4 x))).run Try.prog wx = .ok true wx := fun wx => by rw [eqU hxM hyM, decide_eq_true rfl]
          have hnext := Lib.hid (take_app_eq HX.out.1 HX.out.2 heq.out rfl)
          clear hxM hyM HX heq
          go_upto_region 6 with (fail)
          let L : List Sp := []
          refine wp_region_six (shs L) (look6 L) (None_) (by kernel_rfl) (by kernel_rfl) (mk_St L [] [] (by kernel_rfl) (by kernel_rfl) trivial (by simp)) ?_
          intro QQ hQ
          refine stepK rfl (by kernel_rfl) (fun K hK => ?_); go_simp
          apply Exists.intro; apply And.intro; (focus (intro wk hk; go_simp; exact ⟨rfl, rfl⟩)); refine hK _ _ ?_; clear hK K
          refine stepK rfl (by kernel_rfl) (fun K hK => ?_); go_simp
          apply Exists.intro; apply And.intro; (focus (intro wk hk; go_simp; exact ⟨rfl, rfl⟩)); refine hK _ _ ?_; clear hK K
          refine stepK rfl (by kernel_rfl) (fun K hK => ?_); go_simp
          apply Exists.intro; apply And.intro; (focus (intro wk hk; go_simp; exact ⟨rfl, rfl⟩)); refine hK _ _ ?_; clear hK K
          refine stepK rfl (by kernel_rfl) (fun K hK => ?_); go_simp
          apply Exists.intro; apply And.intro; (focus exact kLoadA rfl rfl aggT31 hcx rfl hgx id); refine hK _ _ ?_; clear hK K
          refine stepK rfl (by kernel_rfl) (fun K hK => ?_); go_simp
          apply Exists.intro; apply And.intro; (focus (intro wk hk; go_simp; exact ⟨rfl, rfl⟩)); refine hK _ _ ?_; clear hK K
          refine stepK rfl (by kernel_rfl) (fun K hK => ?_); go_simp
          apply Exists.intro; apply And.intro; (focus (intro wk hk; go_simp; exact ⟨rfl, rfl⟩)); refine hK _ _ ?_; clear hK K
          refine stepK rfl (by kernel_rfl) (fun K hK => ?_); go_simp
          apply Exists.intro; apply And.intro; (focus (intro wk hk; go_simp; exact ⟨rfl, rfl⟩)); refine hK _ _ ?_; clear hK K
          refine stepK rfl (by kernel_rfl) (fun K hK => ?_); go_simp
          apply Exists.intro; apply And.intro; (focus exact kLoadA rfl rfl aggT31 hcy rfl hgy id); refine hK _ _ ?_; clear hK K
          refine stepK rfl (by kernel_rfl) (fun K hK => ?_); go_simp
          apply Exists.intro; apply And.intro; (focus (intro wk hk; go_simp; exact ⟨rfl, rfl⟩)); refine hK _ _ ?_; clear hK K
          refine stepN ?_
          refine hQ _ _ ?_
          intro w1 hT hG hF
          have hl1 := Lib.hid (hinv.out.trans (hT.undrew.below.mono hinv.out.size))
          clear hT hG hF hQ QQ L hcx hcy hinv q1
          go_wp2_with fail
          go_roundg (gk - 1)
          case measure => omega
          case rel => exact ⟨i + 1, by omega, by go_num, hnext, hl1⟩
        · have q1 : ∀ wx, (Op.equalIn 10000 31 (.agg (W4 x)) (.agg (W4 y))).run Try.prog wx = .ok false wx := fun wx => by rw [eqU hxM hyM, decide_eq_false hxy]
          have hbf : b = false := by rw [← HB.out.1]; exact decide_eq_false (get_ne HX.out.1 HX.out.2 hxy)
          subst hbf
          clear hxM hyM HX heq hxy
          go_upto_region 6 with (fail)
          let L : List Sp := []
          refine wp_region_six (shs L) (look6 L) (None_) (by kernel_rfl) (by kernel_rfl) (mk_St L [] [] (by kernel_rfl) (by kernel_rfl) trivial (by simp)) ?_
          intro QQ hQ
          refine stepK rfl (by kernel_rfl) (fun K hK => ?_); go_simp
          apply Exists.intro; apply And.intro; (focus (intro wk hk; go_simp; exact ⟨rfl, rfl⟩)); refine hK _ _ ?_; clear hK K
          refine stepK rfl (by kernel_rfl) (fun K hK => ?_); go_simp
          apply Exists.intro; apply And.intro; (focus (intro wk hk; go_simp; exact ⟨rfl, rfl⟩)); refine hK _ _ ?_; clear hK K
          refine stepK rfl (by kernel_rfl) (fun K hK => ?_); go_simp
          apply Exists.intro; apply And.intro; (focus (intro wk hk; go_simp; exact ⟨rfl, rfl⟩)); refine hK _ _ ?_; clear hK K
          refine stepK rfl (by kernel_rfl) (fun K hK => ?_); go_simp
          apply Exists.intro; apply And.intro; (focus exact kLoadA rfl rfl aggT31 hcx rfl hgx id); refine hK _ _ ?_; clear hK K
          refine stepK rfl (by kernel_rfl) (fun K hK => ?_); go_simp
          apply Exists.intro; apply And.intro; (focus (intro wk hk; go_simp; exact ⟨rfl, rfl⟩)); refine hK _ _ ?_; clear hK K
          refine stepK rfl (by kernel_rfl) (fun K hK => ?_); go_simp
          apply Exists.intro; apply And.intro; (focus (intro wk hk; go_simp; exact ⟨rfl, rfl⟩)); refine hK _ _ ?_; clear hK K
          refine stepK rfl (by kernel_rfl) (fun K hK => ?_); go_simp
          apply Exists.intro; apply And.intro; (focus (intro wk hk; go_simp; exact ⟨rfl, rfl⟩)); refine hK _ _ ?_; clear hK K
          refine stepK rfl (by kernel_rfl) (fun K hK => ?_); go_simp
          apply Exists.intro; apply And.intro; (focus exact kLoadA rfl rfl aggT31 hcy rfl hgy id); refine hK _ _ ?_; clear hK K
          refine stepK rfl (by kernel_rfl) (fun K hK => ?_); go_simp
          apply Exists.intro; apply And.intro; (focus (intro wk hk; go_simp; exact ⟨rfl, rfl⟩)); refine hK _ _ ?_; clear hK K
          refine stepN ?_
          refine hQ _ _ ?_
          intro w1 hT hG hF
          have hl1 := Lib.hid (hinv.out.trans (hT.undrew.below.mono hinv.out.size))
          clear hT hG hF hQ QQ L hcx hcy hinv q1
          go_wp2_with fail
          go_ret
          exact ⟨rfl, hl1.out⟩
      · obtain rfl : i = n1 := by omega
        have hlt : ¬ (i : Int) < (i : Int) := by omega
        have hbt : b = true := by
          rw [← HB.out.1]
          have h := heq.out
          rw [List.take_of_length_le (by have := HB.out.2.1; omega), List.take_of_length_le (by have := HB.out.2.2; omega)] at h
          exact decide_eq_true h
        subst hbt
        clear heq
        go_wp2_with fail
        go_ret
        exact ⟨rfl, hinv.out⟩
  · have hd : ¬ (n1 : Int) = (n2 : Int) := by omega
    have hbf : b = false := by rw [← HB.out.1]; exact decide_eq_false (fun h => hne (by rw [← HB.out.2.1, ← HB.out.2.2, h]))
    subst hbf
    clear hne
    go_enter Try.func191, Try.ntmps191
    go_wp2_with fail
    go_ret
    exact ⟨rfl, Below.refl _ _⟩
set_option maxRecDepth 100000 in
set_option maxHeartbeats 16000000 in
theorem usRef_at (u v : Value) (l k : List Nat) (w : World) (hu : Us w u l) (hv : Us w v k) (hlM : ∀ a ∈ l, a < M) (hkM : ∀ a ∈ k, a < M) (hL : l.length ≤ 140737488355328) :
    Calls Try.prog 192 #[u, v] w fun r w' => r = .returned (.bool (decide (l = k))) ∧ Below w.heap.size w w' := by
  have HU := Lib.hid (show _ ∧ _ from ⟨hu, hlM⟩)
  have HV := Lib.hid (show _ ∧ _ from ⟨hv, hkM⟩)
  obtain ⟨q1, c1, rfl, -, -⟩ := hu
  obtain ⟨q2, c2, rfl, -, -⟩ := hv
  obtain ⟨n1, hn1⟩ : ∃ n, l.length = n := ⟨_, rfl⟩
  obtain ⟨n2, hn2⟩ : ∃ n, k.length = n := ⟨_, rfl⟩
  rw [hn1] at HU hL
  rw [hn2] at HV
  obtain ⟨b, hb⟩ : ∃ b, decide (l = k) = b := ⟨_, rfl⟩
  rw [hb, hn1, hn2]
  have HB := Lib.hid (show _ ∧ _ ∧ _ from ⟨hb, hn1, hn2⟩)
  have hni : (n1 : Int) ≤ 140737488355328 := by omega
  clear hlM hkM hb hn1 hn2 hL
  by_cases hne : n1 = n2
  · subst hne
    go_enter Try.func192, Try.ntmps192
    go_wp2_with fail
    go_loopg [5, 13] n1 (fun gg s5 s13 wr => ∃ i : Nat, i + gg = n1 ∧ s13 = .int .i64 (i : Int) ∧ Hid (l.take i = k.take i) ∧ Hid (Below w.heap.size w wr))
    case atStart => exact ⟨0, by omega, rfl, Lib.hid (by rw [List.take_zero, List.take_zero]), Lib.hid (Below.refl _ _)⟩
    case round =>
      obtain ⟨i, him, rfl, heq, hinv⟩ := hrel
      by_cases hi : i < n1
      · obtain ⟨x, hx⟩ : ∃ x, l[i]? = some x := ⟨_, List.getElem?_eq_getElem (by have := HB.out.2.1; omega)⟩
        obtain ⟨y, hy⟩ : ∃ y, k[i]? = some y := ⟨_, List.getElem?_eq_getElem (by have := HB.out.2.2; omega)⟩
        have hxM := HU.out.2 x (List.mem_of_getElem? hx)
        have hyM := HV.out.2 y (List.mem_of_getElem? hy)
        obtain ⟨gx, ox, cx', hu, hgx, hcx⟩ := (HU.out.1.below hinv.out).elem hx
        simp only [Value.slice.injEq] at hu
        obtain ⟨rfl, -, -⟩ := hu
        obtain ⟨gy, oy, cy', hu, hgy, hcy⟩ := (HV.out.1.below hinv.out).elem hy
        simp only [Value.slice.injEq] at hu
        obtain ⟨rfl, -, -⟩ := hu
        have HX := Lib.hid (show _ ∧ _ from ⟨hx, hy⟩)
        clear hx hy
        have hlt : (i : Int) < (n1 : Int) := by omega
        by_cases hxy : x = y
        · subst hxy
          have q1 : ∀ wx, (Op.equalIn 10000 31 (.agg (W4 x)) (.agg (W4 x))).run Try.prog wx = .ok true wx := fun wx => by rw [eqU hxM hyM, decide_eq_true rfl]
          have hnext := Lib.hid (take_app_eq HX.out.1 HX.out.2 heq.out rfl)
          clear hxM hyM HX heq
          go_upto_region 6 with (fail)
          let L : List Sp := []
          refine wp_region_six (shs L) (look6 L) (None_) (by kernel_rfl) (by kernel_rfl) (mk_St L [] [] (by kernel_rfl) (by kernel_rfl) trivial (by simp)) ?_
          intro QQ hQ
          refine stepK rfl (by kernel_rfl) (fun K hK => ?_); go_simp
          apply Exists.intro; apply And.intro; (focus (intro wk hk; go_simp; exact ⟨rfl, rfl⟩)); refine hK _ _ ?_; clear hK K
          refine stepK rfl (by kernel_rfl) (fun K hK => ?_); go_simp
          apply Exists.intro; apply And.intro; (focus (intro wk hk; go_simp; exact ⟨rfl, rfl⟩)); refine hK _ _ ?_; clear hK K
          refine stepK rfl (by kernel_rfl) (fun K hK => ?_); go_simp
          apply Exists.intro; apply And.intro; (focus (intro wk hk; go_simp; exact ⟨rfl, rfl⟩)); refine hK _ _ ?_; clear hK K
          refine stepK rfl (by kernel_rfl) (fun K hK => ?_); go_simp
          apply Exists.intro; apply And.intro; (focus exact kLoadA rfl rfl aggT31 hcx rfl hgx id); refine hK _ _ ?_; clear hK K
          refine stepK rfl (by kernel_rfl) (fun K hK => ?_); go_simp
          apply Exists.intro; apply And.intro; (focus (intro wk hk; go_simp; exact ⟨rfl, rfl⟩)); refine hK _ _ ?_; clear hK K
          refine stepK rfl (by kernel_rfl) (fun K hK => ?_); go_simp
          apply Exists.intro; apply And.intro; (focus (intro wk hk; go_simp; exact ⟨rfl, rfl⟩)); refine hK _ _ ?_; clear hK K
          refine stepK rfl (by kernel_rfl) (fun K hK => ?_); go_simp
          apply Exists.intro; apply And.intro; (focus (intro wk hk; go_simp; exact ⟨rfl, rfl⟩)); refine hK _ _ ?_; clear hK K
          refine stepK rfl (by kernel_rfl) (fun K hK => ?_); go_simp
          apply Exists.intro; apply And.intro; (focus exact kLoadA rfl rfl aggT31 hcy rfl hgy id); refine hK _ _ ?_; clear hK K
          refine stepK rfl (by kernel_rfl) (fun K hK => ?_); go_simp
          apply Exists.intro; apply And.intro; (focus (intro wk hk; go_simp; exact ⟨rfl, rfl⟩)); refine hK _ _ ?_; clear hK K
          refine stepN ?_
          refine hQ _ _ ?_
          intro w1 hT hG hF
          have hl1 := Lib.hid (hinv.out.trans (hT.undrew.below.mono hinv.out.size))
          clear hT hG hF hQ QQ L hcx hcy hinv q1
          go_wp2_with fail
          go_roundg (gk - 1)
          case measure => omega
          case rel => exact ⟨i + 1, by omega, by go_num, hnext, hl1⟩
        · have q1 : ∀ wx, (Op.equalIn 10000 31 (.agg (W4 x)) (.agg (W4 y))).run Try.prog wx = .ok false wx := fun wx => by rw [eqU hxM hyM, decide_eq_false hxy]
          have hbf : b = false := by rw [← HB.out.1]; exact decide_eq_false (get_ne HX.out.1 HX.out.2 hxy)
          subst hbf
          clear hxM hyM HX heq hxy
          go_upto_region 6 with (fail)
          let L : List Sp := []
          refine wp_region_six (shs L) (look6 L) (None_) (by kernel_rfl) (by kernel_rfl) (mk_St L [] [] (by kernel_rfl) (by kernel_rfl) trivial (by simp)) ?_
          intro QQ hQ
          refine stepK rfl (by kernel_rfl) (fun K hK => ?_); go_simp
          apply Exists.intro; apply And.intro; (focus (intro wk hk; go_simp; exact ⟨rfl, rfl⟩)); refine hK _ _ ?_; clear hK K
          refine stepK rfl (by kernel_rfl) (fun K hK => ?_); go_simp
          apply Exists.intro; apply And.intro; (focus (intro wk hk; go_simp; exact ⟨rfl, rfl⟩)); refine hK _ _ ?_; clear hK K
          refine stepK rfl (by kernel_rfl) (fun K hK => ?_); go_simp
          apply Exists.intro; apply And.intro; (focus (intro wk hk; go_simp; exact ⟨rfl, rfl⟩)); refine hK _ _ ?_; clear hK K
          refine stepK rfl (by kernel_rfl) (fun K hK => ?_); go_simp
          apply Exists.intro; apply And.intro; (focus exact kLoadA rfl rfl aggT31 hcx rfl hgx id); refine hK _ _ ?_; clear hK K
          refine stepK rfl (by kernel_rfl) (fun K hK => ?_); go_simp
          apply Exists.intro; apply And.intro; (focus (intro wk hk; go_simp; exact ⟨rfl, rfl⟩)); refine hK _ _ ?_; clear hK K
          refine stepK rfl (by kernel_rfl) (fun K hK => ?_); go_simp
          apply Exists.intro; apply And.intro; (focus (intro wk hk; go_simp; exact ⟨rfl, rfl⟩)); refine hK _ _ ?_; clear hK K
          refine stepK rfl (by kernel_rfl) (fun K hK => ?_); go_simp
          apply Exists.intro; apply And.intro; (focus (intro wk hk; go_simp; exact ⟨rfl, rfl⟩)); refine hK _ _ ?_; clear hK K
          refine stepK rfl (by kernel_rfl) (fun K hK => ?_); go_simp
          apply Exists.intro; apply And.intro; (focus exact kLoadA rfl rfl aggT31 hcy rfl hgy id); refine hK _ _ ?_; clear hK K
          refine stepK rfl (by kernel_rfl) (fun K hK => ?_); go_simp
          apply Exists.intro; apply And.intro; (focus (intro wk hk; go_simp; exact ⟨rfl, rfl⟩)); refine hK _ _ ?_; clear hK K
          refine stepN ?_
          refine hQ _ _ ?_
          intro w1 hT hG hF
          have hl1 := Lib.hid (hinv.out.trans (hT.undrew.below.mono hinv.out.size))
          clear hT hG hF hQ QQ L hcx hcy hinv q1
          go_wp2_with fail
          go_ret
          exact ⟨rfl, hl1.out⟩
      · obtain rfl : i = n1 := by omega
        have hlt : ¬ (i : Int) < (i : Int) := by omega
        have hbt : b = true := by
          rw [← HB.out.1]
          have h := heq.out
          rw [List.take_of_length_le (by have := HB.out.2.1; omega), List.take_of_length_le (by have := HB.out.2.2; omega)] at h
          exact decide_eq_true h
        subst hbt
        clear heq
        go_wp2_with fail
        go_ret
        exact ⟨rfl, hinv.out⟩
  · have hd : ¬ (n1 : Int) = (n2 : Int) := by omega
    have hbf : b = false := by rw [← HB.out.1]; exact decide_eq_false (fun h => hne (by rw [← HB.out.2.1, ← HB.out.2.2, h]))
    subst hbf
    clear hne
    go_enter Try.func192, Try.ntmps192
    go_wp2_with fail
    go_ret
    exact ⟨rfl, Below.refl _ _⟩
end Go.Proofs.Ytpdenhmkpiafiaa
namespace Go.Proofs.Ytpdenhmkpiafiaa
open Go Go.RowKit K6
theorem Bs_row {w : World} {b t n : Nat} {ys : List Int} (h : Row w b t (bv ys).toArray) (hn : ys.length = n) : Bs w (.slice (some ⟨b, 0, none⟩) n n) ys := by
  subst hn
  refine ⟨_, _, rfl, (fun h => (by cases h)), fun a ha j u hj => ?_⟩
  cases ha
  rw [add_at, Nat.zero_add, h.cell]
  simpa using hj
set_option maxRecDepth 100000 in
set_option maxHeartbeats 8000000 in
theorem hash_put (u : Value) (xs hs : List Int) (w : World) (h : Bs w u xs) (hL0 : xs.length ≤ 10000000) (hh : hs.length = 32) :
    Calls Try.prog 42 #[u, .agg (bv hs).toArray] w fun e w' => ∃ v, e = .returned v ∧ Ob w' w.heap.size v (xs ++ hs) ∧ Below w.heap.size w w' := by
  have hL := Lib.hid (show xs.length ≤ 100000000 by omega)
  have hH := Lib.hid hh
  obtain ⟨z3, hz3e⟩ : ∃ z, xs ++ hs = z := ⟨_, rfl⟩
  have hz3 := Lib.hid hz3e
  have hfin := Lib.hid hz3e.symm
  clear hz3e
  have hb0 := h
  clear h hL0 hh
  go_enter Try.func42, Try.ntmps42
  apply wp_seq_eq
  focus
    intro J hJ
    go_wp2_with fail
    exact hJ
  refine wp_abs (Mem w [(w.heap.size, 35, (bv hs).toArray)]) ⟨by go_grown, Row.new_at rfl, trivial⟩ ?_
  intro w0 hM
  obtain ⟨hl, rh, -⟩ := hM
  have hb := hb0.below hl
  clear hb0
  go_upto_region 1 with (fail)
  let L : List Sp := [sQ 1 [] [] [] [3] w0.heap.size xs (fun _ => True), sQ 3 [1] [1] [1] [] w0.heap.size z3 (fun _ => True)]
  refine wp_region_six7 (shs L) (look6 L) (None_) (by kernel_rfl) (by kernel_rfl) (mk_St L [] [] (by kernel_rfl) (by kernel_rfl) ⟨ok_Q ⟨undef, trivial⟩ (by simp), ok_Q ⟨undef, trivial⟩ (by simp), trivial⟩ (by simp)) ?_
  intro QQ hQ
  refine stepK rfl (by kernel_rfl) (fun K hK => ?_); go_simp
  apply Exists.intro; apply And.intro; (focus (intro wk hk; go_simp; exact ⟨rfl, rfl⟩)); refine hK _ _ ?_; clear hK K
  refine stepS _ rfl (by kernel_rfl) (fun K hK => ?_); go_simp
  refine ⟨?_, ?_⟩
  · intro wk hk hg hu; have hb9 := hb.below hk.undrew.below; go_simp; refine upon_enter ((clone_any u xs wk hb9 hL.out).mono ?_); rintro e w' ⟨v, rfl, ho, hbb⟩; exact ⟨_, rfl, left_Qc rfl rfl ho hbb hk.undrew.size trivial⟩
  rintro ⟨v1, lo1, hi1⟩ - - -
  refine hK _ _ ?_; clear hK K
  refine stepK rfl (by kernel_rfl) (fun K hK => ?_); go_simp
  apply Exists.intro; apply And.intro; (focus (intro wk hk; go_simp; exact ⟨rfl, rfl⟩)); refine hK _ _ ?_; clear hK K
  refine stepS _ rfl (by kernel_rfl) (fun K hK => ?_); go_simp
  refine ⟨?_, ?_⟩
  · intro wk hk hg hu; have u1 := hu 1 (show 1 ∈ [1] by decide); have o1 : OwnF 1 [] w0.heap.size (xs) _ wk := u1; have p1 : Ob wk w0.heap.size v1 (xs) := o1.1; have s9 := (Bs_row (K6.Row.tr rh hk.undrew id) hH.out); obtain ⟨v', w', hrun, ho2, hgb, hw⟩ := append_run p1 s9 (by have := hL.out; have := hH.out; omega) hk.undrew.size; rw [run_append_op rfl rfl rfl hrun]; exact left_Qa rfl rfl (by decide) o1.2 hgb (by rw [← hz3.out]; exact ho2) hw trivial
  rintro ⟨v3, lo3, hi3⟩ - - -
  refine hK _ _ ?_; clear hK K
  refine stepK rfl (by kernel_rfl) (fun K hK => ?_); go_simp
  apply Exists.intro; apply And.intro; (focus (intro wk hk; go_simp; exact ⟨rfl, rfl⟩)); refine hK _ _ ?_; clear hK K
  refine stepN ?_
  refine hQ _ _ ?_
  intro w3 hT hG hF
  have hb3 := hT.undrew.below
  have o9 : OwnF 3 [1] w0.heap.size z3 _ w3 := hF 3 _ rfl rfl (by decide)
  have H := Lib.hid (show _ ∧ _ from ⟨(show Ob w3 w0.heap.size v3 z3 from o9.1).base hl.size, hl.trans (hb3.mono hl.size)⟩)
  clear hT hG hF hb3 hQ QQ L o9 hl hb
  go_wp2_with fail
  go_ret
  exact ⟨_, rfl, by rw [← hfin.out]; exact H.out.1, H.out.2⟩
end Go.Proofs.Ytpdenhmkpiafiaa
namespace Go.Proofs.Ytpdenhmkpiafiaa
open Go Go.RowKit K6
theorem bv_arr {x : List Int} (h : x.length = 32) : (bv x).toArray.size = 32 := by rw [List.size_toArray, bv_len]; exact h
theorem bv_arr_one (x : List Int) : (bv x).toArray.all (·.oneCell') = true := by rw [List.all_toArray]; exact bv_all x
theorem W4_one_ (a : Nat) : (W4 a).all (·.oneCell') = true := by kernel_rfl
theorem info35 {Y : Array Value} (h : Y.size = 32) : (Try.prog.info? 35).map (·.size) = some Y.size := by rw [h]; kernel_rfl
theorem info31 {Y : Array Value} (h : Y.size = 4) : (Try.prog.info? 31).map (·.size) = some Y.size := by rw [h]; kernel_rfl
theorem info198 {Y : Array Value} (h : Y.size = 7) : (Try.prog.info? 198).map (·.size) = some Y.size := by rw [h]; kernel_rfl
set_option maxRecDepth 100000 in
set_option maxHeartbeats 16000000 in
theorem putProof_at (u v : Value) (xs : List Int) (l : List (List Int)) (w : World) (hu : Bs w u xs) (hL : xs.length ≤ 4000000) (h : Hs w v l) (hh : ∀ x ∈ l, x.length = 32) (hm1 : l.length ≤ 1000) :
    Calls Try.prog 243 #[u, v] w fun e w' => ∃ x, e = .returned x ∧ Ob w' w.heap.size x (xs ++ prfB l) ∧ Below w.heap.size w w' := by
  have HC1 := Lib.hid (show _ ∧ _ from ⟨h, hh⟩)
  obtain ⟨q, c, rfl, -⟩ := h
  obtain ⟨m, hm⟩ : ∃ m, l.length = m := ⟨_, rfl⟩
  rw [hm] at HC1 hm1
  obtain ⟨P, hP⟩ : ∃ P, xs ++ enc m = P := ⟨_, rfl⟩
  have hPl1 := Lib.hid (show P.length ≤ 4100000 by rw [← hP, List.length_append]; have := enc_len9 (m := m) (by omega); omega)
  have hPe := Lib.hid (show P ++ l.flatMap (fun y : List Int => y) = xs ++ prfB l by unfold prfB; rw [← hP, hm, List.append_assoc])
  have kv := var_any u xs (m : Int) w hu (by omega) (by omega)
  rw [Int.toNat_natCast, hP] at kv
  replace kv := Lib.hid kv
  rw [hm]
  have HM1 := Lib.hid hm
  have hmi : (m : Int) ≤ 1000 := by omega
  obtain ⟨B, hB⟩ : ∃ B, w.heap.size = B := ⟨_, rfl⟩
  clear hu hL hP hh hm
  go_enter Try.func243, Try.ntmps243
  go_wp2_with fail
  refine kv.out.mono ?_
  rintro e w1 ⟨x1, rfl, ho, hb⟩
  rw [hB] at ho
  have H1 := Lib.hid (show _ ∧ _ from ⟨ho, hb⟩)
  clear kv ho hb
  go_wp2_with fail
  go_loopg [0, 13] m (fun gg s0 s13 wr => ∃ i : Nat, i + gg = m ∧ s13 = .int .i64 (i : Int) ∧ Hid (Ob wr B s0 (P ++ (l.take i).flatMap (fun y : List Int => y))) ∧ Hid (Below w.heap.size w wr))
  case atStart => exact ⟨0, by omega, rfl, Lib.hid (by rw [List.take_zero, List.flatMap_nil, List.append_nil]; exact H1.out.1), Lib.hid H1.out.2⟩
  case round =>
    clear H1
    obtain ⟨i1, him1, rfl, hob1, hinv1⟩ := hrel
    by_cases hi : i1 < m
    · obtain ⟨x, hx⟩ : ∃ x, l[i1]? = some x := ⟨_, List.getElem?_eq_getElem (by have := HM1.out; omega)⟩
      obtain ⟨gx, ox, cx', hu, hgx, hcx⟩ := (HC1.out.1.below hinv1.out).get hx
      simp only [Value.slice.injEq] at hu
      obtain ⟨rfl, -, -⟩ := hu
      have hxl := HC1.out.2 x (List.mem_of_getElem? hx)
      have hst := flat_step (fun y : List Int => y) hx P
      obtain ⟨Y0, hY0⟩ : ∃ Z, P ++ (l.take i1).flatMap (fun y : List Int => y) = Z := ⟨_, rfl⟩
      obtain ⟨Z1, hZ1⟩ : ∃ Z, P ++ (l.take (i1 + 1)).flatMap (fun y : List Int => y) = Z := ⟨_, rfl⟩
      have hy0 : Y0.length ≤ 5000000 := by
        rw [← hY0, List.length_append]
        have h1 := flat_le (f := (fun y : List Int => y)) (c := 32) (l := l.take i1) (fun y hy => Nat.le_of_eq (HC1.out.2 y (List.mem_of_mem_take hy)))
        rw [List.length_take] at h1
        have h2 := hPl1.out
        omega
      rw [hY0] at hob1 hst
      rw [hZ1] at hst
      have k4 := fun wx vx (h : Bs wx vx Y0) => hash_put vx Y0 x wx h (by omega) hxl
      have hst2 := hst
      rw [hst2] at k4
      obtain ⟨Y, hY⟩ : ∃ Y, (bv x).toArray = Y := ⟨_, rfl⟩
      have hYsz := bv_arr hxl
      have hYone := bv_arr_one x
      replace hcx : ∀ j v, ((bv x).toArray).toList[j]? = some v → wr.cell? ⟨gx, ox + i1 * 32 + j, none⟩ = some v := hcx
      rw [hY] at k4 hYsz hYone hcx
      have hinf := info35 hYsz
      replace k4 := Lib.hid k4
      replace hZ1 := Lib.hid hZ1
      clear hx hY0 hst hst2 hy0 hxl hY
      have hlt : (i1 : Int) < (m : Int) := by omega
      have hBr : B ≤ wr.heap.size := by have := hinv1.out.size; omega
      go_upto_region 4 with (fail)
      let L : List Sp := [sA 2 35 [3] zr32, sT 3 2 35 [1] (fun g => aggOf g 1)]
      refine wp_region_six0 (shs L) (look6 L) (None_) (by kernel_rfl) (by kernel_rfl) (mk_St L [] [] (by kernel_rfl) (by kernel_rfl) ⟨ok_A, ok_T aggOf_congr, trivial⟩ (by simp)) ?_
      intro QQ hQ
      refine stepK rfl (by kernel_rfl) (fun K hK => ?_); go_simp
      apply Exists.intro; apply And.intro; (focus (intro wk hk; go_simp; exact ⟨rfl, rfl⟩)); refine hK _ _ ?_; clear hK K
      refine stepK rfl (by kernel_rfl) (fun K hK => ?_); go_simp
      apply Exists.intro; apply And.intro; (focus exact kLoadA rfl rfl aggR35 hcx hYsz hgx id); refine hK _ _ ?_; clear hK K
      refine stepS _ rfl (by kernel_rfl) (fun K hK => ?_); go_simp
      refine ⟨?_, ?_⟩
      · intro wk hk hg hu; go_simp; exact left_A rfl rfl
      rintro ⟨v2, lo2, hi2⟩ hlo2 hhi2 ⟨e2, f2⟩
      replace e2 : v2 = .pointer (some ⟨lo2, 0, none⟩) := e2; replace f2 : hi2 = lo2 + 1 := f2; replace hlo2 : _ ≤ lo2 := hlo2; subst e2; subst f2
      refine hK _ _ ?_; clear hK K
      refine stepS _ rfl (by kernel_rfl) (fun K hK => ?_); go_simp
      refine ⟨?_, ?_⟩
      · exact sStoreT rfl rfl rfl rfl rfl rfl rfl hinf hYsz.symm hYone (by decide) aggOf_congr
      rintro ⟨v3, lo3, hi3⟩ - - (rfl : v3 = undef)
      refine hK _ _ ?_; clear hK K
      refine stepN ?_
      refine hQ _ _ ?_
      intro w4 hT hG hF
      have hbw4 := hT.below
      have rY : Row w4 lo2 35 Y := (hF 3 _ rfl rfl (by decide)).2
      clear hT hG hF hQ QQ L hcx hgx
      have ob4 := hob1.out.below hbw4
      have hl4 := Lib.hid (hinv1.out.trans (hbw4.mono hinv1.out.size))
      have hs4 := hbw4.size
      have hB4 : B ≤ w4.heap.size := by omega
      clear hob1 hinv1 hbw4 hYone hinf hs4
      go_upto_region 5 with (fail)
      let L : List Sp := [sF 2 [] [] [] (fun _ => True) (fun x w => Ob w B x.v Z1)]
      refine wp_region_six0 (shs L) (look6 L) (None_) (by kernel_rfl) (by kernel_rfl) (mk_St L [] [] (by kernel_rfl) (by kernel_rfl) ⟨ok_F (any_some _) (fun _ _ _ h hb => Ob.below h hb), trivial⟩ (by simp)) ?_
      intro QQ hQ
      refine stepK rfl (by kernel_rfl) (fun K hK => ?_); go_simp
      apply Exists.intro; apply And.intro; (focus (intro wk hk; go_simp; exact ⟨rfl, rfl⟩)); refine hK _ _ ?_; clear hK K
      refine stepK rfl (by kernel_rfl) (fun K hK => ?_); go_simp
      apply Exists.intro; apply And.intro; (focus exact kLoad rfl rfl aggR35 rY hYsz id); refine hK _ _ ?_; clear hK K
      refine stepS _ rfl (by kernel_rfl) (fun K hK => ?_); go_simp
      refine ⟨?_, ?_⟩
      · intro wk hk hg hu; go_simp; refine upon_enter ((k4.out _ u0 (ob4.below hk.below).bs).mono ?_); rintro e w' ⟨v, rfl, hv, hb9⟩; exact ⟨_, rfl, left_F rfl rfl hb9 trivial (hv.base (by have := hk.size; omega))⟩
      rintro ⟨v2, lo2, hi2⟩ - - -
      refine hK _ _ ?_; clear hK K
      refine stepK rfl (by kernel_rfl) (fun K hK => ?_); go_simp
      apply Exists.intro; apply And.intro; (focus (intro wk hk; go_simp; exact ⟨rfl, rfl⟩)); refine hK _ _ ?_; clear hK K
      refine stepN ?_
      refine hQ _ _ ?_
      intro w5 hT hG hF
      have o5 : Ob w5 B v2 Z1 := hF 2 _ rfl rfl (by decide)
      have hb5 := hT.below
      have H5 := Lib.hid (show Ob w5 B v2 (P ++ (l.take (i1 + 1)).flatMap (fun y : List Int => y)) ∧ Below w.heap.size w w5 from ⟨by rw [hZ1.out]; exact o5, hl4.out.trans (hb5.mono hl4.out.size)⟩)
      clear hT hG hF hQ QQ L k4 ob4 rY o5 hb5 hl4 hYsz hZ1
      go_wp2_with fail
      go_roundg (gk - 1)
      case measure => omega
      case rel => exact ⟨i1 + 1, by omega, by go_num, Lib.hid H5.out.1, Lib.hid H5.out.2⟩
    · obtain rfl : i1 = m := by omega
      have hlt : ¬ (i1 : Int) < (i1 : Int) := by omega
      rw [List.take_of_length_le (by have := HM1.out; omega)] at hob1
      go_wp2_with fail
      go_ret
      exact ⟨_, rfl, by rw [← hPe.out]; exact hob1.out, by first | exact hinv1.out | (rw [hB]; exact hinv1.out) | (rw [← hB]; exact hinv1.out)⟩
end Go.Proofs.Ytpdenhmkpiafiaa
namespace Go.Proofs.Ytpdenhmkpiafiaa
open Go Go.RowKit K6
theorem prf_le' {l : List (List Int)} (h : ∀ y ∈ l, y.length = 32) (hl : l.length ≤ 1000) : (prfB l).length ≤ 32009 := by
  have := prf_le h hl
  omega
theorem enc_le9 {n : Int} (h : I64 n) : (enc n.toNat).length ≤ 9 := enc_len9 (by have := h.2; omega)
theorem lf_le {x : Lf} (hi : I64 x.i) (ht : I64 x.t) (h : ∀ y ∈ x.p, y.length = 32) (hp : x.p.length ≤ 1000) : (lfKB x.key).length ≤ 32100 := by
  unfold lfKB Lf.key
  simp only [List.length_append]
  have h1 := enc_le9 hi
  have h2 := enc_le9 ht
  have h3 := amtL_le x.a
  have h4 := prf_le' h hp
  omega
theorem ix205_0 (a b c d : Int) (w : World) : (Instr.index 205 (.agg #[.int .i64 a, .int .i64 b, .int .i64 c, .int .i64 d]) (.int .i64 0)).run Try.prog w = .ok (.int .i64 a) w := by kernel_rfl
theorem ix205_1 (a b c d : Int) (w : World) : (Instr.index 205 (.agg #[.int .i64 a, .int .i64 b, .int .i64 c, .int .i64 d]) (.int .i64 1)).run Try.prog w = .ok (.int .i64 b) w := by kernel_rfl
theorem ix205_2 (a b c d : Int) (w : World) : (Instr.index 205 (.agg #[.int .i64 a, .int .i64 b, .int .i64 c, .int .i64 d]) (.int .i64 2)).run Try.prog w = .ok (.int .i64 c) w := by kernel_rfl
theorem ix205_3 (a b c d : Int) (w : World) : (Instr.index 205 (.agg #[.int .i64 a, .int .i64 b, .int .i64 c, .int .i64 d]) (.int .i64 3)).run Try.prog w = .ok (.int .i64 d) w := by kernel_rfl
theorem flat_key (l : List Lf) : (l.map Lf.key).flatMap lfKB = l.flatMap fun x => lfKB x.key := by
  induction l with
  | nil => rfl
  | cons x l ih => rw [List.map_cons, List.flatMap_cons, List.flatMap_cons, ih]
set_option maxRecDepth 100000 in
set_option maxHeartbeats 64000000 in
theorem putClaim_at (u : Value) (xs : List Int) (c : Cm) (w : World) (hu : Bs w u xs) (hL : xs.length ≤ 1000000) (hc : CmOk w c) (hp : c.p.length ≤ 50) (hl : c.l.length ≤ 50) (hq : ∀ x ∈ c.l, x.p.length ≤ 50) :
    Calls Try.prog 215 #[u, .agg c.cs.toArray] w fun e w' => ∃ x, e = .returned x ∧ Ob w' w.heap.size x (xs ++ clKB c.key) ∧ Below w.heap.size w w' := by
  have x0 := cA0 c
  have x1 := cA1 c
  have x2 := cA2 c
  have x4 := cA35 hc.tok
  have x5 := cA36 hc.tok
  have x6 := cA37 hc.tok
  have htk := Cm.tok_ hc.tok
  have hbt : (bv c.tok).toArray.size = 32 := bv_arr hc.tok
  have hU := Lib.hid fun wx (hb : Below w.heap.size w wx) => hu.below hb
  obtain ⟨P1, hP1⟩ : ∃ P, xs ++ enc c.r.toNat = P := ⟨_, rfl⟩
  obtain ⟨P2, hP2⟩ : ∃ P, P1 ++ enc c.x.toNat = P := ⟨_, rfl⟩
  obtain ⟨P3, hP3⟩ : ∃ P, P2 ++ enc c.e.toNat = P := ⟨_, rfl⟩
  obtain ⟨P4, hP4⟩ : ∃ P, P3 ++ enc c.z.toNat = P := ⟨_, rfl⟩
  obtain ⟨P5, hP5⟩ : ∃ P, P4 ++ c.tok = P := ⟨_, rfl⟩
  obtain ⟨P6, hP6⟩ : ∃ P, P5 ++ prfB c.p = P := ⟨_, rfl⟩
  obtain ⟨P7, hP7⟩ : ∃ P, P6 ++ enc c.l.length = P := ⟨_, rfl⟩
  have hPe : P7 ++ c.l.flatMap (fun x => lfKB x.key) = xs ++ clKB c.key := by
    unfold clKB Cm.key
    simp only
    rw [flat_key, List.length_map, ← hP7, ← hP6, ← hP5, ← hP4, ← hP3, ← hP2, ← hP1]
    simp only [List.append_assoc]
  have l1 : P1.length ≤ 1000009 := by rw [← hP1, List.length_append]; have := enc_le9 hc.r; omega
  have l2 : P2.length ≤ 1000018 := by rw [← hP2, List.length_append]; have := enc_le9 hc.x; omega
  have l3 : P3.length ≤ 1000027 := by rw [← hP3, List.length_append]; have := enc_le9 hc.e; omega
  have l4 : P4.length ≤ 1000036 := by rw [← hP4, List.length_append]; have := enc_le9 hc.z; omega
  have l5 : P5.length ≤ 1000068 := by rw [← hP5, List.length_append, hc.tok]; omega
  have l6 : P6.length ≤ 1040000 := by rw [← hP6, List.length_append]; have := prf_le' (fun y hy => (hc.h y hy).1) (by omega); omega
  have l7 : P7.length ≤ 1050000 := by rw [← hP7, List.length_append]; have := enc_len9 (m := c.l.length) (by omega); omega
  have k1 := fun wx vx (h : Bs wx vx xs) => var_any vx xs c.r wx h (by omega) hc.r.2
  have k2 := fun wx vx (h : Bs wx vx P1) => var_any vx P1 c.x wx h (by omega) hc.x.2
  have k3 := fun wx vx (h : Bs wx vx P2) => var_any vx P2 c.e wx h (by omega) hc.e.2
  have k4 := fun wx vx (h : Bs wx vx P3) => var_any vx P3 c.z wx h (by omega) hc.z.2
  have k5 := fun wx vx (h : Bs wx vx P4) => hash_put vx P4 c.tok wx h (by omega) hc.tok
  have k6 := fun wx vx (hb : Below w.heap.size w wx) (h : Bs wx vx P5) => putProof_at vx c.pv P5 c.p wx h (by omega) (hc.p.below hb) (fun y hy => (hc.h y hy).1) (by omega)
  have k7 := fun wx vx (h : Bs wx vx P6) => var_any vx P6 (c.l.length : Int) wx h (by omega) (by omega)
  rw [hP1] at k1
  rw [hP2] at k2
  rw [hP3] at k3
  rw [hP4] at k4
  rw [hP5] at k5
  rw [hP6] at k6
  rw [Int.toNat_natCast, hP7] at k7
  unfold Cm.pv at k6
  have HC := hc.l
  unfold Cm.lv at HC
  obtain ⟨tokA, htA⟩ : ∃ x, (bv c.tok).toArray = x := ⟨_, rfl⟩
  rw [htA] at k5 hbt htk
  obtain ⟨cs, hcs⟩ : ∃ x, c.cs.toArray = x := ⟨_, rfl⟩
  rw [hcs] at x0 x1 x2 x4 x5 x6 htk ⊢
  obtain ⟨np, hnp⟩ : ∃ n, c.p.length = n := ⟨_, rfl⟩
  obtain ⟨pq, hpq⟩ : ∃ n, c.pq = n := ⟨_, rfl⟩
  obtain ⟨pc, hpc⟩ : ∃ n, c.pc = n := ⟨_, rfl⟩
  obtain ⟨lq, hlq⟩ : ∃ n, c.lq = n := ⟨_, rfl⟩
  obtain ⟨lc, hlc⟩ : ∃ n, c.lc = n := ⟨_, rfl⟩
  obtain ⟨ll, hll⟩ : ∃ n, c.l = n := ⟨_, rfl⟩
  obtain ⟨m, hm⟩ : ∃ n, c.l.length = n := ⟨_, rfl⟩
  rw [hnp, hpq, hpc] at x4 k6
  rw [hm, hlq, hlc] at x5 HC
  rw [hm] at k7 hl
  rw [hll] at HC hPe hq hm
  obtain ⟨cr, hcr⟩ : ∃ x, c.r = x := ⟨_, rfl⟩
  obtain ⟨cx, hcx⟩ : ∃ x, c.x = x := ⟨_, rfl⟩
  obtain ⟨ce, hce⟩ : ∃ x, c.e = x := ⟨_, rfl⟩
  obtain ⟨cz, hcz⟩ : ∃ x, c.z = x := ⟨_, rfl⟩
  rw [hcr] at x0 k1
  rw [hcx] at x1 k2
  rw [hce] at x2 k3
  rw [hcz] at x6 k4
  replace hPe := Lib.hid hPe
  have HC1 := Lib.hid (show _ ∧ _ ∧ _ ∧ _ from ⟨HC, hq, hm, l7⟩)
  replace k1 := Lib.hid k1
  replace k2 := Lib.hid k2
  replace k3 := Lib.hid k3
  replace k4 := Lib.hid k4
  replace k5 := Lib.hid k5
  replace k6 := Lib.hid k6
  replace k7 := Lib.hid k7
  have hmi : (m : Int) ≤ 50 := by omega
  clear hP1 hP2 hP3 hP4 hP5 hP6 hP7 l1 l2 l3 l4 l5 l6 l7 htA hcs hnp hpq hpc hlq hlc hll hm hcr hcx hce hcz hc hp hl hq HC hL hu
  go_enter Try.func215, Try.ntmps215
  go_upto_region 1 with (fail)
  refine wp_abs (Mem w [(w.heap.size, 114, cs)]) ⟨by go_grown, by (repeat (first | (refine Row.new_at ?_; simp; done) | refine Row.alloc ?_ _)), trivial⟩ ?_
  intro w0 hM
  obtain ⟨hl, r1, -⟩ := hM
  have HR := Lib.hid (show Below w.heap.size w w0 ∧ Row w0 w.heap.size 114 cs from ⟨hl, r1⟩)
  have d0 := (r1.cell 0).trans x0
  have d1 := (r1.cell 1).trans x1
  have d2 := (r1.cell 2).trans x2
  have d6 := (r1.cell 37).trans x6
  clear hl r1
  go_wp2_with fail
  go_loopg [0, 6, 18] 4 (fun gg s0 s6 s18 wr => ∃ i : Nat, i + gg = 4 ∧ s18 = .int .i64 (i : Int) ∧ Hid (Below w.heap.size w wr ∧ Row wr w.heap.size 114 cs) ∧ Hid ((i = 0 → Bs wr s0 xs) ∧ (i = 1 → Bs wr s0 P1) ∧ (i = 2 → Bs wr s0 P2) ∧ (i = 3 → Bs wr s0 P3) ∧ (i = 4 → Ob wr w.heap.size s0 P4)))
  case atStart => exact ⟨0, by omega, rfl, HR, Lib.hid ⟨fun _ => hU.out _ HR.out.1, fun h => absurd h (by decide), fun h => absurd h (by decide), fun h => absurd h (by decide), fun h => absurd h (by decide)⟩⟩
  case round =>
    clear HR d0 d1 d2 d6
    obtain ⟨i, him, rfl, hinv, hP⟩ := hrel
    have hi4 : i = 0 ∨ i = 1 ∨ i = 2 ∨ i = 3 ∨ i = 4 := by omega
    rcases hi4 with rfl | rfl | rfl | rfl | rfl
    · have hlt : (((0 : Nat) : Int) < 4) := by decide
      have b0 := Lib.hid (hP.out.1 rfl)
      have ix := fun wx => ix205_0 cr cx ce cz wx
      clear hP
      go_wp2_with fail
      refine (k1.out _ _ b0.out).mono ?_
      rintro e w2 ⟨x1, rfl, ho, hb⟩
      have H2 := Lib.hid (show Below w.heap.size w w2 ∧ Row w2 w.heap.size 114 cs from ⟨hinv.out.1.trans (hb.mono hinv.out.1.size), hinv.out.2.below hb hinv.out.2.lt⟩)
      have O2 := Lib.hid (ho.base (b' := w.heap.size) hinv.out.1.size)
      clear ho hb b0
      go_wp2_with fail
      go_roundg (gk - 1)
      case measure => omega
      case rel => exact ⟨1, by omega, by go_num, H2, Lib.hid ⟨fun h => absurd h (by decide), fun _ => O2.out.bs, fun h => absurd h (by decide), fun h => absurd h (by decide), fun h => absurd h (by decide)⟩⟩
    · have hlt : (((1 : Nat) : Int) < 4) := by decide
      have b0 := Lib.hid (hP.out.2.1 rfl)
      have ix := fun wx => ix205_1 cr cx ce cz wx
      clear hP
      go_wp2_with fail
      refine (k2.out _ _ b0.out).mono ?_
      rintro e w2 ⟨x1, rfl, ho, hb⟩
      have H2 := Lib.hid (show Below w.heap.size w w2 ∧ Row w2 w.heap.size 114 cs from ⟨hinv.out.1.trans (hb.mono hinv.out.1.size), hinv.out.2.below hb hinv.out.2.lt⟩)
      have O2 := Lib.hid (ho.base (b' := w.heap.size) hinv.out.1.size)
      clear ho hb b0
      go_wp2_with fail
      go_roundg (gk - 1)
      case measure => omega
      case rel => exact ⟨2, by omega, by go_num, H2, Lib.hid ⟨fun h => absurd h (by decide), fun h => absurd h (by decide), fun _ => O2.out.bs, fun h => absurd h (by decide), fun h => absurd h (by decide)⟩⟩
    · have hlt : (((2 : Nat) : Int) < 4) := by decide
      have b0 := Lib.hid (hP.out.2.2.1 rfl)
      have ix := fun wx => ix205_2 cr cx ce cz wx
      clear hP
      go_wp2_with fail
      refine (k3.out _ _ b0.out).mono ?_
      rintro e w2 ⟨x1, rfl, ho, hb⟩
      have H2 := Lib.hid (show Below w.heap.size w w2 ∧ Row w2 w.heap.size 114 cs from ⟨hinv.out.1.trans (hb.mono hinv.out.1.size), hinv.out.2.below hb hinv.out.2.lt⟩)
      have O2 := Lib.hid (ho.base (b' := w.heap.size) hinv.out.1.size)
      clear ho hb b0
      go_wp2_with fail
      go_roundg (gk - 1)
      case measure => omega
      case rel => exact ⟨3, by omega, by go_num, H2, Lib.hid ⟨fun h => absurd h (by decide), fun h => absurd h (by decide), fun h => absurd h (by decide), fun _ => O2.out.bs, fun h => absurd h (by decide)⟩⟩
    · have hlt : (((3 : Nat) : Int) < 4) := by decide
      have b0 := Lib.hid (hP.out.2.2.2.1 rfl)
      have ix := fun wx => ix205_3 cr cx ce cz wx
      clear hP
      go_wp2_with fail
      refine (k4.out _ _ b0.out).mono ?_
      rintro e w2 ⟨x1, rfl, ho, hb⟩
      have H2 := Lib.hid (show Below w.heap.size w w2 ∧ Row w2 w.heap.size 114 cs from ⟨hinv.out.1.trans (hb.mono hinv.out.1.size), hinv.out.2.below hb hinv.out.2.lt⟩)
      have O2 := Lib.hid (ho.base (b' := w.heap.size) hinv.out.1.size)
      clear ho hb b0
      go_wp2_with fail
      go_roundg (gk - 1)
      case measure => omega
      case rel => exact ⟨4, by omega, by go_num, H2, Lib.hid ⟨fun h => absurd h (by decide), fun h => absurd h (by decide), fun h => absurd h (by decide), fun h => absurd h (by decide), fun _ => O2.out⟩⟩
    · have ob0 := Lib.hid (hP.out.2.2.2.2 rfl)
      clear hP k1 k2 k3 k4 hU
      go_upto_region 6 with (fail)
      have hl := hinv.out.1
      have r1 := hinv.out.2
      have hBr : w.heap.size ≤ wr.heap.size := hl.size
      clear hinv
      let L : List Sp := [sF 3 [] [] [] (fun _ => True) (fun x wq => Ob wq w.heap.size x.v P5), sF 6 [3] [3] [] (fun _ => True) (fun x wq => Ob wq w.heap.size x.v P6)]
      refine wp_region_six (shs L) (look6 L) (None_) (by kernel_rfl) (by kernel_rfl) (mk_St L [] [] (by kernel_rfl) (by kernel_rfl) ⟨ok_F (any_some _) (fun _ _ _ h hb => Ob.below h hb), ok_F (any_some _) (fun _ _ _ h hb => Ob.below h hb), trivial⟩ (by simp)) ?_
      intro QQ hQ
      refine stepK rfl (by kernel_rfl) (fun K hK => ?_); go_simp
      apply Exists.intro; apply And.intro; (focus (intro wk hk; go_simp; exact ⟨rfl, rfl⟩)); refine hK _ _ ?_; clear hK K
      refine stepK rfl (by kernel_rfl) (fun K hK => ?_); go_simp
      apply Exists.intro; apply And.intro; (focus (intro wk hk; go_simp; exact ⟨rfl, rfl⟩)); refine hK _ _ ?_; clear hK K
      refine stepK rfl (by kernel_rfl) (fun K hK => ?_); go_simp
      apply Exists.intro; apply And.intro; (focus exact kLoadMid rfl rfl aggR35 r1 htk hbt id); refine hK _ _ ?_; clear hK K
      refine stepS _ rfl (by kernel_rfl) (fun K hK => ?_); go_simp
      refine ⟨?_, ?_⟩
      · intro wk hk hg hu; go_simp; refine upon_enter ((k5.out _ u0 (ob0.out.below hk.undrew.below).bs).mono ?_); rintro e w' ⟨v, rfl, hv, hb9⟩; exact ⟨_, rfl, left_F rfl rfl hb9 trivial (hv.base (by have := hk.undrew.size; omega))⟩
      rintro ⟨v3, lo3, hi3⟩ - - -
      refine hK _ _ ?_; clear hK K
      refine stepK rfl (by kernel_rfl) (fun K hK => ?_); go_simp
      apply Exists.intro; apply And.intro; (focus (intro wk hk; go_simp; exact ⟨rfl, rfl⟩)); refine hK _ _ ?_; clear hK K
      refine stepK rfl (by kernel_rfl) (fun K hK => ?_); go_simp
      apply Exists.intro; apply And.intro; (focus (intro wk hk; have cc : wk.cell? ⟨w.heap.size, 35, none⟩ = some (.slice pq np pc) := ((K6.Row.tr r1 hk.undrew id).cell 35).trans x4; go_simp; exact ⟨rfl, rfl⟩)); refine hK _ _ ?_; clear hK K
      refine stepS _ rfl (by kernel_rfl) (fun K hK => ?_); go_simp
      refine ⟨?_, ?_⟩
      · intro wk hk hg hu; have u3 := hu 3 (show 3 ∈ [3] by decide); go_simp; refine upon_enter ((k6.out _ v3 (hl.trans (hk.undrew.below.mono hl.size)) (show Ob wk w.heap.size v3 P5 from u3).bs).mono ?_); rintro e w' ⟨v, rfl, hv, hb9⟩; exact ⟨_, rfl, left_F rfl rfl hb9 trivial (hv.base (by have := hk.undrew.size; omega))⟩
      rintro ⟨v6, lo6, hi6⟩ - - -
      refine hK _ _ ?_; clear hK K
      refine stepK rfl (by kernel_rfl) (fun K hK => ?_); go_simp
      apply Exists.intro; apply And.intro; (focus (intro wk hk; go_simp; exact ⟨rfl, rfl⟩)); refine hK _ _ ?_; clear hK K
      refine stepN ?_
      refine hQ _ _ ?_
      intro w2 hT hG hF
      have hb2 := hT.undrew.below
      have o6 : Ob w2 w.heap.size v6 P6 := hF 6 _ rfl rfl (by decide)
      have H2 := Lib.hid (show Below w.heap.size w w2 ∧ Row w2 w.heap.size 114 cs ∧ Ob w2 w.heap.size v6 P6 from ⟨hl.trans (hb2.mono hl.size), r1.below hb2 r1.lt, o6⟩)
      clear hT hG hF hQ QQ L hl r1 ob0 hb2 o6 hBr k5 k6
      have d5 := (H2.out.2.1.cell 36).trans x5
      go_wp2_with fail
      refine (k7.out _ _ H2.out.2.2.bs).mono ?_
      rintro e w3 ⟨x7, rfl, ho, hb⟩
      have H3 := Lib.hid (show Below w.heap.size w w3 ∧ Row w3 w.heap.size 114 cs ∧ Ob w3 w.heap.size x7 P7 from ⟨H2.out.1.trans (hb.mono H2.out.1.size), H2.out.2.1.below hb H2.out.2.1.lt, ho.base H2.out.1.size⟩)
      clear k7 ho hb H2 d5
      have d5 := (H3.out.2.1.cell 36).trans x5
      go_wp2_with fail
      have H1 := Lib.hid (show Ob w3 w.heap.size x7 P7 ∧ Below w.heap.size w w3 from ⟨H3.out.2.2, H3.out.1⟩)
      clear H3 d5 x0 x1 x2 x4 x5 x6 htk hbt
      go_loopg [0, 40] m (fun gg s0 s40 wr => ∃ i : Nat, i + gg = m ∧ s40 = .int .i64 (i : Int) ∧ Hid (Ob wr w.heap.size s0 (P7 ++ (ll.take i).flatMap fun x => lfKB x.key)) ∧ Hid (Below w.heap.size w wr))
      case atStart => exact ⟨0, by omega, rfl, Lib.hid (by rw [List.take_zero, List.flatMap_nil, List.append_nil]; exact H1.out.1), Lib.hid H1.out.2⟩
      case round =>
        clear H1
        obtain ⟨i, him2, rfl, hob, hinv⟩ := hrel
        by_cases hi : i < m
        · obtain ⟨x, hx⟩ : ∃ x, ll[i]? = some x := ⟨_, List.getElem?_eq_getElem (by have := HC1.out.2.2.1; omega)⟩
          obtain ⟨gx, ox, cx', hu, hgx, hcx⟩ := (HC1.out.1.below hinv.out).1.get hx
          simp only [Value.slice.injEq] at hu
          obtain ⟨rfl, -, -⟩ := hu
          have hxm := List.mem_of_getElem? hx
          have hxo := (HC1.out.1.below hinv.out).2 x hxm
          have hst := flat_step (fun x : Lf => lfKB x.key) hx P7
          obtain ⟨Y0, hY0⟩ : ∃ Z, P7 ++ (ll.take i).flatMap (fun x => lfKB x.key) = Z := ⟨_, rfl⟩
          have hy0 : Y0.length ≤ 3000000 := by
            rw [← hY0, List.length_append]
            have h1 := flat_le (f := fun x : Lf => lfKB x.key) (c := 32100) (l := ll.take i) (fun y hy => by
              have hym := List.mem_of_mem_take hy
              have hyo := (HC1.out.1.below hinv.out).2 y hym
              exact lf_le hyo.i hyo.t (fun z hz => (hyo.h z hz).1) (by have := HC1.out.2.1 y hym; omega))
            rw [List.length_take] at h1
            have h2 := HC1.out.2.2.2
            omega
          rw [hY0] at hob hst
          obtain ⟨Z1, hZ1⟩ : ∃ Z, Y0 ++ enc x.i.toNat = Z := ⟨_, rfl⟩
          obtain ⟨Z2, hZ2⟩ : ∃ Z, Z1 ++ enc x.t.toNat = Z := ⟨_, rfl⟩
          obtain ⟨Z3, hZ3⟩ : ∃ Z, Z2 ++ amtL x.a = Z := ⟨_, rfl⟩
          obtain ⟨Z4, hZ4⟩ : ∃ Z, Z3 ++ prfB x.p = Z := ⟨_, rfl⟩
          have hst4 : Z4 = P7 ++ (ll.take (i + 1)).flatMap (fun x => lfKB x.key) := by
            rw [← hst, ← hZ4, ← hZ3, ← hZ2, ← hZ1]
            unfold lfKB Lf.key
            simp only [List.append_assoc]
          have z1 : Z1.length ≤ 3000009 := by rw [← hZ1, List.length_append]; have := enc_le9 hxo.i; omega
          have z2 : Z2.length ≤ 3000018 := by rw [← hZ2, List.length_append]; have := enc_le9 hxo.t; omega
          have z3 : Z3.length ≤ 3000060 := by rw [← hZ3, List.length_append]; have := amtL_le x.a; omega
          have q1 := fun wx vx (h : Bs wx vx Y0) => var_any vx Y0 x.i wx h (by omega) hxo.i.2
          have q2 := fun wx vx (h : Bs wx vx Z1) => var_any vx Z1 x.t wx h (by omega) hxo.t.2
          have q3 := fun wx vx (h : Bs wx vx Z2) => amt_any vx Z2 x.a wx h (by omega) hxo.a
          have q4 := fun wx vx (hb : Below wr.heap.size wr wx) (h : Bs wx vx Z3) => putProof_at vx x.pv Z3 x.p wx h (by omega) (hxo.p.below hb) (fun y hy => (hxo.h y hy).1) (by have := HC1.out.2.1 x hxm; omega)
          rw [hZ1] at q1
          rw [hZ2] at q2
          rw [hZ3] at q3
          rw [hZ4] at q4
          unfold Lf.pv at q4
          have y0 := lA0 x
          have y1 := lA1 x
          have y6 := lA6 x
          have ya := lfc_a x
          obtain ⟨Y, hY⟩ : ∃ Y, (lfc x).toArray = Y := ⟨_, rfl⟩
          have hYsz : (lfc x).toArray.size = 7 := rfl
          have hYone := lfc_one x
          replace hcx : ∀ j v, (lfc x).toArray.toList[j]? = some v → wr.cell? ⟨gx, ox + i * 7 + j, none⟩ = some v := hcx
          obtain ⟨WA, hWA⟩ : ∃ A, W4 x.a = A := ⟨_, rfl⟩
          have hWsz := W4_size x.a
          rw [hWA] at ya q3 hWsz
          rw [hY] at y0 y1 y6 ya hYsz hYone hcx
          have hinf := info198 hYsz
          obtain ⟨xi, hxi⟩ : ∃ n, x.i = n := ⟨_, rfl⟩
          obtain ⟨xt, hxt⟩ : ∃ n, x.t = n := ⟨_, rfl⟩
          obtain ⟨xq, hxq⟩ : ∃ n, x.pq = n := ⟨_, rfl⟩
          obtain ⟨xc, hxc⟩ : ∃ n, x.pc = n := ⟨_, rfl⟩
          obtain ⟨xn, hxn⟩ : ∃ n, x.p.length = n := ⟨_, rfl⟩
          rw [hxi] at y0 q1
          rw [hxt] at y1 q2
          rw [hxq, hxc, hxn] at y6 q4
          replace q1 := Lib.hid q1
          replace q2 := Lib.hid q2
          replace q3 := Lib.hid q3
          replace q4 := Lib.hid q4
          replace hst4 := Lib.hid hst4
          clear hx hY0 hst hy0 hxm hxo hZ1 hZ2 hZ3 hZ4 z1 z2 z3 hY hWA hxi hxt hxq hxc hxn
          have hlt : (i : Int) < (m : Int) := by omega
          have hBr : w.heap.size ≤ wr.heap.size := hinv.out.size
          go_upto_region 10 with (fail)
          let L : List Sp := [sA 2 198 [3] #[.int .i64 0, .int .i64 0, .int .u64 0, .int .u64 0, .int .u64 0, .int .u64 0, .slice none 0 0], sT 3 2 198 [1] (fun g => aggOf g 1)]
          refine wp_region_six0 (shs L) (look6 L) (None_) (by kernel_rfl) (by kernel_rfl) (mk_St L [] [] (by kernel_rfl) (by kernel_rfl) ⟨ok_A, ok_T aggOf_congr, trivial⟩ (by simp)) ?_
          intro QQ hQ
          refine stepK rfl (by kernel_rfl) (fun K hK => ?_); go_simp
          apply Exists.intro; apply And.intro; (focus (intro wk hk; go_simp; exact ⟨rfl, rfl⟩)); refine hK _ _ ?_; clear hK K
          refine stepK rfl (by kernel_rfl) (fun K hK => ?_); go_simp
          apply Exists.intro; apply And.intro; (focus exact kLoadA rfl rfl aggT198 hcx hYsz hgx id); refine hK _ _ ?_; clear hK K
          refine stepS _ rfl (by kernel_rfl) (fun K hK => ?_); go_simp
          refine ⟨?_, ?_⟩
          · intro wk hk hg hu; go_simp; exact left_A rfl rfl
          rintro ⟨v2, lo2, hi2⟩ hlo2 hhi2 ⟨e2, f2⟩
          replace e2 : v2 = .pointer (some ⟨lo2, 0, none⟩) := e2; replace f2 : hi2 = lo2 + 1 := f2; replace hlo2 : _ ≤ lo2 := hlo2; subst e2; subst f2
          refine hK _ _ ?_; clear hK K
          refine stepS _ rfl (by kernel_rfl) (fun K hK => ?_); go_simp
          refine ⟨?_, ?_⟩
          · exact sStoreT rfl rfl rfl rfl rfl rfl rfl hinf hYsz.symm hYone (by decide) aggOf_congr
          rintro ⟨v3, lo3, hi3⟩ - - (rfl : v3 = undef)
          refine hK _ _ ?_; clear hK K
          refine stepN ?_
          refine hQ _ _ ?_
          intro w4 hT hG hF
          have hbw4 := hT.below
          have rY : Row w4 lo2 198 Y := (hF 3 _ rfl rfl (by decide)).2
          clear hT hG hF hQ QQ L hcx hgx
          have hs4 := hbw4.size
          have ob4 := hob.out.below hbw4
          have hB4 : w.heap.size ≤ w4.heap.size := by omega
          have HB4 := Lib.hid hbw4
          clear hob hYone hinf
          go_upto_region 11 with (fail)
          let L : List Sp := [sF 3 [] [] [] (fun _ => True) (fun x wq => Ob wq w.heap.size x.v Z1), sF 6 [3] [3] [] (fun _ => True) (fun x wq => Ob wq w.heap.size x.v Z2)]
          refine wp_region_six (shs L) (look6 L) (None_) (by kernel_rfl) (by kernel_rfl) (mk_St L [] [] (by kernel_rfl) (by kernel_rfl) ⟨ok_F (any_some _) (fun _ _ _ h hb => Ob.below h hb), ok_F (any_some _) (fun _ _ _ h hb => Ob.below h hb), trivial⟩ (by simp)) ?_
          intro QQ hQ
          refine stepK rfl (by kernel_rfl) (fun K hK => ?_); go_simp
          apply Exists.intro; apply And.intro; (focus (intro wk hk; go_simp; exact ⟨rfl, rfl⟩)); refine hK _ _ ?_; clear hK K
          refine stepK rfl (by kernel_rfl) (fun K hK => ?_); go_simp
          apply Exists.intro; apply And.intro; (focus (intro wk hk; go_simp; exact ⟨rfl, rfl⟩)); refine hK _ _ ?_; clear hK K
          refine stepK rfl (by kernel_rfl) (fun K hK => ?_); go_simp
          apply Exists.intro; apply And.intro; (focus (intro wk hk; have cc : wk.cell? ⟨lo2, 0, none⟩ = some (.int .i64 xi) := ((K6.Row.tr rY hk.undrew id).cell 0).trans y0; go_simp; exact ⟨rfl, rfl⟩)); refine hK _ _ ?_; clear hK K
          refine stepS _ rfl (by kernel_rfl) (fun K hK => ?_); go_simp
          refine ⟨?_, ?_⟩
          · intro wk hk hg hu; go_simp; refine upon_enter ((q1.out _ u0 (ob4.below hk.undrew.below).bs).mono ?_); rintro e w' ⟨v, rfl, hv, hb9⟩; exact ⟨_, rfl, left_F rfl rfl hb9 trivial (hv.base (by have := hk.undrew.size; omega))⟩
          rintro ⟨v3, lo3, hi3⟩ - - -
          refine hK _ _ ?_; clear hK K
          refine stepK rfl (by kernel_rfl) (fun K hK => ?_); go_simp
          apply Exists.intro; apply And.intro; (focus (intro wk hk; go_simp; exact ⟨rfl, rfl⟩)); refine hK _ _ ?_; clear hK K
          refine stepK rfl (by kernel_rfl) (fun K hK => ?_); go_simp
          apply Exists.intro; apply And.intro; (focus (intro wk hk; have cc : wk.cell? ⟨lo2, 1, none⟩ = some (.int .i64 xt) := ((K6.Row.tr rY hk.undrew id).cell 1).trans y1; go_simp; exact ⟨rfl, rfl⟩)); refine hK _ _ ?_; clear hK K
          refine stepS _ rfl (by kernel_rfl) (fun K hK => ?_); go_simp
          refine ⟨?_, ?_⟩
          · intro wk hk hg hu; have u3 := hu 3 (show 3 ∈ [3] by decide); go_simp; refine upon_enter ((q2.out _ v3 (show Ob wk w.heap.size v3 Z1 from u3).bs).mono ?_); rintro e w' ⟨v, rfl, hv, hb9⟩; exact ⟨_, rfl, left_F rfl rfl hb9 trivial (hv.base (by have := hk.undrew.size; omega))⟩
          rintro ⟨v6, lo6, hi6⟩ - - -
          refine hK _ _ ?_; clear hK K
          refine stepK rfl (by kernel_rfl) (fun K hK => ?_); go_simp
          apply Exists.intro; apply And.intro; (focus (intro wk hk; go_simp; exact ⟨rfl, rfl⟩)); refine hK _ _ ?_; clear hK K
          refine stepN ?_
          refine hQ _ _ ?_
          intro w5 hT hG hF
          have hb5 := hT.undrew.below
          have o6 : Ob w5 w.heap.size v6 Z2 := hF 6 _ rfl rfl (by decide)
          have rY5 := rY.below hb5 rY.lt
          have HB5 := Lib.hid (HB4.out.trans (hb5.mono hs4))
          have hs5 := hb5.size
          have hB5 : w.heap.size ≤ w5.heap.size := by omega
          have hs45 : wr.heap.size ≤ w5.heap.size := by omega
          clear hT hG hF hQ QQ L rY ob4 hb5 HB4 q1 q2
          go_upto_region 12 with (fail)
          let L : List Sp := [sF 3 [] [] [] (fun _ => True) (fun x wq => Ob wq w.heap.size x.v Z3), sF 6 [3] [3] [] (fun _ => True) (fun x wq => Ob wq w.heap.size x.v Z4)]
          refine wp_region_six (shs L) (look6 L) (None_) (by kernel_rfl) (by kernel_rfl) (mk_St L [] [] (by kernel_rfl) (by kernel_rfl) ⟨ok_F (any_some _) (fun _ _ _ h hb => Ob.below h hb), ok_F (any_some _) (fun _ _ _ h hb => Ob.below h hb), trivial⟩ (by simp)) ?_
          intro QQ hQ
          refine stepK rfl (by kernel_rfl) (fun K hK => ?_); go_simp
          apply Exists.intro; apply And.intro; (focus (intro wk hk; go_simp; exact ⟨rfl, rfl⟩)); refine hK _ _ ?_; clear hK K
          refine stepK rfl (by kernel_rfl) (fun K hK => ?_); go_simp
          apply Exists.intro; apply And.intro; (focus (intro wk hk; go_simp; exact ⟨rfl, rfl⟩)); refine hK _ _ ?_; clear hK K
          refine stepK rfl (by kernel_rfl) (fun K hK => ?_); go_simp
          apply Exists.intro; apply And.intro; (focus exact kLoadMid rfl rfl aggT31 rY5 ya hWsz id); refine hK _ _ ?_; clear hK K
          refine stepS _ rfl (by kernel_rfl) (fun K hK => ?_); go_simp
          refine ⟨?_, ?_⟩
          · intro wk hk hg hu; go_simp; refine upon_enter ((q3.out _ v6 (o6.below hk.undrew.below).bs).mono ?_); rintro e w' ⟨v, rfl, hv, hb9⟩; exact ⟨_, rfl, left_F rfl rfl hb9 trivial (hv.base (by have := hk.undrew.size; omega))⟩
          rintro ⟨v3_, lo3_, hi3_⟩ - - -
          refine hK _ _ ?_; clear hK K
          refine stepK rfl (by kernel_rfl) (fun K hK => ?_); go_simp
          apply Exists.intro; apply And.intro; (focus (intro wk hk; go_simp; exact ⟨rfl, rfl⟩)); refine hK _ _ ?_; clear hK K
          refine stepK rfl (by kernel_rfl) (fun K hK => ?_); go_simp
          apply Exists.intro; apply And.intro; (focus (intro wk hk; have cc : wk.cell? ⟨lo2, 6, none⟩ = some (.slice xq xn xc) := ((K6.Row.tr rY5 hk.undrew id).cell 6).trans y6; go_simp; exact ⟨rfl, rfl⟩)); refine hK _ _ ?_; clear hK K
          refine stepS _ rfl (by kernel_rfl) (fun K hK => ?_); go_simp
          refine ⟨?_, ?_⟩
          · intro wk hk hg hu; have u3 := hu 3 (show 3 ∈ [3] by decide); go_simp; refine upon_enter ((q4.out _ v3_ (HB5.out.trans (hk.undrew.below.mono hs45)) (show Ob wk w.heap.size v3_ Z3 from u3).bs).mono ?_); rintro e w' ⟨v, rfl, hv, hb9⟩; exact ⟨_, rfl, left_F rfl rfl hb9 trivial (hv.base (by have := hk.undrew.size; omega))⟩
          rintro ⟨v6_, lo6_, hi6_⟩ - - -
          refine hK _ _ ?_; clear hK K
          refine stepK rfl (by kernel_rfl) (fun K hK => ?_); go_simp
          apply Exists.intro; apply And.intro; (focus (intro wk hk; go_simp; exact ⟨rfl, rfl⟩)); refine hK _ _ ?_; clear hK K
          refine stepN ?_
          refine hQ _ _ ?_
          intro w6 hT hG hF
          have hb6 := hT.undrew.below
          have o7 : Ob w6 w.heap.size v6_ Z4 := hF 6 _ rfl rfl (by decide)
          have H6 := Lib.hid (show Ob w6 w.heap.size v6_ (P7 ++ (ll.take (i + 1)).flatMap fun x => lfKB x.key) ∧ Below w.heap.size w w6 from ⟨by rw [← hst4.out]; exact o7, hinv.out.trans ((HB5.out.trans (hb6.mono hs45)).mono hBr)⟩)
          clear hT hG hF hQ QQ L rY5 o6 o7 hb6 HB5 q3 q4 hst4 hinv
          go_wp2_with fail
          go_roundg (gk - 1)
          case measure => omega
          case rel => exact ⟨i + 1, by omega, by go_num, Lib.hid H6.out.1, Lib.hid H6.out.2⟩
        · obtain rfl : i = m := by omega
          have hlt : ¬ (i : Int) < (i : Int) := by omega
          rw [List.take_of_length_le (by have := HC1.out.2.2.1; omega)] at hob
          go_wp2_with fail
          go_ret
          exact ⟨_, rfl, by rw [← hPe.out]; exact hob.out, hinv.out⟩
end Go.Proofs.Ytpdenhmkpiafiaa
namespace Go.Proofs.Ytpdenhmkpiafiaa
open Go Go.RowKit K6
theorem own_sl_ {w : World} {base te z n : Nat} {v : Value} {zs : List Value} (h : w.ownsRow base te z v n zs) : ∃ q c, v = .slice q n c := by
  rcases h.2 with ⟨rfl, h0⟩ | ⟨g, cap, cur, rfl, -⟩
  · exact ⟨none, 0, by rw [h0]⟩
  · exact ⟨_, _, rfl⟩
theorem I64_D {l : List Int} (h : ∀ x ∈ l, I64 x) (i : Nat) : I64 (l.getD i 0) := by
  rw [List.getD_eq_getElem?_getD]
  cases hx : l[i]? with
  | none => exact ⟨by decide, by decide⟩
  | some x => exact h x (List.mem_of_getElem? hx)
theorem nst_le {s : Shp} {l : List Int} (h : ∀ x ∈ l, I64 x) (h0 : 0 ≤ s.n) (hl : l.length ≤ 1000) (i : Nat) : (nst s l i).length ≤ 18 := by
  unfold nst
  rw [List.length_append]
  have h1 := enc_le9 (I64_D h i)
  split
  · have h2 := enc_len9 (m := ((l.length : Int) - s.n).toNat) (by omega)
    omega
  · show 0 + _ ≤ 18
    omega
theorem numB_le {s : Shp} {l : List Int} (h : ∀ x ∈ l, I64 x) (h0 : 0 ≤ s.n) (hl : l.length ≤ 1000) (i : Nat) : (numB s l i).length ≤ 18 * i := by
  unfold numB
  have h1 := flat_le (f := nst s l) (c := 18) (l := List.range i) fun x _ => nst_le h h0 hl x
  rw [List.length_range] at h1
  exact h1
theorem nst_yes {s : Shp} {l : List Int} {i : Nat} {x T : Int} (ht : s.t = true) (hi : (i : Int) = s.n) (hx : l.getD i 0 = x) (hT : (l.length : Int) - s.n = T) : nst s l i = enc T.toNat ++ enc x.toNat := by
  unfold nst
  rw [if_pos ⟨ht, hi⟩, hx, hT]
theorem nst_no {s : Shp} {l : List Int} {i : Nat} {x : Int} (h : ¬ (s.t = true ∧ (i : Int) = s.n)) (hx : l.getD i 0 = x) : nst s l i = enc x.toNat := by
  unfold nst
  rw [if_neg h, hx, List.nil_append]
set_option maxRecDepth 100000 in
set_option maxHeartbeats 64000000 in
theorem txbytes_at (t : Txv) (w : World) (ht : TxOk w t) (hl : LightT t) :
    Calls Try.prog 138 #[.agg t.cs.toArray] w fun e w' => ∃ x, e = .returned x ∧ Ob w' w.heap.size x (bytK t.key) ∧ Below w.heap.size w w' := by
  have kg := fun wx (hb : Below w.heap.size w wx) => good_at t wx (ht.below hb) hl
  have hsz : t.cs.toArray.size = 43 := by rw [List.size_toArray]; exact Txv.len ht.c.tok
  by_cases hg : goodK t.key = true
  case neg =>
    have hg' : goodK t.key = false := by simpa using hg
    rw [hg'] at kg
    have e0 : bytK t.key = [] := if_neg hg
    rw [e0]
    obtain ⟨ct, hct⟩ : ∃ c, t.cs.toArray = c := ⟨_, rfl⟩
    rw [hct] at kg hsz ⊢
    replace kg := Lib.hid kg
    clear hg hg' e0 hct ht hl
    go_enter Try.func138, Try.ntmps138
    go_upto_region 1 with (fail)
    refine wp_abs (Mem w [(w.heap.size, 116, ct)]) ⟨by go_grown, by (repeat (first | (refine Row.new_at ?_; simp; done) | refine Row.alloc ?_ _)), trivial⟩ ?_
    intro w0 hM
    obtain ⟨hl, r1, -⟩ := hM
    let L : List Sp := [sV 1 [] [] (fun u => u = .bool false)]
    refine wp_region_six0 (shs L) (look6 L) (None_) (by kernel_rfl) (by kernel_rfl) (mk_St L [] [] (by kernel_rfl) (by kernel_rfl) ⟨ok_V ⟨_, rfl⟩, trivial⟩ (by simp)) ?_
    intro QQ hQ
    refine stepK rfl (by kernel_rfl) (fun K hK => ?_); go_simp
    apply Exists.intro; apply And.intro; (focus exact kLoad rfl rfl aggT116 r1 hsz id); refine hK _ _ ?_; clear hK K
    refine stepS _ rfl (by kernel_rfl) (fun K hK => ?_); go_simp
    refine ⟨?_, ?_⟩
    · intro wk hk hg hu; go_simp; refine upon_enter ((kg.out _ (hl.trans (hk.below.mono hl.size))).mono ?_); rintro e w' ⟨rfl, hb⟩; exact ⟨_, rfl, left_V (p := fun u => u = .bool false) rfl (hb) rfl⟩
    rintro ⟨v1, lo1, hi1⟩ - - (rfl : v1 = _)
    refine hK _ _ ?_; clear hK K
    refine stepK rfl (by kernel_rfl) (fun K hK => ?_); go_simp
    apply Exists.intro; apply And.intro; (focus (intro wk hk; go_simp; exact ⟨rfl, rfl⟩)); refine hK _ _ ?_; clear hK K
    refine stepN ?_
    refine hQ _ _ ?_
    intro w1 hT hG hF
    have H9 := Lib.hid (hl.trans (hT.below.mono hl.size))
    clear hT hG hF hQ QQ L hl r1 kg
    go_wp2_with fail
    go_ret
    exact ⟨_, rfl, Ob.nil _ _, H9.out⟩
  rw [hg] at kg
  have hsn := shp_n t.k
  have kO := fun wx => txof_any t.k wx
  unfold OfP at kO
  obtain ⟨P0, hP0⟩ : ∃ P, enc t.k.toNat ++ enc t.f.toNat = P := ⟨_, rfl⟩
  obtain ⟨P1, hP1⟩ : ∃ P, P0 ++ numB (shpOf t.k) t.n t.n.length = P := ⟨_, rfl⟩
  obtain ⟨P2, hP2⟩ : ∃ P, P1 ++ t.a.flatMap amtL = P := ⟨_, rfl⟩
  obtain ⟨P3, hP3⟩ : ∃ P, P2 ++ t.h.flatMap (fun y : List Int => y) = P := ⟨_, rfl⟩
  obtain ⟨P4, hP4⟩ : ∃ P, P3 ++ clKB t.c.key = P := ⟨_, rfl⟩
  have hbyt : bytK t.key = (if (shpOf t.k).c = true then (if P4.length ≤ 4096 then P4 else []) else (if P3.length ≤ 4096 then P3 else [])) := by
    unfold bytK
    rw [if_pos hg]
    have e : putK t.key = P3 ++ (if (shpOf t.k).c = true then clKB t.c.key else []) := by
      unfold putK Txv.key
      simp only
      rw [← hP3, ← hP2, ← hP1, ← hP0]
      simp only [List.append_assoc]
    rw [e]
    cases (shpOf t.k).c
    · simp
    · simp [hP4]
  have l0 : P0.length ≤ 18 := by rw [← hP0, List.length_append]; have := enc_le9 ht.k; have := enc_le9 ht.f; omega
  have l1 : P1.length ≤ 1000 := by rw [← hP1, List.length_append]; have := numB_le ht.nb hsn.1 (by have := hl.n; omega) t.n.length; have := hl.n; omega
  have l2 : P2.length ≤ 3000 := by rw [← hP2, List.length_append]; have := flat_le (f := amtL) (c := 33) (l := t.a) (fun y _ => amtL_le y); have := hl.a; omega
  have l3 : P3.length ≤ 5000 := by rw [← hP3, List.length_append]; have := flat_le (f := fun y : List Int => y) (c := 32) (l := t.h) (fun y hy => Nat.le_of_eq (ht.hb y hy).1); have := hl.h; omega
  have kv0 := fun wx => var_any (.slice none 0 0) [] t.k wx (Bs.nil wx) (by decide) ht.k.2
  have kv1 := fun wx vx (h : Bs wx vx (enc t.k.toNat)) => var_any vx (enc t.k.toNat) t.f wx h (by have := enc_le9 ht.k; omega) ht.f.2
  rw [List.nil_append] at kv0
  rw [hP0] at kv1
  obtain ⟨Pk, hPk⟩ : ∃ P, enc t.k.toNat = P := ⟨_, rfl⟩
  rw [hPk] at kv0 kv1
  have kC := fun wx vx (hb : Below w.heap.size w wx) (h : Bs wx vx P3) => putClaim_at vx P3 t.c wx h (by omega) (ht.c.below hb) hl.p hl.l hl.q
  rw [hP4] at kC
  have x0 := tA0 t
  have x1 := tA1 t
  have x2 := tA2 t
  have x3 := tA3 t
  have x4 := tA4 t
  have hcsz : t.c.cs.toArray.size = 38 := by rw [List.size_toArray]; exact Cm.len ht.c.tok
  have hmid := Txv.c_ t
  have HN := ht.n
  have HA := ht.a
  have HH := ht.h
  unfold Txv.nv at HN
  unfold Txv.av at HA
  unfold Txv.hv at HH
  have hnb := ht.nb
  have hab := ht.ab
  have hhb : ∀ x ∈ t.h, x.length = 32 := fun x hx => (ht.hb x hx).1
  obtain ⟨m, hm⟩ : ∃ m, t.n.length = m := ⟨_, rfl⟩
  obtain ⟨nA, hnA⟩ : ∃ m, t.a.length = m := ⟨_, rfl⟩
  obtain ⟨nH, hnH⟩ : ∃ m, t.h.length = m := ⟨_, rfl⟩
  obtain ⟨nq, hnq⟩ : ∃ q, t.nq = q := ⟨_, rfl⟩
  obtain ⟨nc, hnc⟩ : ∃ q, t.nc = q := ⟨_, rfl⟩
  obtain ⟨aq, haq⟩ : ∃ q, t.aq = q := ⟨_, rfl⟩
  obtain ⟨ac, hac⟩ : ∃ q, t.ac = q := ⟨_, rfl⟩
  obtain ⟨hq, hhq⟩ : ∃ q, t.hq = q := ⟨_, rfl⟩
  obtain ⟨hc, hhc⟩ : ∃ q, t.hc = q := ⟨_, rfl⟩
  have hm50 : m ≤ 50 := by have := hl.n; omega
  have hA50 : nA ≤ 50 := by have := hl.a; omega
  have hH50 : nH ≤ 50 := by have := hl.h; omega
  rw [hm, hnq, hnc] at x2 HN
  rw [hnA, haq, hac] at x3 HA
  rw [hnH, hhq, hhc] at x4 HH
  rw [hm] at hP1
  obtain ⟨S, hS⟩ : ∃ S, shpOf t.k = S := ⟨_, rfl⟩
  rw [hS] at kO hbyt hsn hP1
  unfold Shp.cs at kO
  obtain ⟨sn, hSn⟩ : ∃ x, S.n = x := ⟨_, rfl⟩
  obtain ⟨st, hSt⟩ : ∃ x, S.t = x := ⟨_, rfl⟩
  obtain ⟨sa, hSa⟩ : ∃ x, S.a = x := ⟨_, rfl⟩
  obtain ⟨se, hSe⟩ : ∃ x, S.e = x := ⟨_, rfl⟩
  obtain ⟨sh, hSh⟩ : ∃ x, S.h = x := ⟨_, rfl⟩
  obtain ⟨sc, hSc⟩ : ∃ x, S.c = x := ⟨_, rfl⟩
  obtain ⟨ok, hok⟩ : ∃ x, okK t.k = x := ⟨_, rfl⟩
  rw [hSn, hSt, hSa, hSe, hSh, hSc, hok] at kO
  rw [hSc] at hbyt
  rw [hSn] at hsn
  obtain ⟨ct, hct⟩ : ∃ c, t.cs.toArray = c := ⟨_, rfl⟩
  obtain ⟨cc5, hcc⟩ : ∃ c, t.c.cs.toArray = c := ⟨_, rfl⟩
  rw [hct] at x0 x1 x2 x3 x4 hsz hmid kg ⊢
  rw [hcc] at hcsz hmid kC
  obtain ⟨tk, htk⟩ : ∃ k, t.k = k := ⟨_, rfl⟩
  obtain ⟨tf, htf⟩ : ∃ k, t.f = k := ⟨_, rfl⟩
  rw [htk] at x0 kO kv0
  rw [htf] at x1 kv1
  obtain ⟨ln, hln⟩ : ∃ l, t.n = l := ⟨_, rfl⟩
  obtain ⟨la, hla⟩ : ∃ l, t.a = l := ⟨_, rfl⟩
  obtain ⟨lh, hlh⟩ : ∃ l, t.h = l := ⟨_, rfl⟩
  rw [hln] at HN hm hP1 hnb
  rw [hla] at HA hnA hP2 hab
  rw [hlh] at HH hnH hP3 hhb
  obtain ⟨BY, hBY⟩ : ∃ l, bytK t.key = l := ⟨_, rfl⟩
  rw [hBY] at hbyt ⊢
  have HBY := Lib.hid hbyt
  have HC1 := Lib.hid (show _ ∧ _ ∧ _ ∧ _ from ⟨HN, hm, hnb, hsn⟩)
  have HC2 := Lib.hid (show _ ∧ _ from ⟨HA, hab⟩)
  have HC3 := Lib.hid (show _ ∧ _ from ⟨HH, hhb⟩)
  have HM2 := Lib.hid hnA
  have HM3 := Lib.hid hnH
  have hPl1 := Lib.hid l0
  have hPl2 := Lib.hid (show P1.length ≤ 2000000 by omega)
  have hPl3 := Lib.hid (show P2.length ≤ 2000000 by omega)
  have hPl4 := Lib.hid l3
  have HP1 := Lib.hid hP1
  have HP2 := Lib.hid hP2
  have HP3 := Lib.hid hP3
  have HS := Lib.hid (show _ ∧ _ from ⟨hSn, hSt⟩)
  replace kg := Lib.hid kg
  replace kO := Lib.hid kO
  replace kv0 := Lib.hid kv0
  replace kv1 := Lib.hid kv1
  replace kC := Lib.hid kC
  have hmi : (m : Int) ≤ 50 := by omega
  have hAi : (nA : Int) ≤ 50 := by omega
  have hHi : (nH : Int) ≤ 50 := by omega
  clear hg hbyt l0 l1 l2 l3 hP0 hP1 hP2 hP3 hPk hm hnA hnH hnq hnc haq hac hhq hhc hS hSn hSt hSa hSe hSh hSc hok hct hcc htk htf hln hla hlh hBY HN HA HH hnb hab hhb hm50 hA50 hH50 hsn ht hl hP4
  go_enter Try.func138, Try.ntmps138
  go_upto_region 1 with (fail)
  refine wp_abs (Mem w [(w.heap.size, 116, ct)]) ⟨by go_grown, by (repeat (first | (refine Row.new_at ?_; simp; done) | refine Row.alloc ?_ _)), trivial⟩ ?_
  intro w0 hM
  obtain ⟨hl, r1, -⟩ := hM
  let L : List Sp := [sV 1 [] [] (fun u => u = .bool true)]
  refine wp_region_six0 (shs L) (look6 L) (None_) (by kernel_rfl) (by kernel_rfl) (mk_St L [] [] (by kernel_rfl) (by kernel_rfl) ⟨ok_V ⟨_, rfl⟩, trivial⟩ (by simp)) ?_
  intro QQ hQ
  refine stepK rfl (by kernel_rfl) (fun K hK => ?_); go_simp
  apply Exists.intro; apply And.intro; (focus exact kLoad rfl rfl aggT116 r1 hsz id); refine hK _ _ ?_; clear hK K
  refine stepS _ rfl (by kernel_rfl) (fun K hK => ?_); go_simp
  refine ⟨?_, ?_⟩
  · intro wk hk hg hu; go_simp; refine upon_enter ((kg.out _ (hl.trans (hk.below.mono hl.size))).mono ?_); rintro e w' ⟨rfl, hb⟩; exact ⟨_, rfl, left_V (p := fun u => u = .bool true) rfl (hb) rfl⟩
  rintro ⟨v1, lo1, hi1⟩ - - (rfl : v1 = _)
  refine hK _ _ ?_; clear hK K
  refine stepK rfl (by kernel_rfl) (fun K hK => ?_); go_simp
  apply Exists.intro; apply And.intro; (focus (intro wk hk; go_simp; exact ⟨rfl, rfl⟩)); refine hK _ _ ?_; clear hK K
  refine stepN ?_
  refine hQ _ _ ?_
  intro w1 hT hG hF
  have hb1 := hT.below
  replace r1 := r1.below hb1 r1.lt
  replace hl := hl.trans (hb1.mono hl.size)
  clear hT hG hF hQ QQ L hb1 kg hsz
  go_upto_region 3 with (fail)
  let L : List Sp := [sV 2 [] [] (fun u => u = .tuple #[.agg #[.int .i64 sn, .bool st, .int .i64 sa, .bool se, .int .i64 sh, .bool sc], .bool ok]), sA 6 107 [7] #[.int .i64 0, .bool false, .int .i64 0, .bool false, .int .i64 0, .bool false], sT 7 6 107 [4] (fun g => aggOf g 4)]
  refine wp_region_six0 (shs L) (look6 L) (None_) (by kernel_rfl) (by kernel_rfl) (mk_St L [] [] (by kernel_rfl) (by kernel_rfl) ⟨ok_V ⟨_, rfl⟩, ok_A, ok_T aggOf_congr, trivial⟩ (by simp)) ?_
  intro QQ hQ
  refine stepK rfl (by kernel_rfl) (fun K hK => ?_); go_simp
  apply Exists.intro; apply And.intro; (focus (intro wk hk; go_simp; exact ⟨rfl, rfl⟩)); refine hK _ _ ?_; clear hK K
  refine stepK rfl (by kernel_rfl) (fun K hK => ?_); go_simp
  apply Exists.intro; apply And.intro; (focus (intro wk hk; have cc : wk.cell? ⟨w.heap.size, 0, none⟩ = some (.int .i64 tk) := ((K6.Row.tr r1 hk id).cell 0).trans x0; go_simp; exact ⟨rfl, rfl⟩)); refine hK _ _ ?_; clear hK K
  refine stepS _ rfl (by kernel_rfl) (fun K hK => ?_); go_simp
  refine ⟨?_, ?_⟩
  · intro wk hk hg hu; go_simp; refine upon_enter ((kO.out _).mono ?_); rintro e w' ⟨rfl, hb⟩; exact ⟨_, rfl, left_V (p := fun u => u = .tuple #[.agg #[.int .i64 sn, .bool st, .int .i64 sa, .bool se, .int .i64 sh, .bool sc], .bool ok]) rfl (hb) rfl⟩
  rintro ⟨v2, lo2, hi2⟩ - - (rfl : v2 = _)
  refine hK _ _ ?_; clear hK K
  refine stepK rfl (by kernel_rfl) (fun K hK => ?_); go_simp
  apply Exists.intro; apply And.intro; (focus (intro wk hk; go_simp; exact ⟨rfl, rfl⟩)); refine hK _ _ ?_; clear hK K
  refine stepK rfl (by kernel_rfl) (fun K hK => ?_); go_simp
  apply Exists.intro; apply And.intro; (focus (intro wk hk; go_simp; exact ⟨rfl, rfl⟩)); refine hK _ _ ?_; clear hK K
  refine stepK rfl (by kernel_rfl) (fun K hK => ?_); go_simp
  apply Exists.intro; apply And.intro; (focus (intro wk hk; go_simp; exact ⟨rfl, rfl⟩)); refine hK _ _ ?_; clear hK K
  refine stepS _ rfl (by kernel_rfl) (fun K hK => ?_); go_simp
  refine ⟨?_, ?_⟩
  · intro wk hk hg hu; go_simp; exact left_A rfl rfl
  rintro ⟨v6, lo6, hi6⟩ hlo6 hhi6 ⟨e6, f6⟩
  replace e6 : v6 = .pointer (some ⟨lo6, 0, none⟩) := e6; replace f6 : hi6 = lo6 + 1 := f6; replace hlo6 : _ ≤ lo6 := hlo6; subst e6; subst f6
  refine hK _ _ ?_; clear hK K
  refine stepS _ rfl (by kernel_rfl) (fun K hK => ?_); go_simp
  refine ⟨?_, ?_⟩
  · exact sStoreT rfl rfl rfl rfl rfl rfl rfl (by kernel_rfl) rfl (by kernel_rfl) (by decide) aggOf_congr
  rintro ⟨v7, lo7, hi7⟩ - - (rfl : v7 = undef)
  refine hK _ _ ?_; clear hK K
  refine stepK rfl (by kernel_rfl) (fun K hK => ?_); go_simp
  apply Exists.intro; apply And.intro; (focus (intro wk hk; go_simp; exact ⟨rfl, rfl⟩)); refine hK _ _ ?_; clear hK K
  refine stepN ?_
  refine hQ _ _ ?_
  intro w3 hT hG hF
  have hb3 := hT.below
  have r3 : Row w3 lo6 107 (#[.int .i64 sn, .bool st, .int .i64 sa, .bool se, .int .i64 sh, .bool sc]) := (hF 7 _ rfl rfl (by decide)).2
  replace r1 := r1.below hb3 r1.lt
  replace hl := hl.trans (hb3.mono hl.size)
  have hB3 : w.heap.size ≤ w3.heap.size := hl.size
  clear hT hG hF hQ QQ L hb3 kO hhi6 hlo6
  go_upto_region 4 with (fail)
  let L : List Sp := [sF 2 [] [] [] (fun _ => True) (fun x wq => Ob wq w.heap.size x.v Pk), sF 5 [2] [2] [] (fun _ => True) (fun x wq => Ob wq w.heap.size x.v P0)]
  refine wp_region_six (shs L) (look6 L) (None_) (by kernel_rfl) (by kernel_rfl) (mk_St L [] [] (by kernel_rfl) (by kernel_rfl) ⟨ok_F (any_some _) (fun _ _ _ h hb => Ob.below h hb), ok_F (any_some _) (fun _ _ _ h hb => Ob.below h hb), trivial⟩ (by simp)) ?_
  intro QQ hQ
  refine stepK rfl (by kernel_rfl) (fun K hK => ?_); go_simp
  apply Exists.intro; apply And.intro; (focus (intro wk hk; go_simp; exact ⟨rfl, rfl⟩)); refine hK _ _ ?_; clear hK K
  refine stepK rfl (by kernel_rfl) (fun K hK => ?_); go_simp
  apply Exists.intro; apply And.intro; (focus (intro wk hk; have cc : wk.cell? ⟨w.heap.size, 0, none⟩ = some (.int .i64 tk) := ((K6.Row.tr r1 hk.undrew id).cell 0).trans x0; go_simp; exact ⟨rfl, rfl⟩)); refine hK _ _ ?_; clear hK K
  refine stepS _ rfl (by kernel_rfl) (fun K hK => ?_); go_simp
  refine ⟨?_, ?_⟩
  · intro wk hk hg hu; go_simp; refine upon_enter ((kv0.out _).mono ?_); rintro e w' ⟨v, rfl, hv, hb9⟩; exact ⟨_, rfl, left_F rfl rfl hb9 trivial (hv.base (by have := hk.undrew.size; omega))⟩
  rintro ⟨v2_, lo2_, hi2_⟩ - - -
  refine hK _ _ ?_; clear hK K
  refine stepK rfl (by kernel_rfl) (fun K hK => ?_); go_simp
  apply Exists.intro; apply And.intro; (focus (intro wk hk; go_simp; exact ⟨rfl, rfl⟩)); refine hK _ _ ?_; clear hK K
  refine stepK rfl (by kernel_rfl) (fun K hK => ?_); go_simp
  apply Exists.intro; apply And.intro; (focus (intro wk hk; have cc : wk.cell? ⟨w.heap.size, 1, none⟩ = some (.int .i64 tf) := ((K6.Row.tr r1 hk.undrew id).cell 1).trans x1; go_simp; exact ⟨rfl, rfl⟩)); refine hK _ _ ?_; clear hK K
  refine stepS _ rfl (by kernel_rfl) (fun K hK => ?_); go_simp
  refine ⟨?_, ?_⟩
  · intro wk hk hg hu; have u2 := hu 2 (show 2 ∈ [2] by decide); go_simp; refine upon_enter ((kv1.out _ v2_ (show Ob wk w.heap.size v2_ Pk from u2).bs).mono ?_); rintro e w' ⟨v, rfl, hv, hb9⟩; exact ⟨_, rfl, left_F rfl rfl hb9 trivial (hv.base (by have := hk.undrew.size; omega))⟩
  rintro ⟨v5, lo5, hi5⟩ - - -
  refine hK _ _ ?_; clear hK K
  refine stepK rfl (by kernel_rfl) (fun K hK => ?_); go_simp
  apply Exists.intro; apply And.intro; (focus (intro wk hk; go_simp; exact ⟨rfl, rfl⟩)); refine hK _ _ ?_; clear hK K
  refine stepN ?_
  refine hQ _ _ ?_
  intro w2 hT hG hF
  have hb2 := hT.undrew.below
  have o5 : Ob w2 w.heap.size v5 P0 := hF 5 _ rfl rfl (by decide)
  have H1 := Lib.hid (show Ob w2 w.heap.size v5 P0 ∧ Below w2.heap.size w2 w2 from ⟨o5, Below.refl _ _⟩)
  have r1 := r1.below hb2 r1.lt
  have r3 := r3.below hb2 r3.lt
  have hl2 := hl.trans (hb2.mono hl.size)
  have HC1 := Lib.hid (show Is w2 _ _ ∧ _ from ⟨HC1.out.1.below hl2, HC1.out.2⟩)
  have HC2 := Lib.hid (show Us w2 _ _ ∧ _ from ⟨HC2.out.1.below hl2, HC2.out.2⟩)
  have HC3 := Lib.hid (show Hs w2 _ _ ∧ _ from ⟨HC3.out.1.below hl2, HC3.out.2⟩)
  have hBw : w.heap.size ≤ w2.heap.size := hl2.size
  have HR := Lib.hid (show Row w2 w.heap.size 116 ct ∧ Row w2 lo6 107 (#[.int .i64 sn, .bool st, .int .i64 sa, .bool se, .int .i64 sh, .bool sc]) ∧ Below w.heap.size w w2 from ⟨r1, r3, hl2⟩)
  have d2 := (r1.cell 2).trans x2
  clear hT hG hF hQ QQ L hb2 hl hl2 o5 r1 r3 kv0 kv1 hB3
  go_wp2_with fail
  go_loopg [5, 6, 7, 30] m (fun gg s5 s6 s7 s30 wr => ∃ i : Nat, i + gg = m ∧ s30 = .int .i64 (i : Int) ∧ Hid (Ob wr w.heap.size s5 (P0 ++ numB S ln i)) ∧ Hid (Below w2.heap.size w2 wr))
  case atStart => exact ⟨0, by omega, rfl, Lib.hid (by show Ob w2 w.heap.size _ (P0 ++ []); rw [List.append_nil]; exact H1.out.1), Lib.hid H1.out.2⟩
  case round =>
    clear H1 d2
    obtain ⟨i, him, rfl, hob, hinv⟩ := hrel
    by_cases hi : i < m
    · obtain ⟨x, hx⟩ : ∃ x, ln[i]? = some x := ⟨_, List.getElem?_eq_getElem (by have := HC1.out.2.1; omega)⟩
      obtain ⟨gx, ox, cx', hu, hgx, hcx⟩ := (HC1.out.1.below hinv.out).get hx
      simp only [Value.slice.injEq] at hu
      obtain ⟨rfl, -, -⟩ := hu
      have cx0 : wr.cell? ⟨gx, ox + i, none⟩ = some (.int .i64 x) := by have h := hcx 0 _ rfl; simpa using h
      have hxI := HC1.out.2.2.1 x (List.mem_of_getElem? hx)
      have hxD := get_D hx
      have hst := numB_step S ln i P0
      obtain ⟨Y0, hY0⟩ : ∃ Z, P0 ++ numB S ln i = Z := ⟨_, rfl⟩
      obtain ⟨Z1, hZ1⟩ : ∃ Z, P0 ++ numB S ln (i + 1) = Z := ⟨_, rfl⟩
      have hy0 : Y0.length ≤ 2000 := by
        rw [← hY0, List.length_append]
        have h1 := numB_le (s := S) HC1.out.2.2.1 (by rw [HS.out.1]; exact HC1.out.2.2.2.1) (by have := HC1.out.2.1; omega) i
        have h2 := hPl1.out
        omega
      rw [hY0] at hob hst
      rw [hZ1] at hst
      have r1 := HR.out.1.below hinv.out HR.out.1.lt
      have r3 := HR.out.2.1.below hinv.out HR.out.2.1.lt
      have e1 := r3.cell 1
      have d2 := (r1.cell 2).trans x2
      have e0 := r3.cell 0
      have hlt : (i : Int) < (m : Int) := by omega
      have hBr : w.heap.size ≤ wr.heap.size := by have := hinv.out.size; omega
      replace hZ1 := Lib.hid hZ1
      clear hcx r1 r3 hgx hY0 hx
      by_cases hc : st = true ∧ (i : Int) = sn
      · obtain ⟨hc1, hc2⟩ := hc
        obtain ⟨T, hT⟩ : ∃ T, (m : Int) - sn = T := ⟨_, rfl⟩
        have wT : IntKind.i64.wrap ((m : Int) - sn) = T := by have := HC1.out.2.2.2; rw [IntKind.wrap_i64]; omega
        have hTb : T < 1000 := by have := HC1.out.2.2.2; omega
        rw [nst_yes (T := T) (HS.out.2.trans hc1) (hc2.trans HS.out.1.symm) hxD (by rw [HC1.out.2.1, HS.out.1]; exact hT), ← List.append_assoc] at hst
        obtain ⟨Y1, hY1⟩ : ∃ Z, Y0 ++ enc T.toNat = Z := ⟨_, rfl⟩
        have hy1 : Y1.length ≤ 2009 := by rw [← hY1, List.length_append]; have := enc_len9 (m := T.toNat) (by omega); omega
        have k1 := fun wx vx (h : Bs wx vx Y0) => var_any vx Y0 T wx h (by omega) (by omega)
        have k2 := fun wx vx (h : Bs wx vx Y1) => var_any vx Y1 x wx h (by omega) hxI.2
        rw [hY1] at hst k1
        rw [hst] at k2
        have q1 : ((i : Int) == sn) = true := by rw [beq_iff_eq]; exact hc2
        replace k1 := Lib.hid k1
        replace k2 := Lib.hid k2
        subst hc1
        clear hc2 hT hTb hst hY1 hy1 hy0 hxI hxD
        go_wp2_with fail
        refine (k1.out _ _ hob.out.bs).mono ?_
        rintro e w4 ⟨x1, rfl, ho, hb⟩
        have H4 := Lib.hid (show Bs w4 x1 Y1 ∧ Below w2.heap.size w2 w4 from ⟨ho.bs, hinv.out.trans (hb.mono hinv.out.size)⟩)
        clear k1 ho hb e0 e1 d2 cx0 q1 wT hob hinv
        go_wp2_with fail
        refine (k2.out _ _ H4.out.1).mono ?_
        rintro e w5 ⟨x2_, rfl, ho, hb⟩
        have H5 := Lib.hid (show Ob w5 w.heap.size x2_ (P0 ++ numB S ln (i + 1)) ∧ Below w2.heap.size w2 w5 from ⟨by rw [hZ1.out]; exact ho.base (Nat.le_trans hBw H4.out.2.size), H4.out.2.trans (hb.mono H4.out.2.size)⟩)
        clear k2 ho hb H4 hZ1
        go_wp2_with fail
        go_roundg (gk - 1)
        case measure => omega
        case rel => exact ⟨i + 1, by omega, by go_num, Lib.hid H5.out.1, Lib.hid H5.out.2⟩
      · rw [nst_no (fun h => hc ⟨HS.out.2.symm.trans h.1, h.2.trans HS.out.1⟩) hxD] at hst
        have k2 := fun wx vx (h : Bs wx vx Y0) => var_any vx Y0 x wx h (by omega) hxI.2
        rw [hst] at k2
        replace k2 := Lib.hid k2
        cases st
        · clear hc hst hy0 hxI hxD
          go_wp2_with fail
          refine (k2.out _ _ hob.out.bs).mono ?_
          rintro e w5 ⟨x2_, rfl, ho, hb⟩
          have H5 := Lib.hid (show Ob w5 w.heap.size x2_ (P0 ++ numB S ln (i + 1)) ∧ Below w2.heap.size w2 w5 from ⟨by rw [hZ1.out]; exact ho.base hBr, hinv.out.trans (hb.mono hinv.out.size)⟩)
          clear k2 ho hb e0 e1 d2 cx0 hob hinv hZ1
          go_wp2_with fail
          go_roundg (gk - 1)
          case measure => omega
          case rel => exact ⟨i + 1, by omega, by go_num, Lib.hid H5.out.1, Lib.hid H5.out.2⟩
        · have q1 : ((i : Int) == sn) = false := by rw [beq_eq_false_iff_ne]; exact fun h => hc ⟨rfl, h⟩
          clear hc hst hy0 hxI hxD
          go_wp2_with fail
          refine (k2.out _ _ hob.out.bs).mono ?_
          rintro e w5 ⟨x2_, rfl, ho, hb⟩
          have H5 := Lib.hid (show Ob w5 w.heap.size x2_ (P0 ++ numB S ln (i + 1)) ∧ Below w2.heap.size w2 w5 from ⟨by rw [hZ1.out]; exact ho.base hBr, hinv.out.trans (hb.mono hinv.out.size)⟩)
          clear k2 ho hb e0 e1 d2 cx0 hob hinv hZ1
          go_wp2_with fail
          go_roundg (gk - 1)
          case measure => omega
          case rel => exact ⟨i + 1, by omega, by go_num, Lib.hid H5.out.1, Lib.hid H5.out.2⟩
    · obtain rfl : i = m := by omega
      have hlt : ¬ (i : Int) < (i : Int) := by omega
      have r1 := HR.out.1.below hinv.out HR.out.1.lt
      have d3 := (r1.cell 3).trans x3
      have H2 := Lib.hid (show Ob wr w.heap.size u5 P1 ∧ Below w2.heap.size w2 wr from ⟨by rw [← HP1.out]; exact hob.out, hinv.out⟩)
      clear hob hinv r1 HC1 HP1 x2
      go_wp2_with fail
      go_loopg [5, 58] nA (fun gg s5 s58 wr => ∃ i : Nat, i + gg = nA ∧ s58 = .int .i64 (i : Int) ∧ Hid (Ob wr w.heap.size s5 (P1 ++ (la.take i).flatMap amtL)) ∧ Hid (Below w2.heap.size w2 wr))
      case atStart => exact ⟨0, by omega, rfl, Lib.hid (by rw [List.take_zero, List.flatMap_nil, List.append_nil]; exact H2.out.1), Lib.hid H2.out.2⟩
      case round =>
        clear H2
        obtain ⟨i2, him2, rfl, hob2, hinv2⟩ := hrel
        by_cases hi : i2 < nA
        · obtain ⟨x, hx⟩ : ∃ x, la[i2]? = some x := ⟨_, List.getElem?_eq_getElem (by have := HM2.out; omega)⟩
          obtain ⟨gx, ox, cx', hu, hgx, hcx⟩ := (HC2.out.1.below hinv2.out).elem hx
          simp only [Value.slice.injEq] at hu
          obtain ⟨rfl, -, -⟩ := hu
          have hxl := HC2.out.2 x (List.mem_of_getElem? hx)
          have hst := flat_step amtL hx P1
          obtain ⟨Y0, hY0⟩ : ∃ Z, P1 ++ (la.take i2).flatMap amtL = Z := ⟨_, rfl⟩
          obtain ⟨Z1, hZ1⟩ : ∃ Z, P1 ++ (la.take (i2 + 1)).flatMap amtL = Z := ⟨_, rfl⟩
          have hy0 : Y0.length ≤ 5000000 := by
            rw [← hY0, List.length_append]
            have h1 := flat_le (f := amtL) (c := 33) (l := la.take i2) (fun y _ => amtL_le y)
            rw [List.length_take] at h1
            have h2 := hPl2.out
            omega
          rw [hY0] at hob2 hst
          rw [hZ1] at hst
          have k4 := fun wx vx (h : Bs wx vx Y0) => amt_any vx Y0 x wx h (by omega) hxl
          have hst2 := hst
          rw [hst2] at k4
          obtain ⟨Y, hY⟩ : ∃ Y, W4 x = Y := ⟨_, rfl⟩
          have hYsz := W4_size x
          have hYone := W4_one_ x
          replace hcx : ∀ j v, (W4 x).toList[j]? = some v → wr.cell? ⟨gx, ox + i2 * 4 + j, none⟩ = some v := hcx
          rw [hY] at k4 hYsz hYone hcx
          have hinf := info31 hYsz
          replace k4 := Lib.hid k4
          replace hZ1 := Lib.hid hZ1
          clear hx hY0 hst hst2 hy0 hxl hY
          have hlt : (i2 : Int) < (nA : Int) := by omega
          have hBr : w.heap.size ≤ wr.heap.size := by have := hinv2.out.size; omega
          go_upto_region 14 with (fail)
          let L : List Sp := [sA 2 31 [3] #[.int .u64 0, .int .u64 0, .int .u64 0, .int .u64 0], sT 3 2 31 [1] (fun g => aggOf g 1)]
          refine wp_region_six0 (shs L) (look6 L) (None_) (by kernel_rfl) (by kernel_rfl) (mk_St L [] [] (by kernel_rfl) (by kernel_rfl) ⟨ok_A, ok_T aggOf_congr, trivial⟩ (by simp)) ?_
          intro QQ hQ
          refine stepK rfl (by kernel_rfl) (fun K hK => ?_); go_simp
          apply Exists.intro; apply And.intro; (focus (intro wk hk; go_simp; exact ⟨rfl, rfl⟩)); refine hK _ _ ?_; clear hK K
          refine stepK rfl (by kernel_rfl) (fun K hK => ?_); go_simp
          apply Exists.intro; apply And.intro; (focus exact kLoadA rfl rfl aggT31 hcx hYsz hgx id); refine hK _ _ ?_; clear hK K
          refine stepS _ rfl (by kernel_rfl) (fun K hK => ?_); go_simp
          refine ⟨?_, ?_⟩
          · intro wk hk hg hu; go_simp; exact left_A rfl rfl
          rintro ⟨v2, lo2, hi2⟩ hlo2 hhi2 ⟨e2, f2⟩
          replace e2 : v2 = .pointer (some ⟨lo2, 0, none⟩) := e2; replace f2 : hi2 = lo2 + 1 := f2; replace hlo2 : _ ≤ lo2 := hlo2; subst e2; subst f2
          refine hK _ _ ?_; clear hK K
          refine stepS _ rfl (by kernel_rfl) (fun K hK => ?_); go_simp
          refine ⟨?_, ?_⟩
          · exact sStoreT rfl rfl rfl rfl rfl rfl rfl hinf hYsz.symm hYone (by decide) aggOf_congr
          rintro ⟨v3, lo3, hi3⟩ - - (rfl : v3 = undef)
          refine hK _ _ ?_; clear hK K
          refine stepN ?_
          refine hQ _ _ ?_
          intro w4 hT hG hF
          have hbw4 := hT.below
          have rY : Row w4 lo2 31 Y := (hF 3 _ rfl rfl (by decide)).2
          clear hT hG hF hQ QQ L hcx hgx
          have ob4 := hob2.out.below hbw4
          have hl4 := Lib.hid (hinv2.out.trans (hbw4.mono hinv2.out.size))
          have hs4 := hbw4.size
          have hB4 : w.heap.size ≤ w4.heap.size := by omega
          clear hob2 hinv2 hbw4 hYone hinf hs4
          go_upto_region 15 with (fail)
          let L : List Sp := [sF 2 [] [] [] (fun _ => True) (fun x wq => Ob wq w.heap.size x.v Z1)]
          refine wp_region_six0 (shs L) (look6 L) (None_) (by kernel_rfl) (by kernel_rfl) (mk_St L [] [] (by kernel_rfl) (by kernel_rfl) ⟨ok_F (any_some _) (fun _ _ _ h hb => Ob.below h hb), trivial⟩ (by simp)) ?_
          intro QQ hQ
          refine stepK rfl (by kernel_rfl) (fun K hK => ?_); go_simp
          apply Exists.intro; apply And.intro; (focus (intro wk hk; go_simp; exact ⟨rfl, rfl⟩)); refine hK _ _ ?_; clear hK K
          refine stepK rfl (by kernel_rfl) (fun K hK => ?_); go_simp
          apply Exists.intro; apply And.intro; (focus exact kLoad rfl rfl aggT31 rY hYsz id); refine hK _ _ ?_; clear hK K
          refine stepS _ rfl (by kernel_rfl) (fun K hK => ?_); go_simp
          refine ⟨?_, ?_⟩
          · intro wk hk hg hu; go_simp; refine upon_enter ((k4.out _ u5 (ob4.below hk.below).bs).mono ?_); rintro e w' ⟨v, rfl, hv, hb9⟩; exact ⟨_, rfl, left_F rfl rfl hb9 trivial (hv.base (by have := hk.size; omega))⟩
          rintro ⟨v2, lo2, hi2⟩ - - -
          refine hK _ _ ?_; clear hK K
          refine stepK rfl (by kernel_rfl) (fun K hK => ?_); go_simp
          apply Exists.intro; apply And.intro; (focus (intro wk hk; go_simp; exact ⟨rfl, rfl⟩)); refine hK _ _ ?_; clear hK K
          refine stepN ?_
          refine hQ _ _ ?_
          intro w5 hT hG hF
          have o5 : Ob w5 w.heap.size v2 Z1 := hF 2 _ rfl rfl (by decide)
          have hb5 := hT.below
          have H5 := Lib.hid (show Ob w5 w.heap.size v2 (P1 ++ (la.take (i2 + 1)).flatMap amtL) ∧ Below w2.heap.size w2 w5 from ⟨by rw [hZ1.out]; exact o5, hl4.out.trans (hb5.mono hl4.out.size)⟩)
          clear hT hG hF hQ QQ L k4 ob4 rY o5 hb5 hl4 hYsz hZ1
          go_wp2_with fail
          go_roundg (gk - 1)
          case measure => omega
          case rel => exact ⟨i2 + 1, by omega, by go_num, Lib.hid H5.out.1, Lib.hid H5.out.2⟩
        · obtain rfl : i2 = nA := by omega
          have hlt : ¬ (i2 : Int) < (i2 : Int) := by omega
          rw [List.take_of_length_le (by have := HM2.out; omega)] at hob2
          have r1 := HR.out.1.below hinv2.out HR.out.1.lt
          have d4 := (r1.cell 4).trans x4
          have H3 := Lib.hid (show Ob wr w.heap.size u5 P2 ∧ Below w2.heap.size w2 wr from ⟨by rw [← HP2.out]; exact hob2.out, hinv2.out⟩)
          clear hob2 hinv2 r1 HC2 HP2 HM2 x3
          go_wp2_with fail
          go_loopg [5, 69] nH (fun gg s5 s69 wr => ∃ i : Nat, i + gg = nH ∧ s69 = .int .i64 (i : Int) ∧ Hid (Ob wr w.heap.size s5 (P2 ++ (lh.take i).flatMap (fun y : List Int => y))) ∧ Hid (Below w2.heap.size w2 wr))
          case atStart => exact ⟨0, by omega, rfl, Lib.hid (by rw [List.take_zero, List.flatMap_nil, List.append_nil]; exact H3.out.1), Lib.hid H3.out.2⟩
          case round =>
            clear H3
            obtain ⟨i3, him3, rfl, hob3, hinv3⟩ := hrel
            by_cases hi : i3 < nH
            · obtain ⟨x, hx⟩ : ∃ x, lh[i3]? = some x := ⟨_, List.getElem?_eq_getElem (by have := HM3.out; omega)⟩
              obtain ⟨gx, ox, cx', hu, hgx, hcx⟩ := (HC3.out.1.below hinv3.out).get hx
              simp only [Value.slice.injEq] at hu
              obtain ⟨rfl, -, -⟩ := hu
              have hxl := HC3.out.2 x (List.mem_of_getElem? hx)
              have hst := flat_step (fun y : List Int => y) hx P2
              obtain ⟨Y0, hY0⟩ : ∃ Z, P2 ++ (lh.take i3).flatMap (fun y : List Int => y) = Z := ⟨_, rfl⟩
              obtain ⟨Z1, hZ1⟩ : ∃ Z, P2 ++ (lh.take (i3 + 1)).flatMap (fun y : List Int => y) = Z := ⟨_, rfl⟩
              have hy0 : Y0.length ≤ 5000000 := by
                rw [← hY0, List.length_append]
                have h1 := flat_le (f := (fun y : List Int => y)) (c := 32) (l := lh.take i3) (fun y hy => Nat.le_of_eq (HC3.out.2 y (List.mem_of_mem_take hy)))
                rw [List.length_take] at h1
                have h2 := hPl3.out
                omega
              rw [hY0] at hob3 hst
              rw [hZ1] at hst
              have k4 := fun wx vx (h : Bs wx vx Y0) => hash_put vx Y0 x wx h (by omega) hxl
              have hst2 := hst
              rw [hst2] at k4
              obtain ⟨Y, hY⟩ : ∃ Y, (bv x).toArray = Y := ⟨_, rfl⟩
              have hYsz := bv_arr hxl
              have hYone := bv_arr_one x
              replace hcx : ∀ j v, ((bv x).toArray).toList[j]? = some v → wr.cell? ⟨gx, ox + i3 * 32 + j, none⟩ = some v := hcx
              rw [hY] at k4 hYsz hYone hcx
              have hinf := info35 hYsz
              replace k4 := Lib.hid k4
              replace hZ1 := Lib.hid hZ1
              clear hx hY0 hst hst2 hy0 hxl hY
              have hlt : (i3 : Int) < (nH : Int) := by omega
              have hBr : w.heap.size ≤ wr.heap.size := by have := hinv3.out.size; omega
              go_upto_region 19 with (fail)
              let L : List Sp := [sA 2 35 [3] zr32, sT 3 2 35 [1] (fun g => aggOf g 1)]
              refine wp_region_six0 (shs L) (look6 L) (None_) (by kernel_rfl) (by kernel_rfl) (mk_St L [] [] (by kernel_rfl) (by kernel_rfl) ⟨ok_A, ok_T aggOf_congr, trivial⟩ (by simp)) ?_
              intro QQ hQ
              refine stepK rfl (by kernel_rfl) (fun K hK => ?_); go_simp
              apply Exists.intro; apply And.intro; (focus (intro wk hk; go_simp; exact ⟨rfl, rfl⟩)); refine hK _ _ ?_; clear hK K
              refine stepK rfl (by kernel_rfl) (fun K hK => ?_); go_simp
              apply Exists.intro; apply And.intro; (focus exact kLoadA rfl rfl aggR35 hcx hYsz hgx id); refine hK _ _ ?_; clear hK K
              refine stepS _ rfl (by kernel_rfl) (fun K hK => ?_); go_simp
              refine ⟨?_, ?_⟩
              · intro wk hk hg hu; go_simp; exact left_A rfl rfl
              rintro ⟨v2, lo2, hi2⟩ hlo2 hhi2 ⟨e2, f2⟩
              replace e2 : v2 = .pointer (some ⟨lo2, 0, none⟩) := e2; replace f2 : hi2 = lo2 + 1 := f2; replace hlo2 : _ ≤ lo2 := hlo2; subst e2; subst f2
              refine hK _ _ ?_; clear hK K
              refine stepS _ rfl (by kernel_rfl) (fun K hK => ?_); go_simp
              refine ⟨?_, ?_⟩
              · exact sStoreT rfl rfl rfl rfl rfl rfl rfl hinf hYsz.symm hYone (by decide) aggOf_congr
              rintro ⟨v3, lo3, hi3⟩ - - (rfl : v3 = undef)
              refine hK _ _ ?_; clear hK K
              refine stepN ?_
              refine hQ _ _ ?_
              intro w4 hT hG hF
              have hbw4 := hT.below
              have rY : Row w4 lo2 35 Y := (hF 3 _ rfl rfl (by decide)).2
              clear hT hG hF hQ QQ L hcx hgx
              have ob4 := hob3.out.below hbw4
              have hl4 := Lib.hid (hinv3.out.trans (hbw4.mono hinv3.out.size))
              have hs4 := hbw4.size
              have hB4 : w.heap.size ≤ w4.heap.size := by omega
              clear hob3 hinv3 hbw4 hYone hinf hs4
              go_upto_region 20 with (fail)
              let L : List Sp := [sF 2 [] [] [] (fun _ => True) (fun x wq => Ob wq w.heap.size x.v Z1)]
              refine wp_region_six0 (shs L) (look6 L) (None_) (by kernel_rfl) (by kernel_rfl) (mk_St L [] [] (by kernel_rfl) (by kernel_rfl) ⟨ok_F (any_some _) (fun _ _ _ h hb => Ob.below h hb), trivial⟩ (by simp)) ?_
              intro QQ hQ
              refine stepK rfl (by kernel_rfl) (fun K hK => ?_); go_simp
              apply Exists.intro; apply And.intro; (focus (intro wk hk; go_simp; exact ⟨rfl, rfl⟩)); refine hK _ _ ?_; clear hK K
              refine stepK rfl (by kernel_rfl) (fun K hK => ?_); go_simp
              apply Exists.intro; apply And.intro; (focus exact kLoad rfl rfl aggR35 rY hYsz id); refine hK _ _ ?_; clear hK K
              refine stepS _ rfl (by kernel_rfl) (fun K hK => ?_); go_simp
              refine ⟨?_, ?_⟩
              · intro wk hk hg hu; go_simp; refine upon_enter ((k4.out _ u5 (ob4.below hk.below).bs).mono ?_); rintro e w' ⟨v, rfl, hv, hb9⟩; exact ⟨_, rfl, left_F rfl rfl hb9 trivial (hv.base (by have := hk.size; omega))⟩
              rintro ⟨v2, lo2, hi2⟩ - - -
              refine hK _ _ ?_; clear hK K
              refine stepK rfl (by kernel_rfl) (fun K hK => ?_); go_simp
              apply Exists.intro; apply And.intro; (focus (intro wk hk; go_simp; exact ⟨rfl, rfl⟩)); refine hK _ _ ?_; clear hK K
              refine stepN ?_
              refine hQ _ _ ?_
              intro w5 hT hG hF
              have o5 : Ob w5 w.heap.size v2 Z1 := hF 2 _ rfl rfl (by decide)
              have hb5 := hT.below
              have H5 := Lib.hid (show Ob w5 w.heap.size v2 (P2 ++ (lh.take (i3 + 1)).flatMap (fun y : List Int => y)) ∧ Below w2.heap.size w2 w5 from ⟨by rw [hZ1.out]; exact o5, hl4.out.trans (hb5.mono hl4.out.size)⟩)
              clear hT hG hF hQ QQ L k4 ob4 rY o5 hb5 hl4 hYsz hZ1
              go_wp2_with fail
              go_roundg (gk - 1)
              case measure => omega
              case rel => exact ⟨i3 + 1, by omega, by go_num, Lib.hid H5.out.1, Lib.hid H5.out.2⟩
            · obtain rfl : i3 = nH := by omega
              have hlt : ¬ (i3 : Int) < (i3 : Int) := by omega
              rw [List.take_of_length_le (by have := HM3.out; omega)] at hob3
              have r3 := HR.out.2.1.below hinv3.out HR.out.2.1.lt
              have e5 := r3.cell 5
              have H4 := Lib.hid (show Ob wr w.heap.size u5 P3 ∧ Below w.heap.size w wr from ⟨by rw [← HP3.out]; exact hob3.out, HR.out.2.2.trans (hinv3.out.mono HR.out.2.2.size)⟩)
              have hinvR := Lib.hid hinv3.out
              clear hob3 hinv3 r3 HC3 HP3 HM3
              cases sc
              · have hby := Lib.hid (show BY = if P3.length ≤ 4096 then P3 else [] by have h := HBY.out; simpa using h)
                clear HBY kC
                obtain ⟨q5, c5, hv⟩ := own_sl_ H4.out.1
                obtain ⟨n5, hn5⟩ : ∃ n, P3.length = n := ⟨_, rfl⟩
                rw [hn5] at hv
                have HV := Lib.hid hv
                have hn5' := Lib.hid hn5
                have hP3l : n5 ≤ 5000 := by have := hPl4.out; omega
                subst hv
                clear hn5
                by_cases h4 : n5 ≤ 4096
                · have h4i : (n5 : Int) ≤ 4096 := by omega
                  have e9 := Lib.hid (show BY = P3 by rw [hby.out, if_pos (by have := hn5'.out; omega)])
                  clear h4 hby
                  go_wp2_with fail
                  go_ret
                  exact ⟨_, rfl, by rw [e9.out]; exact H4.out.1, H4.out.2⟩
                · have h4i : 4096 < (n5 : Int) := by omega
                  have e9 := Lib.hid (show BY = [] by rw [hby.out, if_neg (by have := hn5'.out; omega)])
                  clear h4 hby
                  go_wp2_with fail
                  go_ret
                  exact ⟨_, rfl, by rw [e9.out]; exact Ob.nil _ _, H4.out.2⟩
              · have hby := Lib.hid (show BY = if P4.length ≤ 4096 then P4 else [] by have h := HBY.out; simpa using h)
                clear HBY
                go_upto_region 23 with (fail)
                have r1 := HR.out.1.below hinvR.out HR.out.1.lt
                have hl := H4.out.2
                have ob := H4.out.1
                have hBr : w.heap.size ≤ wr.heap.size := hl.size
                clear H4 hinvR e5
                let L : List Sp := [sF 3 [] [] [] (fun _ => True) (fun x wq => Ob wq w.heap.size x.v P4)]
                refine wp_region_six0 (shs L) (look6 L) (None_) (by kernel_rfl) (by kernel_rfl) (mk_St L [] [] (by kernel_rfl) (by kernel_rfl) ⟨ok_F (any_some _) (fun _ _ _ h hb => Ob.below h hb), trivial⟩ (by simp)) ?_
                intro QQ hQ
                refine stepK rfl (by kernel_rfl) (fun K hK => ?_); go_simp
                apply Exists.intro; apply And.intro; (focus (intro wk hk; go_simp; exact ⟨rfl, rfl⟩)); refine hK _ _ ?_; clear hK K
                refine stepK rfl (by kernel_rfl) (fun K hK => ?_); go_simp
                apply Exists.intro; apply And.intro; (focus (intro wk hk; go_simp; exact ⟨rfl, rfl⟩)); refine hK _ _ ?_; clear hK K
                refine stepK rfl (by kernel_rfl) (fun K hK => ?_); go_simp
                apply Exists.intro; apply And.intro; (focus exact kLoadMid rfl rfl aggT114 r1 hmid hcsz id); refine hK _ _ ?_; clear hK K
                refine stepS _ rfl (by kernel_rfl) (fun K hK => ?_); go_simp
                refine ⟨?_, ?_⟩
                · intro wk hk hg hu; go_simp; refine upon_enter ((kC.out _ u5 (hl.trans (hk.below.mono hl.size)) (ob.below hk.below).bs).mono ?_); rintro e w' ⟨v, rfl, hv, hb9⟩; exact ⟨_, rfl, left_F rfl rfl hb9 trivial (hv.base (by have := hk.size; omega))⟩
                rintro ⟨v3, lo3, hi3⟩ - - -
                refine hK _ _ ?_; clear hK K
                refine stepK rfl (by kernel_rfl) (fun K hK => ?_); go_simp
                apply Exists.intro; apply And.intro; (focus (intro wk hk; go_simp; exact ⟨rfl, rfl⟩)); refine hK _ _ ?_; clear hK K
                refine stepN ?_
                refine hQ _ _ ?_
                intro w9 hT hG hF
                have hb9 := hT.below
                have o3 : Ob w9 w.heap.size v3 P4 := hF 3 _ rfl rfl (by decide)
                have H9 := Lib.hid (show Ob w9 w.heap.size v3 P4 ∧ Below w.heap.size w w9 from ⟨o3, hl.trans (hb9.mono hl.size)⟩)
                clear hT hG hF hQ QQ L hl r1 ob hb9 o3 kC
                obtain ⟨q5, c5, hv⟩ := own_sl_ H9.out.1
                obtain ⟨n5, hn5⟩ : ∃ n, P4.length = n := ⟨_, rfl⟩
                rw [hn5] at hv
                have hn5' := Lib.hid hn5
                subst hv
                clear hn5
                by_cases h4 : n5 ≤ 4096
                · have h4i : (n5 : Int) ≤ 4096 := by omega
                  have e9 := Lib.hid (show BY = P4 by rw [hby.out, if_pos (by have := hn5'.out; omega)])
                  clear h4 hby
                  go_wp2_with fail
                  go_ret
                  exact ⟨_, rfl, by rw [e9.out]; exact H9.out.1, H9.out.2⟩
                · have h4i : 4096 < (n5 : Int) := by omega
                  have e9 := Lib.hid (show BY = [] by rw [hby.out, if_neg (by have := hn5'.out; omega)])
                  clear h4 hby
                  go_wp2_with fail
                  go_ret
                  exact ⟨_, rfl, by rw [e9.out]; exact Ob.nil _ _, H9.out.2⟩
end Go.Proofs.Ytpdenhmkpiafiaa
namespace Go.Proofs.Ytpdenhmkpiafiaa
open Go Go.RowKit K6
def t15 : Txv := ⟨15, 7, none, 0, [], none, 0, [], none, 0, [], cm0⟩
theorem t15_ok (w : World) : TxOk w t15 :=
  ⟨⟨by decide, by decide⟩, ⟨by decide, by decide⟩, Rs.nil _ _ _, (fun _ h => (by cases h)), Us.nil w, (fun _ h => (by cases h)), Rs.nil _ _ _, (fun _ h => (by cases h)), cm0_ok w⟩
theorem t15_light : LightT t15 := ⟨by decide, by decide, by decide, by decide, by decide, fun _ h => (by cases h)⟩
set_option maxRecDepth 100000 in
theorem t15_good : goodK t15.key = true := by
  unfold goodK
  have h1 : shpOf t15.key.1 = ⟨0, false, 0, false, 0, false⟩ := by kernel_rfl
  rw [h1]
  simp only [if_neg (show ¬ (false = true) by decide)]
  have h2 : decide (t15.key.2.2.2.2.2 = cm0.key) = true := decide_eq_true rfl
  rw [h2]
  decide +kernel
theorem t15_bytes : bytK t15.key = [15, 7] := by
  have h1 : shpOf t15.key.1 = ⟨0, false, 0, false, 0, false⟩ := by kernel_rfl
  have h2 : putK t15.key = [15, 7] := by
    unfold putK
    rw [h1]
    show enc 15 ++ (enc 7 ++ _) = _
    rw [enc_low (by decide), enc_low (by decide)]
    rfl
  unfold bytK
  rw [if_pos t15_good, h2]
  rfl
set_option maxRecDepth 100000 in
set_option maxHeartbeats 64000000 in
theorem lives15U (w : World) : Calls Try.prog 133 #[] w fun e w' => e = .returned (.bool true) ∧ Below w.heap.size w w' := by
  have kb := fun wx => txbytes_at t15 wx (t15_ok wx) t15_light
  rw [t15_bytes] at kb
  have hcs : t15.cs.toArray = #[.int .i64 15, .int .i64 7, .slice none 0 0, .slice none 0 0, .slice none 0 0, .int .i64 0, .int .i64 0, .int .i64 0, .int .u8 0, .int .u8 0, .int .u8 0, .int .u8 0, .int .u8 0, .int .u8 0, .int .u8 0, .int .u8 0, .int .u8 0, .int .u8 0, .int .u8 0, .int .u8 0, .int .u8 0, .int .u8 0, .int .u8 0, .int .u8 0, .int .u8 0, .int .u8 0, .int .u8 0, .int .u8 0, .int .u8 0, .int .u8 0, .int .u8 0, .int .u8 0, .int .u8 0, .int .u8 0, .int .u8 0, .int .u8 0, .int .u8 0, .int .u8 0, .int .u8 0, .int .u8 0, .slice none 0 0, .slice none 0 0, .int .i64 0] := by kernel_rfl
  rw [hcs] at kb
  replace kb := Lib.hid kb
  have hSB : Hid (strOfNums [15, 7] = ByteArray.mk #[15, 7]) := Lib.hid (by kernel_rfl)
  clear hcs
  go_enter Try.func133, Try.ntmps133
  go_upto_region 1 with (fail)
  let L : List Sp := [sF 1 [] [] [] (fun _ => True) (fun x w => Bs w x.v [15, 7]), sV 2 [1] [1] (fun u => u = .string (ByteArray.mk #[15, 7]))]
  refine wp_region_six0 (shs L) (look6 L) (None_) (by kernel_rfl) (by kernel_rfl) (mk_St L [] [] (by kernel_rfl) (by kernel_rfl) ⟨ok_F (any_some _) (fun _ _ _ h hb => Bs.below h hb), ok_V ⟨_, rfl⟩, trivial⟩ (by simp)) ?_
  intro QQ hQ
  refine stepK rfl (by kernel_rfl) (fun K hK => ?_); go_simp
  apply Exists.intro; apply And.intro; (focus (intro wk hk; go_simp; exact ⟨rfl, rfl⟩)); refine hK _ _ ?_; clear hK K
  refine stepS _ rfl (by kernel_rfl) (fun K hK => ?_); go_simp
  refine ⟨?_, ?_⟩
  · intro wk hk hg hu; go_simp; refine upon_enter ((kb.out _).mono ?_); rintro e w' ⟨v, rfl, hv, hb9⟩; exact ⟨_, rfl, left_F rfl rfl hb9 trivial hv.bs⟩
  rintro ⟨v1, lo1, hi1⟩ - - -
  refine hK _ _ ?_; clear hK K
  refine stepS _ rfl (by kernel_rfl) (fun K hK => ?_); go_simp
  refine ⟨?_, ?_⟩
  · intro wk hk hg hu; have u1 := hu 1 (show 1 ∈ [1] by decide); have b1 : Bs wk v1 [15, 7] := u1; have cv := Bs.convA b1; rw [hSB.out] at cv; go_simp; exact left_V (p := fun u => u = .string (ByteArray.mk #[15, 7])) rfl (Below.refl _ _) rfl
  rintro ⟨v2, lo2, hi2⟩ - - (rfl : v2 = _)
  refine hK _ _ ?_; clear hK K
  refine stepK rfl (by kernel_rfl) (fun K hK => ?_); go_simp
  apply Exists.intro; apply And.intro; (focus (intro wk hk; go_simp; exact ⟨rfl, rfl⟩)); refine hK _ _ ?_; clear hK K
  refine stepK rfl (by kernel_rfl) (fun K hK => ?_); go_simp
  apply Exists.intro; apply And.intro; (focus (intro wk hk; go_simp; exact ⟨rfl, rfl⟩)); refine hK _ _ ?_; clear hK K
  refine stepN ?_
  refine hQ _ _ ?_
  intro w9 hT hG hF
  have H9 := Lib.hid (hT.below)
  clear hT hG hF hQ QQ L kb
  go_wp2_with fail
  go_ret
  exact ⟨by first | rfl | (simp; done), H9.out⟩
end Go.Proofs.Ytpdenhmkpiafiaa
namespace Go.Proofs.Ytpdenhmkpiafiaa
open Go Go.RowKit K6
theorem wpList_loadA {ops : Array Oper} {rest : List Oper} {o : Oper} {a : Act} {Q : Exit → Act → World → Prop} {w : World} {ty : TypeId} {x : Operand} {b t n : Nat} {cs : Array Value} (hgd : o.guard = none) (ho : o.op = .load ty x) (hx : a.eval x = .pointer (some ⟨b, 0, none⟩)) (T : AggT Try.prog ty n) (hr : Row w b t cs) (hs : cs.size = n)
    (h : wpList Try.prog ops Q rest (a.put o.dst (.agg cs)) w) : wpList Try.prog ops Q (o :: rest) a w := by
  refine wpList_plain hgd fun K hK => ?_
  have h' := T.load (w := w) hr hs
  unfold Oper.wp execOp
  simp only [ho, hx, Instr.loadAt, Instr.sureAddr, Sem.run_bind, Sem.run_pure, Result.andThen_ok, h']
  exact hK _ _ h
theorem tr_setRow {w : World} {b : Nat} {cs : Array Value} : Tr (fun c => c = b) w (w.setRow b cs) :=
  ⟨rfl, rfl, rfl, by simp [World.setRow], fun _ _ hc => heap_setRow_ne hc⟩
theorem wpList_storeA {ops : Array Oper} {rest : List Oper} {o : Oper} {a : Act} {Q : Exit → Act → World → Prop} {w : World} {ty : TypeId} {x y : Operand} {b t : Nat} {old cs : Array Value} (hgd : o.guard = none) (ho : o.op = .store ty x y) (hx : a.eval x = .pointer (some ⟨b, 0, none⟩)) (hy : a.eval y = .agg cs) (hr : Row w b t old)
    (hi : (Try.prog.info? ty).map (·.size) = some cs.size) (hold : old.size = cs.size) (h1 : cs.all (·.oneCell') = true) (h : ∀ w', Row w' b t cs → Tr (fun c => c = b) w w' → wpList Try.prog ops Q rest (a.put o.dst undef) w') : wpList Try.prog ops Q (o :: rest) a w := by
  refine wpList_plain hgd fun K hK => ?_
  unfold Oper.wp
  rw [run_store_row ho hx hy hr hi hold h1]
  exact hK _ _ (h _ (row_setRow hr) tr_setRow)
theorem below_store {w wa w' : World} (ha : Below w.heap.size w wa) (ht : Tr (fun c => c = w.heap.size) wa w') : Below w.heap.size w w' := ha.trans (ht.below_of ha.size (fun _ hc => Nat.le_of_eq hc.symm))
end Go.Proofs.Ytpdenhmkpiafiaa
namespace Go.Proofs.Ytpdenhmkpiafiaa
open Go Go.RowKit K6
structure ManR {α : Type} (one : St → α × St) (Own : World → Nat → Value → List α → Prop) (w wr : World) (g : Nat) (q : Option Nat) (B : Nat) (v : Value) (gg : Nat) (LX : List α) (e3 : Int) (x3 : List Int) (es : Int) (ys : List Int) (K : List α) : Prop where
  own : Own wr B v K
  src : SR wr g q es ys
  tr : Tr (fun b => b = g) w wr
  mi : MI one gg es ys K LX e3 x3
  len : K.length + gg ≤ 1000
  sz : B ≤ wr.heap.size
def RManP {α : Type} (Own : World → Nat → Value → List α → Prop) (w : World) (g : Nat) (q : Option Nat) (LX : List α) (e3 : Int) (x3 : List Int) (r : Ending) (w' : World) : Prop := ∃ v, r = .returned v ∧ Own w' w.heap.size v LX ∧ SR w' g q e3 x3 ∧ Tr (fun b => b = g) w w'
theorem rhash_V {w : World} {g : Nat} {q : Option Nat} {e e4 : Int} {xs y4 a : List Int} (h : SR w g q e xs) (hq : ∀ b, q = some b → b < w.heap.size) (hg : gH (e, xs) = (a, e4, y4)) : Calls Try.prog 180 #[.pointer (some ⟨g, 0, none⟩)] w (RGotV w g q (.agg (bv a).toArray) e4 y4) := by
  have h := rhash_at h hq
  rw [hg] at h
  exact h
set_option maxRecDepth 100000 in
set_option maxHeartbeats 64000000 in
theorem ways_at {w : World} {g : Nat} {q : Option Nat} {e : Int} {xs : List Int} (h : SR w g q e xs) (hq0 : ∀ b, q = some b → b < w.heap.size) {P : List (List Int)} {e3 : Int} {x3 : List Int} (hg : gPr (e, xs) = (P, e3, x3)) :
    Calls Try.prog 252 #[.pointer (some ⟨g, 0, none⟩)] w (RManP Oh w g q P e3 x3) := by
  obtain ⟨N, e2, x2, hg2⟩ := tri (gV 10 (e, xs))
  have hgm : gMany gH N (e2, x2) = (P, e3, x3) := by
    unfold gPr at hg
    rw [hg2] at hg
    exact hg
  have hn : N ≤ 10 := by
    have h1 := gV_most (most := 10) (s := (e, xs)) (by decide)
    rw [hg2] at h1
    simp only at h1
    omega
  have kv0 := Lib.hid (rvar_V h hg2)
  have hgw := h.lt
  obtain ⟨B, hB⟩ : ∃ B, w.heap.size = B := ⟨_, rfl⟩
  have hqb : ∀ b, q = some b → b < B := fun b hb => by rw [← hB]; exact hq0 b hb
  rw [hB] at hgw
  replace hgm := Lib.hid hgm
  clear h hg2 hg hq0
  go_enter Try.func252, Try.ntmps252
  go_wp2_with fail
  refine kv0.out.mono ?_
  rintro r w7 ⟨rfl, hs, ht⟩
  have hsz7 := ht.size
  have H7 : ManR gH Oh w w7 g q B (.slice none 0 0) N P e3 x3 e2 x2 [] := ⟨Oh.nil _ _, hs, ht, MI.start hgm.out, (by show 0 + N ≤ 1000; omega), by omega⟩
  replace H7 := Lib.hid H7
  clear hs ht kv0 hgm hsz7
  go_wp2_with fail
  go_loopg [3, 4] N (fun gg s3 s4 wr => ∃ (mo : Int) (es : Int) (ys : List Int) (K : List (List Int)), s4 = .int .i64 mo ∧ Hid (mo = (gg : Int)) ∧ Hid (ManR gH Oh w wr g q B s3 gg P e3 x3 es ys K))
  case atStart => exact ⟨(N : Int), e2, x2, [], rfl, Lib.hid rfl, H7⟩
  case round =>
    clear H7
    obtain ⟨mo, es, ys, K, rfl, HMO, hinv⟩ := hrel
    obtain ⟨i, hiK⟩ : ∃ i, K.length = i := ⟨_, rfl⟩
    obtain ⟨q0, c0, hv0⟩ := own_sl (show wr.ownsRow B 35 32 u3 _ _ from hinv.out.own)
    rw [hiK] at hv0
    subst hv0
    by_cases hg0 : gk = 0
    · subst hg0
      have hz : ¬ (0 : Int) < mo := by have := HMO.out; omega
      obtain ⟨rfl, rfl, rfl⟩ := hinv.out.mi.stop (.inr rfl)
      clear HMO
      go_wp2_with fail
      go_ret
      exact ⟨_, rfl, by first | exact hinv.out.own | (rw [hB]; exact hinv.out.own), hinv.out.src, hinv.out.tr⟩
    · obtain ⟨gn, rfl⟩ : ∃ gn, gk = gn + 1 := ⟨gk - 1, by omega⟩
      have hz : (0 : Int) < mo := by have := HMO.out; omega
      have cE := hinv.out.src.e1
      by_cases hes : es = 0
      · subst hes
        have hlen := hinv.out.len
        have wm : IntKind.i64.wrap (mo - 1) = mo - 1 := by have := HMO.out; rw [IntKind.wrap_i64]; omega
        obtain ⟨own, src, tr, mi, -, hsz⟩ := hinv.out
        clear hinv
        obtain ⟨a, e4, y4, hg4⟩ := tri (gH (0, ys))
        have hgo := hg4
        have ha32 : a.length = 32 := by have h := gH_len (0, ys); rw [hg4] at h; exact h
        have ka0 := rhash_V src (fun b hb => by have := hqb b hb; omega) hg4
        obtain ⟨z0, z1, z2, z3, z4, z5, z6, z7, z8, z9, z10, z11, z12, z13, z14, z15, z16, z17, z18, z19, z20, z21, z22, z23, z24, z25, z26, z27, z28, z29, z30, z31, rfl⟩ := list32 ha32
        have ka := Lib.hid (show Calls Try.prog 180 #[.pointer (some ⟨g, 0, none⟩)] wr (RGotV wr g q (.agg #[.int .u8 z0, .int .u8 z1, .int .u8 z2, .int .u8 z3, .int .u8 z4, .int .u8 z5, .int .u8 z6, .int .u8 z7, .int .u8 z8, .int .u8 z9, .int .u8 z10, .int .u8 z11, .int .u8 z12, .int .u8 z13, .int .u8 z14, .int .u8 z15, .int .u8 z16, .int .u8 z17, .int .u8 z18, .int .u8 z19, .int .u8 z20, .int .u8 z21, .int .u8 z22, .int .u8 z23, .int .u8 z24, .int .u8 z25, .int .u8 z26, .int .u8 z27, .int .u8 z28, .int .u8 z29, .int .u8 z30, .int .u8 z31]) e4 y4) from ka0)
        have mi' := Lib.hid (mi.step hgo)
        have HO := Lib.hid (show _ ∧ _ ∧ _ ∧ _ from ⟨own, tr, (show K.length + (gn + 1) ≤ 1000 from hlen), hsz⟩)
        clear own src tr mi hlen hsz hg4 hgo ka0 ha32
        go_wp2_with fail
        refine ka.out.mono ?_
        rintro r w9 ⟨rfl, hs9, ht9⟩
        obtain ⟨own, tr, hlen, hsz⟩ := HO.out
        clear HO ka cE
        have own' := own_tr (show wr.ownsRow B 35 32 _ _ _ from own) ht9 (fun b hb hc => by have h1 := (own_lt (show wr.ownsRow B 35 32 _ _ _ from own) b hb).1; have hc' : b = g := hc; omega)
        rw [hiK] at own'
        have hsz9 := Nat.le_trans hsz ht9.size
        obtain ⟨v', w', hrun, ho, hT, -⟩ := app_step appT111 (cs := #[.int .u8 z0, .int .u8 z1, .int .u8 z2, .int .u8 z3, .int .u8 z4, .int .u8 z5, .int .u8 z6, .int .u8 z7, .int .u8 z8, .int .u8 z9, .int .u8 z10, .int .u8 z11, .int .u8 z12, .int .u8 z13, .int .u8 z14, .int .u8 z15, .int .u8 z16, .int .u8 z17, .int .u8 z18, .int .u8 z19, .int .u8 z20, .int .u8 z21, .int .u8 z22, .int .u8 z23, .int .u8 z24, .int .u8 z25, .int .u8 z26, .int .u8 z27, .int .u8 z28, .int .u8 z29, .int .u8 z30, .int .u8 z31]) own' rfl (by kernel_rfl) (by omega) hsz9
        have hlt9 := fun b hb => (own_lt own' b hb).1
        have H := Lib.hid (show ManR gH Oh w w' g q B v' gn P e3 x3 e4 y4 (K ++ [[z0, z1, z2, z3, z4, z5, z6, z7, z8, z9, z10, z11, z12, z13, z14, z15, z16, z17, z18, z19, z20, z21, z22, z23, z24, z25, z26, z27, z28, z29, z30, z31]]) from ⟨by unfold Oh; rw [List.length_append, flat_snoc, hiK]; exact ho, hs9.keep hT (fun hx => by have := hlt9 _ hx; omega) (fun b hb hx => by have := hlt9 b hx; have := hqb b hb; omega), (tr.trans ht9).trans_new hT (fun b hc hlt => by have := hlt9 b hc; omega), mi'.out, by rw [List.length_append]; show K.length + 1 + gn ≤ 1000; omega, Nat.le_trans hsz9 hT.size⟩)
        clear own own' ho hT hs9 ht9 tr mi' hlt9 hlen hsz hsz9
        go_wp2_with (at_builtin; refine wpList_app rfl rfl rfl rfl hrun ?_)
        go_roundg gn
        case measure => omega
        case rel => exact ⟨mo - 1, e4, y4, K ++ [[z0, z1, z2, z3, z4, z5, z6, z7, z8, z9, z10, z11, z12, z13, z14, z15, z16, z17, z18, z19, z20, z21, z22, z23, z24, z25, z26, z27, z28, z29, z30, z31]], rfl, Lib.hid (by have := HMO.out; omega), H⟩
      · have hq : (es == 0) = false := by rw [beq_eq_false_iff_ne]; exact hes
        obtain ⟨rfl, rfl, rfl⟩ := hinv.out.mi.stop (.inl hes)
        clear HMO
        go_wp2_with fail
        go_ret
        exact ⟨_, rfl, by first | exact hinv.out.own | (rw [hB]; exact hinv.out.own), hinv.out.src, hinv.out.tr⟩
end Go.Proofs.Ytpdenhmkpiafiaa
