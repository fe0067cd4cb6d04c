/-
  tallagelaw14.EventReads, THE WALK.
-/
import Derived.Test.YtpdenhmkpiafiaaEvParse2
import Derived.Test.YtpdenhmkpiafiaaEvText
import Derived.Test.YtpdenhmkpiafiaaFrameR
namespace Go.Proofs.Ytpdenhmkpiafiaa
open Go Go.RowKit K6

set_option maxRecDepth 100000 in
set_option maxHeartbeats 32000000 in
theorem reads14_walk (q : Option Addr) (c : Nat) (xs : List Int) (hx : By xs) (qb : Option Nat) (w : World) (hb0 : Bs w (.slice q xs.length c) xs) (hs0 : SRv w qb (.slice q xs.length c) xs) (hqb : ∀ b, qb = some b → b < w.heap.size) :
    Calls Try.prog 27 #[.slice q xs.length c] w (Ret w (.bool true)) := by
  have lv := Lib.hid lives14U
  obtain ⟨n0, hn0⟩ : ∃ n, xs.length = n := ⟨_, rfl⟩
  rw [hn0] at hb0 hs0 ⊢
  by_cases h5 : 5000 < n0
  · have hn1 : (5000 : Int) < (n0 : Int) := by omega
    clear hb0 h5 hn0 hs0 hqb hx
    go_enter Try.func27, Try.ntmps27
    go_wp2_with fail
    refine (lv.out _).mono ?_
    rintro e w1 ⟨rfl, hb⟩
    have H := Lib.hid hb
    clear hb
    go_wp2_with fail
    go_ret
    exact ⟨rfl, H.out⟩
  have hn1 : (n0 : Int) ≤ 5000 := by omega
  have hL : xs.length ≤ 100000000 := by omega
  obtain ⟨cd, s1, hg⟩ : ∃ c s, gV 19 (0, xs) = (c, s) := ⟨_, _, rfl⟩
  obtain ⟨e0, he0⟩ : ∃ x, rdE (0, xs) = x := ⟨_, rfl⟩
  obtain ⟨e1, he1⟩ : ∃ x, rdE s1 = x := ⟨_, rfl⟩
  obtain ⟨cr, hcr⟩ : ∃ x, (if rdE s1 = 0 then (cd : Int) else 0) = x := ⟨_, rfl⟩
  have k1 := fun wx (hb : Below w.heap.size w wx) => parse_at _ xs wx (hb0.below hb) hx hL
  have k2 := fun wx (hb : Below w.heap.size w wx) => rparse_at _ xs qb wx (hs0.keep (X := None_) (Tr.of hb) fun _ _ => id) (fun b h => Nat.lt_of_lt_of_le (hqb b h) hb.size) hx hL
  have k3 := fun wx (hb : Below w.heap.size w wx) => tores_at _ xs wx (hb0.below hb) hx hL hg
  have k4 := fun wx (hb : Below w.heap.size w wx) => rtores_at _ xs qb wx (hs0.keep (X := None_) (Tr.of hb) fun _ _ => id) (fun b h => Nat.lt_of_lt_of_le (hqb b h) hb.size) hx hL hg
  simp only [hcr] at k3 k4
  simp only [he0] at k1 k2
  simp only [he1] at k3 k4
  replace k1 := Lib.hid k1
  replace k2 := Lib.hid k2
  replace k3 := Lib.hid k3
  replace k4 := Lib.hid k4
  clear hb0 hs0 hqb hx hn0 hL hg he0 he1 hcr h5
  go_enter Try.func27, Try.ntmps27
  go_wp2_with fail
  refine (k1.out _ (Below.refl _ _)).mono ?_
  rintro e w1 ⟨l, E, rfl, ho1, hk1, hb1⟩
  have H1 := Lib.hid (show _ ∧ _ ∧ _ from ⟨ho1.es, hk1, hb1⟩)
  clear k1 ho1 hk1 hb1
  go_wp2_with fail
  refine (k2.out _ H1.out.2.2).mono ?_
  rintro e w2 ⟨m, E2, rfl, ho2, hk2, hb2⟩
  have H2 := Lib.hid (show _ ∧ _ ∧ _ ∧ _ from ⟨ho2.es, hk2, H1.out.1.below hb2, H1.out.2.2.trans (hb2.mono H1.out.2.2.size)⟩)
  clear k2 ho2 hk2 hb2
  go_wp2_with fail
  refine (k3.out _ H2.out.2.2.2).mono ?_
  rintro e w3 ⟨x, E3, rfl, ho3, hk3, hb3⟩
  have H3 := Lib.hid (show _ ∧ _ ∧ _ ∧ _ ∧ _ from ⟨ho3.es, hk3, H2.out.2.2.1.below hb3, H2.out.1.below hb3, H2.out.2.2.2.trans (hb3.mono H2.out.2.2.2.size)⟩)
  clear k3 ho3 hk3 hb3
  go_wp2_with fail
  refine (k4.out _ H3.out.2.2.2.2).mono ?_
  rintro e w4 ⟨y, E4, rfl, ho4, hk4, hb4⟩
  have H4 := Lib.hid (show _ ∧ _ ∧ _ ∧ _ ∧ _ ∧ _ from ⟨ho4.es, hk4, H3.out.1.below hb4, H3.out.2.2.1.below hb4, H3.out.2.2.2.1.below hb4, H3.out.2.2.2.2.trans (hb4.mono H3.out.2.2.2.2.size)⟩)
  clear k4 ho4 hk4 hb4
  have sh1 := rd_short H1.out.2.1
  have sh3 := rd_short H3.out.2.1
  have c1 : ∀ wx, Below w4.heap.size w4 wx → Calls Try.prog 78 #[l, m] wx fun r w' => r = .returned (.bool true) ∧ Below wx.heap.size wx w' := fun wx hb => by
    have h := refsame_at l m E E2 wx (H4.out.2.2.2.1.below hb) (H4.out.2.2.2.2.1.below hb) (by omega) (fun e he => by have := sh1.2 e he; omega)
    rw [show sameE E E2 = true from decide_eq_true (by rw [H1.out.2.1, H2.out.2.1])] at h
    exact h
  have c2 : ∀ wx, Below w4.heap.size w4 wx → Calls Try.prog 78 #[x, y] wx fun r w' => r = .returned (.bool true) ∧ Below wx.heap.size wx w' := fun wx hb => by
    have h := refsame_at x y E3 E4 wx (H4.out.2.2.1.below hb) (H4.out.1.below hb) (by omega) (fun e he => by have := sh3.2 e he; omega)
    rw [show sameE E3 E4 = true from decide_eq_true (by rw [H3.out.2.1, H4.out.2.1])] at h
    exact h
  replace c1 := Lib.hid c1
  replace c2 := Lib.hid c2
  have HB := Lib.hid H4.out.2.2.2.2.2
  clear sh1 sh3 H1 H2 H3 H4
  go_wp2_with fail
  refine (c1.out _ (Below.refl _ _)).mono ?_
  rintro e w5 ⟨rfl, hb5⟩
  have h45 := Lib.hid hb5
  clear hb5 c1
  go_wp2_with fail
  refine (c2.out _ h45.out).mono ?_
  rintro e w6 ⟨rfl, hb6⟩
  have h46 := Lib.hid (h45.out.trans (hb6.mono h45.out.size))
  clear hb6 c2 h45
  go_wp2_with fail
  refine (lv.out _).mono ?_
  rintro e w7 ⟨rfl, hb7⟩
  have h47 := Lib.hid (h46.out.trans (hb7.mono h46.out.size))
  clear hb7 h46
  go_wp2_with fail
  go_ret
  exact ⟨rfl, HB.out.trans (h47.out.mono HB.out.size)⟩
end Go.Proofs.Ytpdenhmkpiafiaa
