/-
  The reference of chapter 01: slices of 32-bit digits; trim (197).
-/
import Derived.Test.YtpdenhmkpiafiaaFrom
import Derived.Test.YtpdenhmkpiafiaaRefPlain
namespace Go.Proofs.Ytpdenhmkpiafiaa
open Go Go.RowKit Ref

/-- digit i of a row, nought behind its end -/
def dg (xs : List Nat) (i : Nat) : Nat := xs.getD i 0
theorem dg_some {xs : List Nat} {i : Nat} (h : i < xs.length) : xs[i]? = some (dg xs i) := by
  unfold dg
  rw [List.getD_eq_getElem?_getD, List.getElem?_eq_getElem h, Option.getD_some]
theorem dg_take {xs : List Nat} {n i : Nat} (h : i < n) : dg (xs.take n) i = dg xs i := by
  unfold dg
  rw [List.getD_eq_getElem?_getD, List.getD_eq_getElem?_getD, List.getElem?_take, if_pos h]

/-- a slice value reads as these digits -/
def Sl (w : World) (v : Value) (xs : List Nat) : Prop :=
  ∃ r c, v = .slice r xs.length c ∧ xs.length ≤ c ∧ (r = none → c = 0) ∧ ∀ a, r = some a → ∃ g o, a = ⟨g, o, none⟩ ∧ g < w.heap.size ∧ ∀ i, i < xs.length → w.cell? ⟨g, o + i, none⟩ = some (.int .u32 ((dg xs i : Nat) : Int))
theorem Sl.below {w w' : World} {v : Value} {xs : List Nat} (h : Sl w v xs) (hb : Below w.heap.size w w') : Sl w' v xs := by
  obtain ⟨r, c, e, hc, h0, h1⟩ := h
  refine ⟨r, c, e, hc, h0, fun a ha => ?_⟩
  obtain ⟨g, o, e, hg, hi⟩ := h1 a ha
  exact ⟨g, o, e, Nat.lt_of_lt_of_le hg hb.size, fun i h => ((bcell hb).1 g (o + i) hg).trans (hi i h)⟩
/-- the slice cut short -/
theorem Sl.cut {w : World} {r : Option Addr} {n c k : Nat} {xs : List Nat} (h : Sl w (.slice r n c) xs) (hk : k ≤ n) : Sl w (.slice r k c) (xs.take k) := by
  obtain ⟨r', c', e, hc, h0, h1⟩ := h
  cases e
  have hl : (xs.take k).length = k := by rw [List.length_take]; omega
  refine ⟨r, c, by rw [hl], by omega, h0, fun a ha => ?_⟩
  obtain ⟨g, o, e, hg, hi⟩ := h1 a ha
  refine ⟨g, o, e, hg, fun i hi' => ?_⟩
  rw [hl] at hi'
  rw [dg_take hi']
  exact hi i (by omega)

set_option maxRecDepth 100000 in
set_option maxHeartbeats 2000000 in
theorem trim_any (v : Value) (xs : List Nat) (w : World) (hD : Dig xs) (hs : Sl w v xs) (hL : xs.length < 1099511627776) :
    Calls Try.prog 197 #[v] w fun e w' => w' = w ∧ ∃ u, e = .returned u ∧ Sl w u (digs (val xs)) := by
  have hs' := hs
  obtain ⟨r, c, rfl, hc, hr0, hr⟩ := hs'
  obtain ⟨n, hn⟩ : ∃ n, xs.length = n := ⟨_, rfl⟩
  rw [hn] at hc hr hL hs ⊢
  have HS := Lib.hid hs
  clear hs
  go_enter Try.func197, Try.ntmps197
  go_wp2_with fail
  go_loopg [3] n (fun gg s3 wr => gg ≤ n ∧ s3 = .int .i64 (gg : Int) ∧ wr = w ∧ val (xs.take gg) = val xs)
  case atStart => exact ⟨Nat.le_refl _, rfl, rfl, by rw [← hn, List.take_length]⟩
  case round =>
    obtain ⟨hk, rfl, rfl, hv⟩ := hrel
    rcases Nat.eq_zero_or_pos gk with h0 | h0
    · subst h0
      have HV := Lib.hid hv
      clear hv hr
      go_wp2_with fail
      go_ret
      refine ⟨rfl, _, rfl, ?_⟩
      rw [← trim_end hD (by omega) HV.out (Or.inl rfl)]
      exact HS.out.cut (Nat.zero_le _)
    · obtain ⟨g, o, ha, hg, hcell⟩ : ∃ g o, r = some ⟨g, o, none⟩ ∧ g < wr.heap.size ∧ ∀ i, i < n → wr.cell? ⟨g, o + i, none⟩ = some (.int .u32 ((dg xs i : Nat) : Int)) := by
        cases r with
        | none => exfalso; have := hr0 rfl; omega
        | some a => obtain ⟨g, o, e, h⟩ := hr a rfl; exact ⟨g, o, by rw [e], h⟩
      subst ha
      obtain ⟨j, rfl⟩ : ∃ j, gk = j + 1 := ⟨gk - 1, by omega⟩
      have cj := hcell j (by omega)
      have e1 : ((j : Int) + 1) - 1 = (j : Int) := by omega
      clear hr hcell hr0
      have hds := dg_some (xs := xs) (i := j) (by omega)
      obtain ⟨y, hy⟩ : ∃ y, dg xs j = y := ⟨_, rfl⟩
      rw [hy] at cj hds
      have HV := Lib.hid hv
      clear hv hy
      by_cases hz : y = 0
      · subst hz
        have HY := Lib.hid hds
        clear hds
        go_wp2_with fail
        go_roundg j
        case measure => omega
        case rel => exact ⟨by omega, rfl, rfl, by rw [← HV.out]; exact (take_val HY.out).symm⟩
      · have hz' : ((y : Int) == 0) = false := by simp; omega
        have HZ := Lib.hid hz
        have HY := Lib.hid hds
        clear hds hz
        go_wp2_with fail
        go_ret
        refine ⟨rfl, _, rfl, ?_⟩
        rw [← trim_end hD (by omega) HV.out (Or.inr (by rw [show j + 1 - 1 = j by omega, HY.out]; intro h; exact HZ.out (Option.some.inj h)))]
        exact HS.out.cut hk
end Go.Proofs.Ytpdenhmkpiafiaa
