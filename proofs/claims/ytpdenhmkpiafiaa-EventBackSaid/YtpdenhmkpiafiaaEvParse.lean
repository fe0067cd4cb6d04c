/-
  Events, and results, out of bytes: Parse (143), ToResult (145).
-/
import Derived.Test.YtpdenhmkpiafiaaEvRead2
namespace Go.Proofs.Ytpdenhmkpiafiaa
open Go Go.RowKit K6

/-- what a call leaves that reads events: these, of its own, and the fault -/
def ParP (w : World) (L : List (Int × List Nat)) (er : Int) (r : Ending) (w' : World) : Prop := ∃ v E, r = .returned (.tuple #[v, .int .i64 er]) ∧ Eo w' w.heap.size v E ∧ E.map Ev.key = L ∧ Below w.heap.size w w'
/-- likewise of a result -/
def ResP (w : World) (c : Int) (L : List (Int × List Nat)) (er : Int) (r : Ending) (w' : World) : Prop := ∃ v E, r = .returned (.tuple #[.int .i64 c, v, .int .i64 er]) ∧ Eo w' w.heap.size v E ∧ E.map Ev.key = L ∧ Below w.heap.size w w'
set_option maxRecDepth 100000 in
set_option maxHeartbeats 16000000 in
theorem parse_at (u : Value) (xs : List Int) (w : World) (h : Bs w u xs) (hby : By xs) (hL : xs.length ≤ 100000000) :
    Calls Try.prog 143 #[u] w (ParP w (rdL (0, xs)) (rdE (0, xs))) := by
  have kr := Lib.hid ((read_any u xs w h hL).mono fun r w' hr => hr.sa hby hL)
  obtain ⟨ER, hER⟩ : ∃ x, rdE (0, xs) = x := ⟨_, rfl⟩
  obtain ⟨LR, hLR⟩ : ∃ x, rdL (0, xs) = x := ⟨_, rfl⟩
  rw [hER, hLR]
  have HR := Lib.hid (show _ ∧ _ from ⟨hER, hLR⟩)
  obtain ⟨B, hB⟩ : ∃ B, w.heap.size = B := ⟨_, rfl⟩
  clear h hby hER hLR
  go_enter Try.func143, Try.ntmps143
  go_wp2_with fail
  refine kr.out.mono ?_
  rintro r w1 ⟨g, rfl, hs, hb⟩
  have hg := hs.1
  have kd := read_at hs (Nat.le_refl _)
  rw [HR.out.1, HR.out.2] at kd
  replace kd := Lib.hid kd
  have hsz := hb.size
  have HB := Lib.hid hb
  clear hs hb kr
  go_wp2_with fail
  refine kd.out.mono ?_
  rintro r w2 ⟨v, E, rfl, ho, hk, ht⟩
  have H2 := Lib.hid (show Eo w2 w.heap.size v E ∧ E.map Ev.key = LR ∧ Below w.heap.size w w2 from ⟨ho.base hsz, hk, HB.out.trans (ht.below_of hsz (by intro c hc; have hc' : c = g := hc; omega))⟩)
  clear ho hk ht kd HB
  go_wp2_with fail
  go_ret2
  unfold ParP
  exact ⟨v, E, rfl, H2.out.1, H2.out.2.1, H2.out.2.2⟩
set_option maxRecDepth 100000 in
set_option maxHeartbeats 16000000 in
theorem tores_at (u : Value) (xs : List Int) (w : World) (h : Bs w u xs) (hby : By xs) (hL : xs.length ≤ 100000000) {c : Nat} {s : St} (hg : gV 19 (0, xs) = (c, s)) :
    Calls Try.prog 145 #[u] w (ResP w (if rdE s = 0 then (c : Int) else 0) (rdL s) (rdE s)) := by
  have kr := Lib.hid ((read_any u xs w h hL).mono fun r w' hr => hr.sa hby hL)
  obtain ⟨e1, x1⟩ := s
  have hc19 : c ≤ 19 := by
    have h1 := gV_most (most := 19) (s := (0, xs)) (by decide)
    rw [hg] at h1
    simp only at h1
    omega
  obtain ⟨ER, hER⟩ : ∃ x, rdE (e1, x1) = x := ⟨_, rfl⟩
  obtain ⟨LR, hLR⟩ : ∃ x, rdL (e1, x1) = x := ⟨_, rfl⟩
  rw [hER, hLR]
  have HR := Lib.hid (show _ ∧ _ from ⟨hER, hLR⟩)
  have HN := Lib.hid (show ER ≠ 0 → LR = [] from fun hne => by rw [← hLR]; unfold rdL; rw [hER, if_neg hne])
  obtain ⟨CR, hCR⟩ : ∃ x, (if ER = 0 then (c : Int) else 0) = x := ⟨_, rfl⟩
  rw [hCR]
  replace hCR := Lib.hid hCR
  have kv := Lib.hid fun wx lo hi gg (hs : SA wx lo hi gg 0 xs) => svar_V hs hg
  obtain ⟨B, hB⟩ : ∃ B, w.heap.size = B := ⟨_, rfl⟩
  clear h hby hER hLR hg
  go_enter Try.func145, Try.ntmps145
  go_wp2_with fail
  refine kr.out.mono ?_
  rintro r w1 ⟨g, rfl, hs, hb⟩
  have hg := hs.1
  have hsz := hb.size
  have k2 := Lib.hid (kv.out _ _ _ _ hs)
  have HB := Lib.hid hb
  clear hs hb kr kv
  have wc : IntKind.i64.wrap (c : Int) = (c : Int) := by rw [IntKind.wrap_i64]; omega
  go_wp2_with fail
  refine k2.out.mono ?_
  rintro r w2 ⟨rfl, hs, ht⟩
  have kd := read_at hs (by have := ht.size; omega)
  rw [HR.out.1, HR.out.2] at kd
  replace kd := Lib.hid kd
  have hsz2 : w.heap.size ≤ w2.heap.size := Nat.le_trans hsz ht.size
  have HB2 := Lib.hid (HB.out.trans (ht.below_of hsz (by intro c hc; have hc' : c = g := hc; omega)))
  clear hs ht k2 HB
  go_wp2_with fail
  refine kd.out.mono ?_
  rintro r w3 ⟨v, E, rfl, ho, hk, ht⟩
  have H2 := Lib.hid (show Eo w3 w.heap.size v E ∧ E.map Ev.key = LR ∧ Below w.heap.size w w3 from ⟨ho.base hsz2, hk, HB2.out.trans (ht.below_of hsz2 (by intro c hc; have hc' : c = g := hc; omega))⟩)
  clear ho hk ht kd HB2
  by_cases hE : ER = 0
  · subst hE
    have hC0 := Lib.hid (show CR = (c : Int) from by have h := hCR.out; simpa using h.symm)
    go_wp2_with fail
    go_ret3
    unfold ResP
    exact ⟨v, E, by rw [hC0.out]; rfl, H2.out.1, H2.out.2.1, H2.out.2.2⟩
  · have hne : (ER != 0) = true := by rw [bne_iff_ne]; exact hE
    have hE' := Lib.hid hE
    have hC0 := Lib.hid (show CR = 0 from by have h := hCR.out; rw [if_neg hE] at h; exact h.symm)
    clear hE
    go_wp2_with fail
    go_ret3
    unfold ResP
    exact ⟨_, [], by rw [hC0.out]; rfl, Eo.nil _ _, by rw [HN.out hE'.out]; rfl, H2.out.2.2⟩
end Go.Proofs.Ytpdenhmkpiafiaa
