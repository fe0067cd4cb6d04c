/-
  The reading of events from bytes, in plain Lean: what was put is got again; cut, it is short.
-/
import Derived.Test.YtpdenhmkpiafiaaOctPlain
namespace Go.Proofs.Ytpdenhmkpiafiaa
open Go Go.RowKit K6

/-- so many amounts, as long as all goes well -/
def gAs : Nat → St → List Nat × St
  | 0, s => ([], s)
  | n + 1, s => if s.1 = 0 then ((gA s).1 :: (gAs n (gA s).2).1, (gAs n (gA s).2).2) else ([], s)
/-- an event: its kind and its numbers -/
abbrev EvX := Nat × List Nat
def gE (s : St) : EvX × St :=
  if (gV 26 s).2.1 = 0 ∧ (gV 26 s).1 = 0 then ((0, []), (4, []))
  else (((gV 26 s).1, (gAs (gV 100 (gV 26 s).2).1 (gV 100 (gV 26 s).2).2).1), (gAs (gV 100 (gV 26 s).2).1 (gV 100 (gV 26 s).2).2).2)
def gEs : Nat → St → List EvX × St
  | 0, s => ([], s)
  | n + 1, s => if s.1 = 0 then ((gE s).1 :: (gEs n (gE s).2).1, (gEs n (gE s).2).2) else ([], s)
def gR (s : St) : List EvX × St := gEs (gV 1000 s).1 (gV 1000 s).2

theorem gAs_stop (n : Nat) {s : St} (h : s.1 ≠ 0) : gAs n s = ([], s) := by
  cases n with
  | zero => rfl
  | succ n => show (if _ then _ else _) = _; rw [if_neg h]
theorem gAs_go (n : Nat) {s : St} (h : s.1 = 0) : gAs (n + 1) s = ((gA s).1 :: (gAs n (gA s).2).1, (gAs n (gA s).2).2) := by
  show (if _ then _ else _) = _
  rw [if_pos h]
theorem gEs_stop (n : Nat) {s : St} (h : s.1 ≠ 0) : gEs n s = ([], s) := by
  cases n with
  | zero => rfl
  | succ n => show (if _ then _ else _) = _; rw [if_neg h]
theorem gEs_go (n : Nat) {s : St} (h : s.1 = 0) : gEs (n + 1) s = ((gE s).1 :: (gEs n (gE s).2).1, (gEs n (gE s).2).2) := by
  show (if _ then _ else _) = _
  rw [if_pos h]
theorem gAs_len (n : Nat) : ∀ s : St, (gAs n s).1.length ≤ n := by
  induction n with
  | zero => intro s; exact Nat.le_refl 0
  | succ n ih =>
    intro s
    by_cases h : s.1 = 0
    · rw [gAs_go n h]; exact Nat.succ_le_succ (ih _)
    · rw [gAs_stop _ h]; exact Nat.zero_le _
theorem gEs_len (n : Nat) : ∀ s : St, (gEs n s).1.length ≤ n := by
  induction n with
  | zero => intro s; exact Nat.le_refl 0
  | succ n ih =>
    intro s
    by_cases h : s.1 = 0
    · rw [gEs_go n h]; exact Nat.succ_le_succ (ih _)
    · rw [gEs_stop _ h]; exact Nat.zero_le _

/-! ### bytes stay bytes -/
theorem gV_by {most : Int} {s : St} (h : By s.2) : By (gV most s).2.2 := by
  unfold gV svR
  simp only
  split
  · exact h.drop _
  · exact By.nil
theorem gA_by {s : St} (h : By s.2) : By (gA s).2.2 := by
  unfold gA
  split
  · split
    · exact By.nil
    · rename_i c cs e
      rw [e] at h
      split
      · exact By.nil
      · split
        · exact h.tail.drop _
        · exact By.nil
  · exact By.nil
theorem gAs_by (n : Nat) : ∀ {s : St}, By s.2 → By (gAs n s).2.2 := by
  induction n with
  | zero => intro s h; exact h
  | succ n ih =>
    intro s h
    by_cases h0 : s.1 = 0
    · rw [gAs_go n h0]; exact ih (gA_by h)
    · rw [gAs_stop _ h0]; exact h
theorem gE_by {s : St} (h : By s.2) : By (gE s).2.2 := by
  unfold gE
  split
  · exact By.nil
  · exact gAs_by _ (gV_by (gV_by h))
theorem gAs_lt (n : Nat) : ∀ {s : St}, By s.2 → ∀ a ∈ (gAs n s).1, a < M := by
  induction n with
  | zero => intro s _ a h; cases h
  | succ n ih =>
    intro s h a ha
    by_cases h0 : s.1 = 0
    · rw [gAs_go n h0] at ha
      rcases List.mem_cons.1 ha with rfl | ha
      · exact gA_lt h
      · exact ih (gA_by h) a ha
    · rw [gAs_stop _ h0] at ha; cases ha
theorem gE_lt {s : St} (h : By s.2) : ∀ a ∈ (gE s).1.2, a < M := by
  unfold gE
  split
  · intro a ha; cases ha
  · exact gAs_lt _ (gV_by (gV_by h))
theorem gE_len (s : St) : (gE s).1.2.length ≤ 100 := by
  unfold gE
  split
  · exact Nat.zero_le _
  · refine Nat.le_trans (gAs_len _ _) ?_
    have := gV_most (s := (gV 26 s).2) (show (0 : Int) ≤ 100 by decide)
    omega
theorem gE_k (s : St) : (gE s).1.1 ≤ 26 := by
  unfold gE
  split
  · exact Nat.zero_le _
  · have := gV_most (s := s) (show (0 : Int) ≤ 26 by decide)
    show (gV 26 s).1 ≤ 26
    omega

/-! ### what was put is got -/
def evX (x : EvX) : List Int := enc x.1 ++ (enc x.2.length ++ x.2.flatMap amtL)
theorem gAs_put (r : List Int) : ∀ l : List Nat, (∀ a ∈ l, a < M) → gAs l.length (0, l.flatMap amtL ++ r) = (l, 0, r)
  | [], _ => rfl
  | a :: l, h => by
    rw [List.length_cons, gAs_go _ rfl, List.flatMap_cons, List.append_assoc, gA_amt _ (h a (List.mem_cons_self ..))]
    rw [gAs_put r l fun x hx => h x (List.mem_cons_of_mem _ hx)]
structure OkX (x : EvX) : Prop where
  lo : 1 ≤ x.1
  hi : x.1 ≤ 26
  len : x.2.length ≤ 100
  lt : ∀ a ∈ x.2, a < M
theorem gE_put {x : EvX} (h : OkX x) (r : List Int) : gE (0, evX x ++ r) = (x, 0, r) := by
  obtain ⟨k, l⟩ := x
  obtain ⟨h1, h2, h3, h4⟩ := h
  simp only at h1 h2 h3 h4
  unfold gE evX
  simp only
  rw [List.append_assoc, gV_enc (most := 26) _ (by omega) (by omega), if_neg (by simp; omega)]
  simp only
  rw [List.append_assoc, gV_enc (most := 100) _ (by omega) (by omega)]
  simp only
  rw [gAs_put r l h4]
theorem gEs_put (r : List Int) : ∀ E : List EvX, (∀ x ∈ E, OkX x) → gEs E.length (0, E.flatMap evX ++ r) = (E, 0, r)
  | [], _ => rfl
  | x :: E, h => by
    rw [List.length_cons, gEs_go _ rfl, List.flatMap_cons, List.append_assoc, gE_put (h x (List.mem_cons_self ..)), gEs_put r E fun y hy => h y (List.mem_cons_of_mem _ hy)]
def putX (E : List EvX) : List Int := enc E.length ++ E.flatMap evX
theorem gR_put {E : List EvX} (hE : E.length ≤ 1000) (h : ∀ x ∈ E, OkX x) (r : List Int) : gR (0, putX E ++ r) = (E, 0, r) := by
  unfold gR putX
  rw [List.append_assoc, gV_enc (most := 1000) _ (by omega) (by omega)]
  exact gEs_put r E h

/-! ### cut, it is short -/
abbrev Short : St := (3, [])
theorem gV_short (most : Int) : gV most Short = (0, Short) := gV_fault (by decide)
theorem gA_short : gA Short = (0, Short) := gA_fault (by decide)
theorem gAs_short (n : Nat) : gAs n Short = ([], Short) := gAs_stop n (by decide)
theorem gEs_short (n : Nat) : gEs n Short = ([], Short) := gEs_stop n (by decide)
theorem gE_short : (gE Short).2 = Short := by
  unfold gE
  rw [gV_short, if_neg (by simp), gV_short]
  rfl
theorem take_app_cases {α : Type} (a b : List α) (j : Nat) : (j < a.length ∧ (a ++ b).take j = a.take j) ∨ (a.length ≤ j ∧ (a ++ b).take j = a ++ b.take (j - a.length)) := by
  rcases Nat.lt_or_ge j a.length with h | h
  · exact .inl ⟨h, List.take_append_of_le_length (by omega)⟩
  · refine .inr ⟨h, ?_⟩
    rw [List.take_append, List.take_of_length_le h]
theorem gAs_cut : ∀ (l : List Nat) (j : Nat), (∀ a ∈ l, a < M) → j < (l.flatMap amtL).length → (gAs l.length (0, (l.flatMap amtL).take j)).2 = Short
  | [], j, _, hj => by simp at hj
  | a :: l, j, h, hj => by
    rw [List.length_cons, gAs_go _ rfl]
    rw [List.flatMap_cons] at hj ⊢
    have ha := h a (List.mem_cons_self ..)
    rcases take_app_cases (amtL a) (l.flatMap amtL) j with ⟨h1, h2⟩ | ⟨h1, h2⟩
    · rw [h2, gA_cut ha h1]
      exact congrArg (·.2) (gAs_short _)
    · rw [h2, gA_amt _ ha]
      rw [List.length_append] at hj
      exact gAs_cut l _ (fun x hx => h x (List.mem_cons_of_mem _ hx)) (by omega)
theorem gE_cut {x : EvX} (h : OkX x) {j : Nat} (hj : j < (evX x).length) : (gE (0, (evX x).take j)).2 = Short := by
  obtain ⟨k, l⟩ := x
  obtain ⟨h1, h2, h3, h4⟩ := h
  simp only at h1 h2 h3 h4
  unfold evX at hj ⊢
  unfold gE
  simp only at hj ⊢
  rcases take_app_cases (enc k) (enc l.length ++ l.flatMap amtL) j with ⟨h5, h6⟩ | ⟨h5, h6⟩
  · rw [h6, gV_cut (by omega) h5, if_neg (by simp), gV_short]
    rfl
  · rw [h6, gV_enc (most := 26) _ (by omega) (by omega), if_neg (by simp; omega)]
    simp only
    rw [List.length_append] at hj
    rcases take_app_cases (enc l.length) (l.flatMap amtL) (j - (enc k).length) with ⟨h7, h8⟩ | ⟨h7, h8⟩
    · rw [h8, gV_cut (by omega) h7]
      rfl
    · rw [h8, gV_enc (most := 100) _ (by omega) (by omega)]
      rw [List.length_append] at hj
      exact gAs_cut l _ h4 (by omega)
theorem gEs_cut : ∀ (E : List EvX) (j : Nat), (∀ x ∈ E, OkX x) → j < (E.flatMap evX).length → (gEs E.length (0, (E.flatMap evX).take j)).2 = Short
  | [], j, _, hj => by simp at hj
  | x :: E, j, h, hj => by
    rw [List.length_cons, gEs_go _ rfl]
    rw [List.flatMap_cons] at hj ⊢
    have hx := h x (List.mem_cons_self ..)
    rcases take_app_cases (evX x) (E.flatMap evX) j with ⟨h1, h2⟩ | ⟨h1, h2⟩
    · rw [h2]
      simp only
      rw [gE_cut hx h1, gEs_short]
    · rw [h2, gE_put hx]
      rw [List.length_append] at hj
      exact gEs_cut E _ (fun y hy => h y (List.mem_cons_of_mem _ hy)) (by omega)
theorem gR_cut {E : List EvX} (hE : E.length ≤ 1000) (h : ∀ x ∈ E, OkX x) {j : Nat} (hj : j < (putX E).length) : (gR (0, (putX E).take j)).2 = Short := by
  unfold gR
  unfold putX at hj ⊢
  rcases take_app_cases (enc E.length) (E.flatMap evX) j with ⟨h5, h6⟩ | ⟨h5, h6⟩
  · rw [h6, gV_cut (by omega) h5]
    rfl
  · rw [h6, gV_enc (most := 1000) _ (by omega) (by omega)]
    rw [List.length_append] at hj
    exact gEs_cut E _ h (by omega)
/-- a result: a code, and events -/
def gRes (s : St) : Nat × List EvX × St := ((gV 19 s).1, gR (gV 19 s).2)
theorem gR_short : (gR Short).2 = Short := by
  unfold gR
  rw [gV_short]
  rfl
theorem gRes_put {c : Nat} {E : List EvX} (hc : c ≤ 19) (hE : E.length ≤ 1000) (h : ∀ x ∈ E, OkX x) (r : List Int) : gRes (0, (enc c ++ putX E) ++ r) = (c, E, 0, r) := by
  unfold gRes
  rw [List.append_assoc, gV_enc (most := 19) _ (by omega) (by omega), gR_put hE h]
theorem gRes_cut {c : Nat} {E : List EvX} (hc : c ≤ 19) (hE : E.length ≤ 1000) (h : ∀ x ∈ E, OkX x) {j : Nat} (hj : j < (enc c ++ putX E).length) : (gRes (0, (enc c ++ putX E).take j)).2.2 = Short := by
  unfold gRes
  rcases take_app_cases (enc c) (putX E) j with ⟨h5, h6⟩ | ⟨h5, h6⟩
  · rw [h6, gV_cut (by omega) h5]
    exact gR_short
  · rw [h6, gV_enc (most := 19) _ (by omega) (by omega)]
    rw [List.length_append] at hj
    exact gR_cut hE h (by omega)
end Go.Proofs.Ytpdenhmkpiafiaa
