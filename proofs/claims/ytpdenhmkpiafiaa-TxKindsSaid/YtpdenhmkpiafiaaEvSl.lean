/-
  Rows of events, as read; light (70); good (233, 254, 232, 186; the reference's: 188).
-/
import Derived.Test.YtpdenhmkpiafiaaEvNew
namespace Go.Proofs.Ytpdenhmkpiafiaa
open Go Go.RowKit K6

/-- an event: its kind and its numbers (q, c: the slice's address and room) -/
structure Ev where
  k : Int
  q : Option Addr
  c : Nat
  l : List Nat
instance : Inhabited Ev := ⟨⟨0, none, 0, []⟩⟩
def Ev.v (e : Ev) : Value := .slice e.q e.l.length e.c
structure EvOk (w : World) (e : Ev) : Prop where
  us : Us w e.v e.l
  lt : ∀ a ∈ e.l, a < M
  lo : -9223372036854775808 ≤ e.k
  hi : e.k < 9223372036854775808
theorem EvOk.below {w w' : World} {e : Ev} (h : EvOk w e) (hb : Below w.heap.size w w') : EvOk w' e := ⟨h.us.below hb, h.lt, h.lo, h.hi⟩
/-- a slice value reads as these events -/
def Es (w : World) (u : Value) (E : List Ev) : Prop := ∃ q c, u = .slice q E.length c ∧ (0 < E.length → ∃ g o, q = some ⟨g, o, none⟩ ∧ g < w.heap.size ∧ ∀ i e, E[i]? = some e → w.cell? ⟨g, o + i * 2, none⟩ = some (.int .i64 e.k) ∧ w.cell? ⟨g, o + i * 2 + 1, none⟩ = some e.v) ∧ ∀ e ∈ E, EvOk w e
theorem Es.below {w w' : World} {u : Value} {E : List Ev} (h : Es w u E) (hb : Below w.heap.size w w') : Es w' u E := by
  obtain ⟨q, c, rfl, h, hk⟩ := h
  refine ⟨q, c, rfl, fun h0 => ?_, fun e he => (hk e he).below hb⟩
  obtain ⟨g, o, rfl, hg, hc⟩ := h h0
  exact ⟨g, o, rfl, Nat.lt_of_lt_of_le hg hb.size, fun i e he => ⟨(World.cell?_of_block (hb.block g hg)).trans (hc i e he).1, (World.cell?_of_block (hb.block g hg)).trans (hc i e he).2⟩⟩
theorem Es.get {w wr : World} {u : Value} {E : List Ev} (h : Es w u E) (hb : Below w.heap.size w wr) {i : Nat} {e : Ev} (he : E[i]? = some e) :
    ∃ g o c, u = .slice (some ⟨g, o, none⟩) E.length c ∧ g < wr.heap.size ∧ EvOk wr e ∧ ∀ j v, [Value.int .i64 e.k, e.v][j]? = some v → wr.cell? ⟨g, o + i * 2 + j, none⟩ = some v := by
  obtain ⟨q, c, rfl, h, hk⟩ := h.below hb
  obtain ⟨g, o, rfl, hg, hc⟩ := h (by have := (List.getElem?_eq_some_iff.1 he).1; omega)
  refine ⟨g, o, c, rfl, hg, hk e (List.mem_of_getElem? he), fun j v hj => ?_⟩
  obtain ⟨h0, h1⟩ := hc i e he
  match j, hj with
  | 0, hj =>
    have hj' : some (Value.int .i64 e.k) = some v := hj
    rw [← hj']
    exact h0
  | 1, hj =>
    have hj' : some e.v = some v := hj
    rw [← hj']
    exact h1
/-- may an event be? -/
def okE (e : Ev) : Bool := decide (1 ≤ e.k) && (decide (e.k ≤ 26) && decide (e.l.length ≤ 100))
def goodE (E : List Ev) : Bool := decide (E.length ≤ 1000) && E.all okE
theorem okE_is (e : Ev) : okE e = true ↔ 1 ≤ e.k ∧ e.k ≤ 26 ∧ e.l.length ≤ 100 := by unfold okE; simp
theorem okE_not (e : Ev) (h : e.k < 1 ∨ 26 < e.k ∨ 100 < e.l.length) : okE e = false := by
  cases hk : okE e with
  | false => rfl
  | true => have := (okE_is e).1 hk; omega
theorem good_is (E : List Ev) : goodE E = true ↔ E.length ≤ 1000 ∧ ∀ e ∈ E, okE e = true := by unfold goodE; simp
theorem good_not {E : List Ev} {i : Nat} {e : Ev} (he : E[i]? = some e) (h : okE e = false) : goodE E = false := by
  cases hk : goodE E with
  | false => rfl
  | true =>
    have := ((good_is E).1 hk).2 e (List.mem_of_getElem? he)
    rw [h] at this
    cases this
theorem good_long {E : List Ev} (h : 1000 < E.length) : goodE E = false := by
  cases hk : goodE E with
  | false => rfl
  | true => have := ((good_is E).1 hk).1; omega
theorem good_all {E : List Ev} (h : E.length ≤ 1000) (hk : ∀ j e, j < E.length → E[j]? = some e → okE e = true) : goodE E = true := by
  refine (good_is E).2 ⟨h, fun e he => ?_⟩
  obtain ⟨j, hj, rfl⟩ := List.mem_iff_getElem.1 he
  exact hk j _ hj (List.getElem?_eq_getElem hj)
/-- what 'light' tells -/
def LightP (E : List Ev) (w : World) (r : Ending) (w' : World) : Prop := ∃ b, r = .returned (.bool b) ∧ (b = true → E.length ≤ 1100 ∧ ∀ e ∈ E, e.l.length ≤ 5000) ∧ Below w.heap.size w w'
/-- what a search for one that may not be tells -/
def IdxP (b : Bool) (w : World) (r : Ending) (w' : World) : Prop := ∃ n : Int, r = .returned (.int .i64 n) ∧ (b = true → n = -1) ∧ (b = false → 0 ≤ n) ∧ Below w.heap.size w w'
set_option maxRecDepth 100000 in
set_option maxHeartbeats 16000000 in
theorem light_at (v : Value) (E : List Ev) (w : World) (h : Es w v E) (hlen : ∀ e ∈ E, e.l.length ≤ 140737488355328) :
    Calls Try.prog 70 #[v] w (LightP E w) := by
  have HC := Lib.hid h
  obtain ⟨q, c, rfl, -, -⟩ := h
  obtain ⟨m, hm⟩ : ∃ m, E.length = m := ⟨_, rfl⟩
  rw [hm] at HC ⊢
  have HL := Lib.hid hlen
  clear hlen
  go_enter Try.func70, Try.ntmps70
  by_cases hbig : (1100 : Int) < (m : Int)
  · go_wp2_with fail
    go_ret
    unfold LightP
    exact ⟨false, rfl, (fun h => (by cases h)), Below.refl _ _⟩
  · have hmi : (m : Int) ≤ 1100 := by omega
    go_wp2_with fail
    go_loopg [3, 5, 11] m (fun gg s3 s5 s11 wr => ∃ (i n : Nat), i + gg = m ∧ s11 = .int .i64 (i : Int) ∧ s3 = .int .i64 (n : Int) ∧ n ≤ 5000 ∧ Hid (∀ j e, j < i → E[j]? = some e → e.l.length ≤ 5000) ∧ Hid (Below w.heap.size w wr))
    case atStart => exact ⟨0, 0, by omega, rfl, rfl, by omega, Lib.hid (fun j e h => absurd h (Nat.not_lt_zero j)), Lib.hid (Below.refl _ _)⟩
    case round =>
      obtain ⟨i, n, him, rfl, rfl, hn5, hall, hinv⟩ := hrel
      by_cases hi : i < m
      · obtain ⟨ev, he⟩ : ∃ ev, E[i]? = some ev := ⟨_, List.getElem?_eq_getElem (by omega)⟩
        obtain ⟨g, o, c', hu, hg, hok, hcs⟩ := HC.out.get hinv.out he
        simp only [Value.slice.injEq] at hu
        obtain ⟨rfl, -, -⟩ := hu
        have hle : ev.l.length ≤ 140737488355328 := HL.out ev (List.mem_of_getElem? he)
        obtain ⟨k, qe, ce, le⟩ := ev
        obtain ⟨ne, hne⟩ : ∃ ne, le.length = ne := ⟨_, rfl⟩
        simp only [Ev.v, hne] at hcs
        replace hle : ne ≤ 140737488355328 := hne ▸ hle
        have he' := Lib.hid (show _ ∧ _ from ⟨he, hne⟩)
        clear he hok hne
        have hlt : (i : Int) < (m : Int) := by omega
        go_upto_region 6 with (fail)
        let L : List Sp := [sA 2 26 [3] #[.int .i64 0, .slice none 0 0], sT 3 2 26 [1] (fun g => aggOf g 1)]
        refine wp_region_six0 (shs L) (look6 L) (None_) (by kernel_rfl) (by kernel_rfl) (mk_St L [] [] (by kernel_rfl) (by kernel_rfl) ⟨ok_A, ok_T aggOf_congr, trivial⟩ (by simp)) ?_
        intro QQ hQ
        -- 0: indexAddr<77> t9[t11]
        refine stepK rfl (by kernel_rfl) (fun K hK => ?_); go_simp
        apply Exists.intro; apply And.intro; (focus (intro wk hk; go_simp; exact ⟨rfl, rfl⟩)); refine hK _ _ ?_; clear hK K
        -- 1: load<26> *t13
        refine stepK rfl (by kernel_rfl) (fun K hK => ?_); go_simp
        apply Exists.intro; apply And.intro; (focus exact kLoadE rfl rfl aggT26 hcs rfl hg id); refine hK _ _ ?_; clear hK K
        -- 2: alloc<26>
        refine stepS _ rfl (by kernel_rfl) (fun K hK => ?_); go_simp
        refine ⟨?_, ?_⟩
        · intro wk hk hg hu; go_simp; exact left_A rfl rfl
        rintro ⟨v2, lo2, hi2⟩ hlo2 hhi2 ⟨e2, f2⟩
        replace e2 : v2 = .pointer (some ⟨lo2, 0, none⟩) := e2; replace f2 : hi2 = lo2 + 1 := f2; replace hlo2 : _ ≤ lo2 := hlo2; subst e2; subst f2
        refine hK _ _ ?_; clear hK K
        -- 3: store<26> *t5 = t14
        refine stepS _ rfl (by kernel_rfl) (fun K hK => ?_); go_simp
        refine ⟨?_, ?_⟩
        · exact sStoreT rfl rfl rfl rfl rfl rfl rfl (by kernel_rfl) rfl (by kernel_rfl) (by decide) aggOf_congr
        rintro ⟨v3, lo3, hi3⟩ - - (rfl : v3 = undef)
        refine hK _ _ ?_; clear hK K
        refine stepN ?_
        refine hQ _ _ ?_
        intro w1 hT hG hF
        have hbw1 := hT.below
        have r26 : Row w1 lo2 26 (#[.int .i64 k, .slice qe ne ce]) := (hF 3 _ rfl rfl (by decide)).2
        clear hT hG hF hQ QQ L
        have hl1 := Lib.hid (hinv.out.trans (hbw1.mono hinv.out.size))
        have c0 := r26.cell 1
        clear r26 hbw1 hinv hcs hlo2 hhi2
        have wn : IntKind.i64.wrap ((n : Int) + (ne : Int)) = (n : Int) + (ne : Int) := by rw [IntKind.wrap_i64]; omega
        by_cases h5 : (5000 : Int) < (n : Int) + (ne : Int)
        · go_wp2_with fail
          go_ret
          unfold LightP
          exact ⟨false, rfl, (fun h => (by cases h)), hl1.out⟩
        · go_wp2_with fail
          go_roundg (gk - 1)
          case measure => omega
          case rel =>
            refine ⟨i + 1, n + ne, by omega, by go_num, by go_num, by omega, Lib.hid fun j e hj hje => ?_, hl1⟩
            rcases Nat.lt_or_ge j i with h | h
            · exact hall.out j e h hje
            · obtain rfl : j = i := by omega
              have h1 := he'.out.1.symm.trans hje
              injection h1 with h1
              rw [← h1]
              show le.length ≤ 5000
              rw [he'.out.2]
              omega
      · obtain rfl : i = m := by omega
        have hlt : ¬ (i : Int) < (i : Int) := by omega
        go_wp2_with fail
        go_ret
        unfold LightP
        refine ⟨true, rfl, fun _ => ⟨by omega, fun e he => ?_⟩, hinv.out⟩
        obtain ⟨j, hj, rfl⟩ := List.mem_iff_getElem.1 he
        exact hall.out j _ (by omega) (List.getElem?_eq_getElem hj)
set_option maxRecDepth 100000 in
set_option maxHeartbeats 16000000 in
theorem evbad_at (e : Ev) (w : World) : Calls Try.prog 233 #[.agg #[.int .i64 e.k, e.v]] w fun r w' => r = .returned (.bool (!okE e)) ∧ Below w.heap.size w w' := by
  by_cases h1 : e.k < 1
  · rw [okE_not e (.inl h1)]
    obtain ⟨k, q, c, l⟩ := e
    obtain ⟨n, hn⟩ : ∃ n, l.length = n := ⟨_, rfl⟩
    simp only [Ev.v, hn] at h1 ⊢
    go_enter Try.func233, Try.ntmps233
    go_wp2_with fail
    go_ret
    exact ⟨by first | rfl | (simp; done), by go_grown⟩
  · by_cases h2 : 26 < e.k
    · rw [okE_not e (.inr (.inl h2))]
      obtain ⟨k, q, c, l⟩ := e
      obtain ⟨n, hn⟩ : ∃ n, l.length = n := ⟨_, rfl⟩
      simp only [Ev.v, hn] at h1 h2 ⊢
      go_enter Try.func233, Try.ntmps233
      go_wp2_with fail
      go_ret
      exact ⟨by first | rfl | (simp; done), by go_grown⟩
    · by_cases h3 : (100 : Int) < (e.l.length : Int)
      · rw [okE_not e (.inr (.inr (by omega)))]
        obtain ⟨k, q, c, l⟩ := e
        obtain ⟨n, hn⟩ : ∃ n, l.length = n := ⟨_, rfl⟩
        simp only [Ev.v, hn] at h1 h2 h3 ⊢
        go_enter Try.func233, Try.ntmps233
        go_wp2_with fail
        go_ret
        exact ⟨by first | rfl | (simp; done), by go_grown⟩
      · rw [(okE_is e).2 ⟨by omega, by omega, by omega⟩]
        obtain ⟨k, q, c, l⟩ := e
        obtain ⟨n, hn⟩ : ∃ n, l.length = n := ⟨_, rfl⟩
        simp only [Ev.v, hn] at h1 h2 h3 ⊢
        go_enter Try.func233, Try.ntmps233
        go_wp2_with fail
        go_ret
        exact ⟨by first | rfl | (simp; done), by go_grown⟩
set_option maxRecDepth 100000 in
set_option maxHeartbeats 16000000 in
theorem evidx_at (v : Value) (E : List Ev) (w : World) (h : Es w v E) (hE : E.length ≤ 1000) :
    Calls Try.prog 254 #[v, .func (.func 233) #[] #[]] w (IdxP (goodE E) w) := by
  have HC := Lib.hid h
  obtain ⟨q, c, rfl, -, -⟩ := h
  obtain ⟨m, hm⟩ : ∃ m, E.length = m := ⟨_, rfl⟩
  rw [hm] at HC ⊢
  have hmi : (m : Int) ≤ 1000 := by omega
  go_enter Try.func254, Try.ntmps254
  go_wp2_with fail
  go_loopg [5, 8] m (fun gg s5 s8 wr => ∃ i : Nat, i + gg = m ∧ s8 = .int .i64 (i : Int) ∧ Hid (∀ j e, j < i → E[j]? = some e → okE e = true) ∧ Hid (Below w.heap.size w wr))
  case atStart => exact ⟨0, by omega, rfl, Lib.hid (fun j e h => absurd h (Nat.not_lt_zero j)), Lib.hid (Below.refl _ _)⟩
  case round =>
    obtain ⟨i, him, rfl, hall, hinv⟩ := hrel
    by_cases hi : i < m
    · obtain ⟨ev, he⟩ : ∃ ev, E[i]? = some ev := ⟨_, List.getElem?_eq_getElem (by omega)⟩
      obtain ⟨g, o, c', hu, hg, hok, hcs⟩ := HC.out.get hinv.out he
      simp only [Value.slice.injEq] at hu
      obtain ⟨rfl, -, -⟩ := hu
      have kb := Lib.hid fun wx => evbad_at ev wx
      obtain ⟨b, hb⟩ : ∃ b, okE ev = b := ⟨_, rfl⟩
      rw [hb] at kb
      have he' := Lib.hid (show _ ∧ _ from ⟨he, hb⟩)
      clear he hok hb
      obtain ⟨k, qe, ce, le⟩ := ev
      obtain ⟨ne, hne⟩ : ∃ ne, le.length = ne := ⟨_, rfl⟩
      simp only [Ev.v, hne] at hcs
      simp only [Ev.v, hne] at kb
      clear hne
      have hlt : (i : Int) < (m : Int) := by omega
      go_upto_region 4 with (fail)
      let L : List Sp := [sV 5 [] [] (fun u => u = .bool (!b))]
      refine wp_region_six0 (shs L) (look6 L) (None_) (by kernel_rfl) (by kernel_rfl) (mk_St L [] [] (by kernel_rfl) (by kernel_rfl) ⟨ok_V ⟨_, rfl⟩, trivial⟩ (by simp)) ?_
      intro QQ hQ
      -- 0: t1
      refine stepK rfl (by kernel_rfl) (fun K hK => ?_); go_simp
      apply Exists.intro; apply And.intro; (focus (intro wk hk; go_simp; exact ⟨rfl, rfl⟩)); refine hK _ _ ?_; clear hK K
      -- 1: t0
      refine stepK rfl (by kernel_rfl) (fun K hK => ?_); go_simp
      apply Exists.intro; apply And.intro; (focus (intro wk hk; go_simp; exact ⟨rfl, rfl⟩)); refine hK _ _ ?_; clear hK K
      -- 2: t5
      refine stepK rfl (by kernel_rfl) (fun K hK => ?_); go_simp
      apply Exists.intro; apply And.intro; (focus (intro wk hk; go_simp; exact ⟨rfl, rfl⟩)); refine hK _ _ ?_; clear hK K
      -- 3: indexAddr<77> t12[t13]
      refine stepK rfl (by kernel_rfl) (fun K hK => ?_); go_simp
      apply Exists.intro; apply And.intro; (focus (intro wk hk; go_simp; exact ⟨rfl, rfl⟩)); refine hK _ _ ?_; clear hK K
      -- 4: load<26> *t14
      refine stepK rfl (by kernel_rfl) (fun K hK => ?_); go_simp
      apply Exists.intro; apply And.intro; (focus exact kLoadE rfl rfl aggT26 hcs rfl hg id); refine hK _ _ ?_; clear hK K
      -- 5: call t11(t15)
      refine stepS _ rfl (by kernel_rfl) (fun K hK => ?_); go_simp
      refine ⟨?_, ?_⟩
      · intro wk hk hg hu; go_simp; refine upon_enter ((kb.out _).mono ?_); rintro e w' ⟨rfl, hb⟩; exact ⟨_, rfl, left_V (p := fun u => u = .bool (!b)) rfl (hb) rfl⟩
      rintro ⟨v5, lo5, hi5⟩ - - (rfl : v5 = _)
      refine hK _ _ ?_; clear hK K
      refine stepN ?_
      refine hQ _ _ ?_
      intro w1 hT hG hF
      have hbw1 := hT.below
      clear hT hG hF hQ QQ L
      have hl1 := Lib.hid (hinv.out.trans (hbw1.mono hinv.out.size))
      clear hbw1 hinv hcs kb
      cases b
      · go_wp2_with fail
        go_ret
        unfold IdxP
        exact ⟨_, rfl, (fun h => by rw [good_not he'.out.1 he'.out.2] at h; cases h), (fun _ => by omega), hl1.out⟩
      · go_wp2_with fail
        go_roundg (gk - 1)
        case measure => omega
        case rel =>
          refine ⟨i + 1, by omega, by go_num, Lib.hid fun j e hj hje => ?_, hl1⟩
          rcases Nat.lt_or_ge j i with h | h
          · exact hall.out j e h hje
          · obtain rfl : j = i := by omega
            have h1 := he'.out.1.symm.trans hje
            injection h1 with h1
            rw [← h1]
            exact he'.out.2
    · obtain rfl : i = m := by omega
      have hlt : ¬ (i : Int) < (i : Int) := by omega
      go_wp2_with fail
      go_ret
      unfold IdxP
      exact ⟨-1, rfl, (fun _ => rfl), (fun h => by rw [good_all (by omega) (fun j e hj hje => hall.out j e (by omega) hje)] at h; cases h), hinv.out⟩
set_option maxRecDepth 100000 in
set_option maxHeartbeats 16000000 in
theorem evcont_at (v : Value) (E : List Ev) (w : World) (h : Es w v E) (hE : E.length ≤ 1000) :
    Calls Try.prog 232 #[v, .func (.func 233) #[] #[]] w fun r w' => r = .returned (.bool (!goodE E)) ∧ Below w.heap.size w w' := by
  have K := Lib.hid (evidx_at v E w h hE)
  obtain ⟨b, hb⟩ : ∃ b, goodE E = b := ⟨_, rfl⟩
  rw [hb] at K ⊢
  clear h hE hb
  go_enter Try.func232, Try.ntmps232
  go_wp2_with fail
  refine K.out.mono ?_
  rintro e w1 ⟨n, rfl, hn, hn', hb⟩
  clear K
  cases b
  · have hge : (0 : Int) ≤ n := hn' rfl
    clear hn hn'
    go_wp2_with fail
    go_ret
    exact ⟨by first | rfl | (simp; done), hb⟩
  · obtain rfl : n = -1 := hn rfl
    clear hn hn'
    go_wp2_with fail
    go_ret
    exact ⟨by first | rfl | (simp; done), hb⟩
set_option maxRecDepth 100000 in
set_option maxHeartbeats 16000000 in
theorem evgood_at (v : Value) (E : List Ev) (w : World) (h : Es w v E) (hEm : E.length ≤ 140737488355328) :
    Calls Try.prog 186 #[v] w fun r w' => r = .returned (.bool (goodE E)) ∧ Below w.heap.size w w' := by
  by_cases h1 : 1000 < E.length
  · rw [good_long h1]
    obtain ⟨q, c, rfl, -, -⟩ := h
    obtain ⟨m, hm⟩ : ∃ m, E.length = m := ⟨_, rfl⟩
    rw [hm] at h1 ⊢
    have h2 : ¬ (m : Int) ≤ 1000 := by omega
    clear hm hEm
    go_enter Try.func186, Try.ntmps186
    go_wp2_with fail
    go_ret
    exact ⟨by first | rfl | (simp; done), Below.refl _ _⟩
  · have K := Lib.hid fun wx (hb : Below w.heap.size w wx) => evcont_at v E wx (h.below hb) (by omega)
    obtain ⟨b, hb⟩ : ∃ b, goodE E = b := ⟨_, rfl⟩
    simp only [hb] at K
    rw [hb]
    obtain ⟨q, c, rfl, -, -⟩ := h
    obtain ⟨m, hm⟩ : ∃ m, E.length = m := ⟨_, rfl⟩
    rw [hm] at K ⊢
    have h2 : (m : Int) ≤ 1000 := by omega
    clear hb hEm hm h1
    go_enter Try.func186, Try.ntmps186
    go_wp2_with fail
    refine (K.out _ (Below.refl _ _)).mono ?_
    rintro e w1 ⟨rfl, hb⟩
    clear K
    cases b <;>
    · go_wp2_with fail
      go_ret
      exact ⟨by first | rfl | (simp; done), hb⟩
set_option maxRecDepth 100000 in
set_option maxHeartbeats 16000000 in
theorem refgood_at (v : Value) (E : List Ev) (w : World) (h : Es w v E) (hEm : E.length ≤ 100000) (hlen : ∀ e ∈ E, e.l.length ≤ 5000) :
    Calls Try.prog 188 #[v] w fun r w' => r = .returned (.bool (goodE E)) ∧ Below w.heap.size w w' := by
  have HC := Lib.hid h
  obtain ⟨q, c, rfl, -, -⟩ := h
  obtain ⟨m, hm⟩ : ∃ m, E.length = m := ⟨_, rfl⟩
  rw [hm] at HC ⊢
  have HL := Lib.hid hlen
  clear hlen
  have hmi : (m : Int) ≤ 100000 := by omega
  go_enter Try.func188, Try.ntmps188
  go_wp2_with fail
  go_loopg [4, 7] m (fun gg s4 s7 wr => ∃ i : Nat, i + gg = m ∧ s7 = .int .i64 (i : Int) ∧ Hid (∀ j e, j < i → E[j]? = some e → okE e = true) ∧ Hid (Below w.heap.size w wr))
  case atStart => exact ⟨0, by omega, rfl, Lib.hid (fun j e h => absurd h (Nat.not_lt_zero j)), Lib.hid (Below.refl _ _)⟩
  case round =>
    obtain ⟨i, him, rfl, hall, hinv⟩ := hrel
    by_cases hi : i < m
    · obtain ⟨ev, he⟩ : ∃ ev, E[i]? = some ev := ⟨_, List.getElem?_eq_getElem (by omega)⟩
      obtain ⟨g, o, c', hu, hg, hok, hcs⟩ := HC.out.get hinv.out he
      simp only [Value.slice.injEq] at hu
      obtain ⟨rfl, -, -⟩ := hu
      obtain ⟨b, hb⟩ : ∃ b, okE ev = b := ⟨_, rfl⟩
      have hb2 := hb
      have hle : ev.l.length ≤ 5000 := HL.out ev (List.mem_of_getElem? he)
      have he' := Lib.hid (show _ ∧ _ from ⟨he, hb⟩)
      have hca : (ev.k < 1) ∨ (¬ ev.k < 1 ∧ 26 < ev.k) ∨ (¬ ev.k < 1 ∧ ¬ 26 < ev.k ∧ (100 : Int) < (ev.l.length : Int)) ∨ (¬ ev.k < 1 ∧ ¬ 26 < ev.k ∧ ¬ (100 : Int) < (ev.l.length : Int)) := by omega
      have hif : b = if (ev.k < 1 ∨ 26 < ev.k ∨ 100 < ev.l.length) then false else true := by
        rw [← hb]
        split
        · rename_i h9; exact okE_not ev h9
        · exact (okE_is ev).2 ⟨by omega, by omega, by omega⟩
      clear he hok hb hb2
      obtain ⟨k, qe, ce, le⟩ := ev
      obtain ⟨ne, hne⟩ : ∃ ne, le.length = ne := ⟨_, rfl⟩
      simp only [Ev.v, hne] at hcs
      simp only [hne] at hca hif hle
      clear hne
      have hlt : (i : Int) < (m : Int) := by omega
      go_upto_region 3 with (fail)
      let L : List Sp := [sA 2 26 [3] #[.int .i64 0, .slice none 0 0], sT 3 2 26 [1] (fun g => aggOf g 1)]
      refine wp_region_six0 (shs L) (look6 L) (None_) (by kernel_rfl) (by kernel_rfl) (mk_St L [] [] (by kernel_rfl) (by kernel_rfl) ⟨ok_A, ok_T aggOf_congr, trivial⟩ (by simp)) ?_
      intro QQ hQ
      -- 0: indexAddr<77> t5[t7]
      refine stepK rfl (by kernel_rfl) (fun K hK => ?_); go_simp
      apply Exists.intro; apply And.intro; (focus (intro wk hk; go_simp; exact ⟨rfl, rfl⟩)); refine hK _ _ ?_; clear hK K
      -- 1: load<26> *t9
      refine stepK rfl (by kernel_rfl) (fun K hK => ?_); go_simp
      apply Exists.intro; apply And.intro; (focus exact kLoadE rfl rfl aggT26 hcs rfl hg id); refine hK _ _ ?_; clear hK K
      -- 2: alloc<26>
      refine stepS _ rfl (by kernel_rfl) (fun K hK => ?_); go_simp
      refine ⟨?_, ?_⟩
      · intro wk hk hg hu; go_simp; exact left_A rfl rfl
      rintro ⟨v2, lo2, hi2⟩ hlo2 hhi2 ⟨e2, f2⟩
      replace e2 : v2 = .pointer (some ⟨lo2, 0, none⟩) := e2; replace f2 : hi2 = lo2 + 1 := f2; replace hlo2 : _ ≤ lo2 := hlo2; subst e2; subst f2
      refine hK _ _ ?_; clear hK K
      -- 3: store<26> *t4 = t10
      refine stepS _ rfl (by kernel_rfl) (fun K hK => ?_); go_simp
      refine ⟨?_, ?_⟩
      · exact sStoreT rfl rfl rfl rfl rfl rfl rfl (by kernel_rfl) rfl (by kernel_rfl) (by decide) aggOf_congr
      rintro ⟨v3, lo3, hi3⟩ - - (rfl : v3 = undef)
      refine hK _ _ ?_; clear hK K
      refine stepN ?_
      refine hQ _ _ ?_
      intro w1 hT hG hF
      have hbw1 := hT.below
      have r26 : Row w1 lo2 26 (#[.int .i64 k, .slice qe ne ce]) := (hF 3 _ rfl rfl (by decide)).2
      clear hT hG hF hQ QQ L
      have hl1 := Lib.hid (hinv.out.trans (hbw1.mono hinv.out.size))
      have c0 := r26.cell 0
      have c1 := r26.cell 1
      clear r26 hbw1 hinv hcs hlo2 hhi2
      rcases hca with h1 | ⟨h1, h2⟩ | ⟨h1, h2, h3⟩ | ⟨h1, h2, h3⟩
      · obtain rfl : b = false := by rw [hif, if_pos (by omega)]
        clear hif
        go_wp2_with fail
        go_ret
        exact ⟨by rw [good_not he'.out.1 he'.out.2]; rfl, hl1.out⟩
      · obtain rfl : b = false := by rw [hif, if_pos (by omega)]
        clear hif
        go_wp2_with fail
        go_ret
        exact ⟨by rw [good_not he'.out.1 he'.out.2]; rfl, hl1.out⟩
      · obtain rfl : b = false := by rw [hif, if_pos (by omega)]
        clear hif
        go_wp2_with fail
        go_ret
        exact ⟨by rw [good_not he'.out.1 he'.out.2]; rfl, hl1.out⟩
      · obtain rfl : b = true := by rw [hif, if_neg (by omega)]
        clear hif
        go_wp2_with fail
        go_roundg (gk - 1)
        case measure => omega
        case rel =>
          refine ⟨i + 1, by omega, by go_num, Lib.hid fun j e hj hje => ?_, hl1⟩
          rcases Nat.lt_or_ge j i with h | h
          · exact hall.out j e h hje
          · obtain rfl : j = i := by omega
            have h1 := he'.out.1.symm.trans hje
            injection h1 with h1
            rw [← h1]
            exact he'.out.2
    · obtain rfl : i = m := by omega
      have hlt : ¬ (i : Int) < (i : Int) := by omega
      have hgo : goodE E = decide ((i : Int) ≤ 1000) := by
        by_cases h9 : i ≤ 1000
        · rw [good_all (by omega) (fun j e hj hje => hall.out j e (by omega) hje), decide_eq_true (by omega)]
        · rw [good_long (by omega), decide_eq_false (by omega)]
      replace hgo := Lib.hid hgo
      clear hall
      go_wp2_with fail
      go_ret
      exact ⟨by rw [hgo.out]; first | rfl | (simp; done), hinv.out⟩
end Go.Proofs.Ytpdenhmkpiafiaa
