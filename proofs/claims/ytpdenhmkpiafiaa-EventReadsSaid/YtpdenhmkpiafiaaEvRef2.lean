/-
  The document's reading of events: Read (222).
-/
import Derived.Test.YtpdenhmkpiafiaaEvRead2
namespace Go.Proofs.Ytpdenhmkpiafiaa
open Go Go.RowKit K6

/-- what stands in the loop over an event's numbers -/
structure OneR (w3 wr : World) (g : Nat) (q : Option Nat) (B5 : Nat) (k : Int) (v : Value) (gg : Nat) (La : List Nat) (e6 : Int) (x6 : List Int) (es : Int) (ys : List Int) (l : List Nat) : Prop where
  r1 : Row wr B5 26 #[.int .i64 k, v]
  own : Oe wr (B5 + 1) v l
  src : SR wr g q es ys
  tr : Tr (fun b => b = g) w3 wr
  rest : ∃ L', gAs gg (es, ys) = (L', e6, x6) ∧ l ++ L' = La
  len : l.length + gg ≤ 100
  sz : B5 + 1 ≤ wr.heap.size
theorem OneR.stop {w3 wr : World} {g B5 gg : Nat} {q : Option Nat} {k : Int} {v : Value} {La : List Nat} {e6 : Int} {x6 : List Int} {es : Int} {ys : List Int} {l : List Nat} (h : OneR w3 wr g q B5 k v gg La e6 x6 es ys l) (h0 : es ≠ 0 ∨ gg = 0) : l = La ∧ es = e6 ∧ ys = x6 := by
  obtain ⟨L', h1, h2⟩ := h.rest
  have h3 : gAs gg (es, ys) = ([], es, ys) := by
    rcases h0 with h0 | rfl
    · exact gAs_stop gg h0
    · rfl
  rw [h3] at h1
  simp only [Prod.mk.injEq] at h1
  obtain ⟨rfl, rfl, rfl⟩ := h1
  exact ⟨by rw [← h2, List.append_nil], rfl, rfl⟩
structure ReadR (w wr : World) (g : Nat) (q : Option Nat) (B : Nat) (v : Value) (gg : Nat) (LK : List (Int × List Nat)) (e3 : Int) (x3 : List Int) (es : Int) (ys : List Int) (E : List Ev) : Prop where
  own : Eo wr B v E
  src : SR wr g q es ys
  tr : Tr (fun b => b = g) w wr
  rest : ∃ L', gEs gg (es, ys) = (L', e3, x3) ∧ E.map Ev.key ++ L'.map keyX = LK
  len : E.length + gg ≤ 1000
  sz : B ≤ wr.heap.size
theorem ReadR.stop {w wr : World} {g B gg : Nat} {q : Option Nat} {v : Value} {LK : List (Int × List Nat)} {e3 : Int} {x3 : List Int} {es : Int} {ys : List Int} {E : List Ev} (h : ReadR w wr g q B v gg LK e3 x3 es ys E) (h0 : es ≠ 0 ∨ gg = 0) : E.map Ev.key = LK ∧ es = e3 ∧ ys = x3 := by
  obtain ⟨L', h1, h2⟩ := h.rest
  have h3 : gEs gg (es, ys) = ([], es, ys) := by
    rcases h0 with h0 | rfl
    · exact gEs_stop gg h0
    · rfl
  rw [h3] at h1
  simp only [Prod.mk.injEq] at h1
  obtain ⟨rfl, rfl, rfl⟩ := h1
  exact ⟨by rw [← h2, List.map_nil, List.append_nil], rfl, rfl⟩
/-- behind the document's reading -/
def RRdP (w : World) (g : Nat) (q : Option Nat) (s : St) (r : Ending) (w' : World) : Prop := ∃ v E, r = .returned v ∧ Eo w' w.heap.size v E ∧ E.map Ev.key = (gR s).1.map keyX ∧ SR w' g q (gR s).2.1 (gR s).2.2 ∧ Tr (fun b => b = g) w w'
set_option maxRecDepth 100000 in
set_option maxHeartbeats 64000000 in
theorem rread_at {w : World} {g : Nat} {q : Option Nat} {e : Int} {xs : List Int} (h : SR w g q e xs) (hq0 : ∀ b, q = some b → b < w.heap.size) :
    Calls Try.prog 222 #[.pointer (some ⟨g, 0, none⟩)] w (RRdP w g q (e, xs)) := by
  obtain ⟨N, e2, x2, hg2⟩ := tri (gV 1000 (e, xs))
  obtain ⟨LX, e3, x3, hg3⟩ : ∃ L e3 x3, gEs N (e2, x2) = (L, e3, x3) := ⟨_, _, _, rfl⟩
  have hgR : gR (e, xs) = (LX, e3, x3) := by
    unfold gR
    rw [hg2]
    exact hg3
  have hn : N ≤ 1000 := by
    have h1 := gV_most (most := 1000) (s := (e, xs)) (by decide)
    rw [hg2] at h1
    simp only at h1
    omega
  obtain ⟨LK, hLK⟩ : ∃ K, LX.map keyX = K := ⟨_, rfl⟩
  have HR := Lib.hid (show gR (e, xs) = (LX, e3, x3) ∧ LX.map keyX = LK from ⟨hgR, hLK⟩)
  have kv0 := Lib.hid (rvar_V h hg2)
  obtain ⟨s, hs⟩ : ∃ s, (e, xs) = s := ⟨_, rfl⟩
  rw [hs] at HR ⊢
  have hgw := h.lt
  obtain ⟨B, hB⟩ : ∃ B, w.heap.size = B := ⟨_, rfl⟩
  have hqb : ∀ b, q = some b → b < B := fun b hb => by rw [← hB]; exact hq0 b hb
  rw [hB] at hgw
  replace hg3 := Lib.hid hg3
  clear h hg2 hgR hs hLK hq0
  go_enter Try.func222, Try.ntmps222
  go_wp2_with fail
  refine kv0.out.mono ?_
  rintro r w7 ⟨rfl, hs, ht⟩
  have hsz7 := ht.size
  have H7 : ReadR w w7 g q B (.slice none 0 0) N LK e3 x3 e2 x2 [] := ⟨Eo.nil _ _, hs, ht, ⟨LX, hg3.out, by rw [HR.out.2]; rfl⟩, (by show 0 + N ≤ 1000; omega), by omega⟩
  replace H7 := Lib.hid H7
  clear hs ht kv0 hg3 hsz7
  go_wp2_with fail
  go_loopg [3, 4, 5, 6] N (fun gg s3 s4 s5 s6 wr => ∃ (mo : Int) (es : Int) (ys : List Int) (E : List Ev), s4 = .int .i64 mo ∧ Hid (mo = (gg : Int)) ∧ Hid (ReadR w wr g q B s3 gg LK e3 x3 es ys E))
  case atStart => exact ⟨(N : Int), e2, x2, [], rfl, Lib.hid rfl, H7⟩
  case round =>
    clear H7
    obtain ⟨mo, es, ys, E, rfl, HMO, hinv⟩ := hrel
    obtain ⟨vo, hvv⟩ : ∃ v, v = u3 := ⟨_, rfl⟩
    rw [← hvv] at hinv ⊢
    clear hvv
    by_cases hg0 : gk = 0
    · subst hg0
      have hz : ¬ (0 : Int) < mo := by have := HMO.out; omega
      clear HMO
      go_wp2_with fail
      go_ret
      obtain ⟨h1, h2, h3⟩ := hinv.out.stop (.inr rfl)
      unfold RRdP
      rw [HR.out.1]
      exact ⟨_, E, rfl, by first | exact hinv.out.own | (rw [hB]; exact hinv.out.own), by rw [h1, HR.out.2], by rw [← h2, ← h3]; exact hinv.out.src, hinv.out.tr⟩
    · obtain ⟨gn, rfl⟩ : ∃ gn, gk = gn + 1 := ⟨gk - 1, by omega⟩
      have hz : (0 : Int) < mo := by have := HMO.out; omega
      have cE := hinv.out.src.e1
      by_cases hes : es = 0
      · subst hes
        have wmo : IntKind.i64.wrap (mo - 1) = mo - 1 := by have := HMO.out; have := hinv.out.len; rw [IntKind.wrap_i64]; omega
        obtain ⟨k, e1, y1, hg1⟩ := tri (gV 26 (0, ys))
        have kv1 := Lib.hid (fun wx (hb : Below wr.heap.size wr wx) => rvar_V (hinv.out.src.below hb) hg1)
        have hk26 := gE_k (0, ys)
        have hlM := gE_lt (s := (0, ys)) hinv.out.src.2.1
        obtain ⟨La, e6, x6, hgE0⟩ : ∃ La e6 x6, (gE (0, ys)).1.2 = La ∧ (gE (0, ys)).2 = (e6, x6) := ⟨_, _, _, rfl, rfl⟩
        obtain ⟨nE, hnE⟩ : ∃ nE, E.length = nE := ⟨_, rfl⟩
        have hkk : (gE (0, ys)).1.1 = k := by
          unfold gE
          rw [hg1]
          simp only
          split
          · rename_i h9; exact h9.2.symm
          · rfl
        have hgE : gE (0, ys) = ((k, La), e6, x6) := Prod.ext (Prod.ext hkk hgE0.1) hgE0.2
        rw [hgE] at hk26 hlM
        obtain ⟨L', h1, h2⟩ := hinv.out.rest
        rw [gEs_go gn rfl, hgE] at h1
        simp only [Prod.mk.injEq] at h1
        have HL := Lib.hid (show gEs gn (e6, x6) = ((gEs gn (e6, x6)).1, e3, x3) ∧ (E.map Ev.key ++ [((k : Int), La)]) ++ (gEs gn (e6, x6)).1.map keyX = LK from ⟨Prod.ext rfl h1.2, by rw [← h2, ← h1.1, List.append_assoc]; rfl⟩)
        have HM := Lib.hid (show (∀ a ∈ La, a < M) ∧ k ≤ 26 from ⟨hlM, hk26⟩)
        clear h1 h2 hk26 hlM hkk hgE0
        by_cases hC : e1 = 0 ∧ k = 0
        · obtain ⟨rfl, rfl⟩ := hC
          have hcut : La = [] ∧ e6 = 4 ∧ x6 = [] := by
            unfold gE at hgE
            rw [hg1, if_pos ⟨rfl, rfl⟩] at hgE
            simp only [Prod.mk.injEq] at hgE
            exact ⟨hgE.1.2.symm, hgE.2.1.symm, hgE.2.2.symm⟩
          clear hgE
          go_wp2_with fail
          refine (kv1.out _ (Below.refl _ _)).mono ?_
          rintro r w3 ⟨rfl, hs3, ht3⟩
          have O := Lib.hid (show Eo w3 B vo E ∧ Tr (fun b => b = g) w w3 ∧ (E.length = nE ∧ nE + (gn + 1) ≤ 1000) ∧ ((∀ a ∈ La, a < M) ∧ 0 ≤ 26) ∧ (gEs gn (e6, x6) = ((gEs gn (e6, x6)).1, e3, x3) ∧ (E.map Ev.key ++ [((0 : Int), La)]) ++ (gEs gn (e6, x6)).1.map keyX = LK) from
            ⟨hinv.out.own.keep ht3 (fun b hb hc => by have hc' : b = g := hc; omega), hinv.out.tr.trans ht3, ⟨hnE, by have := hinv.out.len; omega⟩, HM.out, HL.out⟩)
          have hsz3 : B ≤ w3.heap.size := Nat.le_trans hinv.out.sz ht3.size
          have HS := Lib.hid hs3
          clear hs3 ht3 kv1 hinv HL HM hnE cE
          go_upto_region 6 with (fail)
          have hB0 : ∀ x, Below w3.heap.size w3 (w3.alloc x) := fun x => (Below.refl _ _).alloc (Nat.le_refl _) _
          refine wp_abs (fun wx => SR wx g q 0 y1 ∧ Tr (fun b => b = g) w3 wx ∧ Row wx w3.heap.size 26 #[.int .i64 (0 : Int), .slice none 0 0]) ⟨HS.out.below (hB0 _), Tr.of (hB0 _), ?_⟩ ?_
          · refine Row.new_at ?_; simp
          rintro w4 ⟨hs4, ht4, r5⟩
          obtain ⟨B5, hB5⟩ : ∃ b, w3.heap.size = b := ⟨_, rfl⟩
          try rw [hB5] at r5
          try rw [hB5] at hsz3
          try rw [hB5]
          have k0 := r5.cell 0
          have k1 := hs4.e1
          have HS := Lib.hid (show _ ∧ _ ∧ _ from ⟨hs4, ht4, r5⟩)
          clear hB0 hs4 ht4
          obtain ⟨n, e2, x2, hg2⟩ := tri (gV 100 ((4 : Int), ([] : List Int)))
          have h42 := hg2
          rw [gV_fault (by decide)] at h42
          simp only [Prod.mk.injEq] at h42
          have hg3 : gAs n (e2, x2) = (La, e6, x6) := by
            rw [hcut.1, hcut.2.1, hcut.2.2]
            obtain ⟨rfl, rfl, rfl⟩ := h42
            rfl
          have hn100 : n ≤ 100 := by omega
          have kv2 := Lib.hid (fun wx (hs : SR wx g q 4 []) => rvar_V hs hg2)
          replace hg3 := Lib.hid hg3
          clear hg2 h42 hcut
          obtain ⟨-, -, -, h4q, vv, hrow, -⟩ := HS.out.1
          have d0 : w4.cell? ⟨g, 0, none⟩ = some vv := hrow.cell 0
          have f0 := hrow.frozen 0
          have f1 := hrow.frozen 1
          have HS2 := Lib.hid (show _ ∧ _ from ⟨hrow, h4q⟩)
          clear hrow h4q r5
          go_upto_region 9 with (fail)
          have htt : Tr (fun b => b = g) w4 ((w4.setCell ⟨g, 0, none⟩ (.slice none 0 0)).setCell ⟨g, 1, none⟩ (.int .i64 4)) := (tr_cell (X := fun b => b = g) rfl).trans (tr_cell (X := fun b => b = g) rfl)
          refine wp_abs (fun wx => SR wx g q 4 [] ∧ Tr (fun b => b = g) w3 wx ∧ Row wx B5 26 #[.int .i64 (0 : Int), .slice none 0 0]) ⟨⟨fun _ => rfl, By.nil, Nat.zero_le _, HS2.out.2, _, Row.congr ((Row.set HS2.out.1 0 (.slice none 0 0)).set 1 (.int .i64 4)) rfl, .inl ⟨rfl, none, rfl⟩⟩, HS.out.2.1.trans htt, K6.Row.tr HS.out.2.2 htt (by omega)⟩ ?_
          rintro w5 ⟨hs5, ht5, r5⟩
          clear HS HS2 htt d0 f0 f1 k0 k1
          have HS := Lib.hid (show _ ∧ _ ∧ _ from ⟨hs5, ht5, r5⟩)
          clear hs5 ht5 r5
          go_wp2_with fail
          refine (kv2.out _ HS.out.1).mono ?_
          rintro r w7 ⟨rfl, hs, ht⟩
          have H7 : OneR w3 w7 g q B5 (0 : Int) (.slice none 0 0) n La e6 x6 e2 x2 [] := ⟨K6.Row.tr HS.out.2.2 ht (by omega), Oe.nil _ _, hs, HS.out.2.1.trans ht, ⟨La, hg3.out, rfl⟩, (by show 0 + n ≤ 100; omega), (K6.Row.tr HS.out.2.2 ht (by omega)).lt⟩
          replace H7 := Lib.hid H7
          clear HS hs ht kv2 hg3
          go_wp2_with fail
          go_loopg [6] n (fun gg s6 wr => ∃ (mi : Int) (v : Value) (es : Int) (ys : List Int) (l : List Nat), s6 = .int .i64 mi ∧ Hid (mi = (gg : Int)) ∧ Hid (OneR w3 wr g q B5 (0 : Int) v gg La e6 x6 es ys l))
          case atStart => exact ⟨(n : Int), .slice none 0 0, e2, x2, [], rfl, Lib.hid rfl, H7⟩
          case round =>
            clear H7
            obtain ⟨mi, v, es, ys, l, rfl, HMI, hinv⟩ := hrel
            by_cases hg0 : gk = 0
            · subst hg0
              have hz : ¬ (0 : Int) < mi := by have := HMI.out; omega
              clear HMI
              go_upto_region 13 with (fail)
              have hI := hinv.out
              clear hinv hz
              obtain ⟨rfl, rfl, rfl⟩ := hI.stop (.inr rfl)
              obtain ⟨r5, owne, src, tr3, -, -, hsz5⟩ := hI
              obtain ⟨ne, hne⟩ : ∃ ne, l.length = ne := ⟨_, rfl⟩
              obtain ⟨qe, ce, hve⟩ := own_sl owne
              rw [hne] at hve
              subst hve
              obtain ⟨own, tr, hlen, HM, HL⟩ := O.out
              obtain ⟨ev, hek, hev, hel, hin⟩ := owne.ev (base := B) (v := vo) (k := (0 : Int)) HM.1 ⟨by have := HM.2; omega, by have := HM.2; omega⟩ (by omega) (fun b hb => by have := (own_lt own.1 b hb).2; omega)
              replace own := own.keep tr3 (fun b hb hc => by have hc' : b = g := hc; omega)
              have HEv := Lib.hid (show _ ∧ _ ∧ _ from ⟨hek, hev, hel⟩)
              have own' : wr.ownsRow B 26 2 vo nE (evcs E) := by rw [← hlen.1]; exact own.1
              have hil : nE ≤ 1000 := by omega
              replace tr := tr.trans tr3
              clear owne hek hev hel hne
              let L : List Sp := [sL 2 26 [] 1 #[.int .i64 (0 : Int), .slice qe ne ce], sPz 3 [2] [2] (B) 26 2 vo (nE + 1) (evcs E ++ [.int .i64 (0 : Int), .slice qe ne ce])]
              refine wp_region_six0 (shs L) (look6 L) (fun c => vo.ownBlock = some c) (by kernel_rfl) (by kernel_rfl) (mk_St L [3] [3] (by kernel_rfl) (by kernel_rfl) ⟨ok_L, ok_Pz (own_sl3 own') (fun b hb => ⟨hb, (own_lt own.1 b hb).2⟩), trivial⟩ (by simp)) ?_
              intro QQ hQ
              -- 0: t3
              refine stepK rfl (by kernel_rfl) (fun K hK => ?_); go_simp
              apply Exists.intro; apply And.intro; (focus (intro wk hk; go_simp; exact ⟨rfl, rfl⟩)); refine hK _ _ ?_; clear hK K
              -- 1: load<26> *t5
              refine stepK rfl (by kernel_rfl) (fun K hK => ?_); go_simp
              apply Exists.intro; apply And.intro; (focus exact kLoad rfl rfl aggT26 r5 rfl id); refine hK _ _ ?_; clear hK K
              -- 2: buildSlice<77> len 1 0:t60
              refine stepS _ rfl (by kernel_rfl) (fun K hK => ?_); go_simp
              refine ⟨?_, ?_⟩
              · intro wk hk hg hu; go_simp; exact left_L rfl rfl
              rintro ⟨v2, lo2, hi2⟩ hlo2 hhi2 ⟨e2, f2⟩
              replace e2 : v2 = .slice (some ⟨lo2, 0, none⟩) 1 1 := e2; replace f2 : hi2 = lo2 + 1 := f2; replace hlo2 : _ ≤ lo2 := hlo2; subst e2; subst f2
              refine hK _ _ ?_; clear hK K
              -- 3: call builtin append<77,77>(t59, t61)
              refine stepS _ rfl (by kernel_rfl) (fun K hK => ?_); go_simp
              refine ⟨?_, ?_⟩
              · intro wk hk hg hu; have uL := hu 2 (show 2 ∈ [2] by decide); have rL : Row wk lo2 26 (#[.int .i64 (0 : Int), .slice qe ne ce]) := uL.2; have how := own_tr own' hk (fun b hb hc => hc); obtain ⟨vz, wz, hrun, hoz, hgz, hwz⟩ := append1 appT77 how rL rfl (by kernel_rfl) (by omega) (by have h2 := hk.size; omega); rw [run_append_op rfl rfl rfl hrun]; exact left_Pz rfl rfl hgz hoz (fun b hb => (own_lt hoz b hb).2) hwz
              rintro ⟨v3, lo3, hi3⟩ hlo3 - ⟨hG3, q3, m3, c3, rfl⟩
              refine hK _ _ ?_; clear hK K
              -- 4: assign t62
              refine stepKx [3] (fun c => vo.ownBlock = some c) rfl (by kernel_rfl) (by intro i hi b hb; simp only [List.mem_cons, List.not_mem_nil, or_false] at hi; subst hi; exact hb) (fun K hK => ?_); go_simp
              apply Exists.intro; apply And.intro; (focus (intro wk hk; go_simp; exact ⟨rfl, rfl⟩)); refine hK _ _ ?_; clear hK K
              refine stepN ?_
              refine hQ _ _ ?_
              intro w6 hT hG hF
              have hf3 : Grew vo ⟨.slice q3 m3 c3, lo3, hi3⟩ ∧ w6.ownsRow B 26 2 (.slice q3 m3 c3) (nE + 1) (evcs E ++ [.int .i64 (0 : Int), .slice qe ne ce]) := hF 3 _ rfl rfl (by decide)
              have hpush : Eo w6 B (.slice q3 m3 c3) (E ++ [ev]) := own.push (lo := lo3) (hi := hi3) hT (by rw [hlen.1]; unfold evc; rw [HEv.out.1, HEv.out.2.1]; exact hf3.2) hf3.1 hlo3 hin
              have H := Lib.hid (show ReadR w w6 g q B (.slice q3 m3 c3) gn LK e3 x3 es ys (E ++ [ev]) from ⟨hpush, src.keep hT (fun hc => by have := (own_lt own.1 _ hc).1; omega) (fun b hb hc => by have := (own_lt own.1 _ hc).1; have := hqb b hb; omega), tr.trans_new hT (fun b hc hlt => by have := (own_lt own.1 b hc).1; omega),
                ⟨_, HL.1, by rw [List.map_append]; have h9 : [ev].map Ev.key = [((0 : Int), l)] := (by show [ev.key] = _; unfold Ev.key; rw [HEv.out.1, HEv.out.2.2]); rw [h9]; exact HL.2⟩, by rw [List.length_append]; show E.length + 1 + gn ≤ 1000; omega, by have := hT.size; omega⟩)
              clear hT hG hF hQ QQ L hf3 hpush own own' src tr hin r5 HL hG3 hlo3 HEv HM tr3 O hlen
              go_wp2_with fail
              go_roundg gn
              case measure => omega
              case rel => exact ⟨mo - 1, es, ys, E ++ [ev], rfl, Lib.hid (by have := HMO.out; omega), H⟩
            · obtain ⟨g2, rfl⟩ : ∃ gn, gk = gn + 1 := ⟨gk - 1, by omega⟩
              have hz : (0 : Int) < mi := by have := HMI.out; omega
              have cE := hinv.out.src.e1
              by_cases hes : es = 0
              · subst hes
                have wm : IntKind.i64.wrap (mi - 1) = mi - 1 := by have := HMI.out; have := hinv.out.len; rw [IntKind.wrap_i64]; omega
                go_upto_region 12 with (fail)
                obtain ⟨a, e4, y4, hg4⟩ := tri (gA (0, ys))
                obtain ⟨r1, own, src, tr, ⟨L', hL1, hL2⟩, hlen, hsz⟩ := hinv.out
                clear hinv cE
                rw [gAs_go g2 rfl, hg4] at hL1
                simp only [Prod.mk.injEq] at hL1
                have HL2 := Lib.hid (show gAs g2 (e4, y4) = ((gAs g2 (e4, y4)).1, e6, x6) ∧ (l ++ [a]) ++ (gAs g2 (e4, y4)).1 = La from ⟨Prod.ext rfl hL1.2, by rw [← hL2, ← hL1.1, List.append_assoc]; rfl⟩)
                clear hL1 hL2
                have hqb' : ∀ b, q = some b → b < wr.heap.size := fun b hb => by have := hqb b hb; omega
                have ka := fun wk (hk : Tr None_ wr wk) => ramt_V (src.keep hk id (fun _ _ => id)) (fun b hb => Nat.lt_of_lt_of_le (hqb' b hb) hk.size) hg4
                obtain ⟨y0, y1, y2, y3, hW⟩ : ∃ y0 y1 y2 y3 : Int, W4 a = #[.int .u64 y0, .int .u64 y1, .int .u64 y2, .int .u64 y3] := ⟨_, _, _, _, rfl⟩
                simp only [hW] at ka
                replace ka := Lib.hid ka
                replace hW := Lib.hid hW
                have hvg : ∀ b, v.ownBlock = some b → b = g → False := fun b hb hc => by have h1 := (own_lt own b hb).1; omega
                have hB1g : ¬ B5 = g := by omega
                have hvB1 : ¬ v.ownBlock = some B5 := fun hb => by have h1 := (own_lt own _ hb).1; omega
                obtain ⟨i, hlen1⟩ : ∃ i, l.length = i := ⟨_, rfl⟩
                have hil : i ≤ 1000 := by omega
                have own' : wr.ownsRow (B5 + 1) 31 4 v i (uw l) := by rw [← hlen1]; exact own
                let L : List Sp := [sW 3 [] [] [] g (fun b => b = g ∨ q = some b) (fun u => u = .agg #[.int .u64 y0, .int .u64 y1, .int .u64 y2, .int .u64 y3]) (fun _ w => SR w g q e4 y4), sL 4 31 [] 1 #[.int .u64 y0, .int .u64 y1, .int .u64 y2, .int .u64 y3], sPz 5 [4] [4] (B5 + 1) 31 4 v (i + 1) (uw l ++ [.int .u64 y0, .int .u64 y1, .int .u64 y2, .int .u64 y3]), sO 7 (B5) 26 [5, 4] (fun gh => #[.int .i64 (0 : Int), (gh 5).v])]
                refine wp_region_six (shs L) (look6 L) (fun c => c = g ∨ c = B5 ∨ v.ownBlock = some c) (by kernel_rfl) (by kernel_rfl) (mk_St L [3, 5, 7] [3, 5, 7] (by kernel_rfl) (by kernel_rfl) ⟨ok_W ⟨_, rfl⟩ (fun _ w w' h hT => SR.loc' w w' h hT) src.lt (.inl rfl) (fun b hb => by rcases hb with rfl | hb; exact src.lt; exact hqb' b hb), ok_L, ok_Pz (own_sl3 own) (fun b hb => ⟨.inr (.inr hb), (own_lt own b hb).2⟩), ok_O (fun g g' h => by rw [h 5 (by simp)]) r1.lt (.inr (.inl rfl)), trivial⟩ (by intro i hi j hj hne b hb hx; simp only [List.mem_cons, List.not_mem_nil, or_false] at hi hj; rcases hi with rfl | rfl | rfl <;> rcases hj with rfl | rfl | rfl <;> first | exact absurd rfl hne | (have h1 : b = g ∨ q = some b := hb; have h2 : v.ownBlock = some b := hx; have h3 := (own_lt own b h2).1; rcases h1 with h1 | h1; omega; have h4 := hqb b h1; omega) | (have h1 : b = g ∨ q = some b := hb; have h2 : b = B5 := hx; rcases h1 with h1 | h1; omega; have h4 := hqb b h1; omega) | (have h1 : v.ownBlock = some b := hb; have h2 : b = g := hx; have h3 := (own_lt own b h1).1; omega) | (have h1 : v.ownBlock = some b := hb; have h2 : b = B5 := hx; have h3 := (own_lt own b h1).1; omega) | (have h1 : b = B5 := hb; have h2 : b = g := hx; omega) | (have h1 : b = B5 := hb; have h2 : v.ownBlock = some b := hx; have h3 := (own_lt own b h2).1; omega))) ?_
                intro QQ hQ
                -- 0: fieldAddr<26> t5.1
                refine stepKx [3] (fun c => c = g) rfl (by kernel_rfl) (by intro i hi b hb; simp only [List.mem_cons, List.not_mem_nil, or_false] at hi; subst hi; exact hb) (fun K hK => ?_); go_simp
                apply Exists.intro; apply And.intro; (focus (intro wk hk; go_simp; exact ⟨rfl, rfl⟩)); refine hK _ _ ?_; clear hK K
                -- 1: load<23> *t52
                refine stepKx [3] (fun c => c = g) rfl (by kernel_rfl) (by intro i hi b hb; simp only [List.mem_cons, List.not_mem_nil, or_false] at hi; subst hi; exact hb) (fun K hK => ?_); go_simp
                apply Exists.intro; apply And.intro; (focus (intro wk hk; have cc : wk.cell? ⟨B5, 1, none⟩ = some v := (K6.Row.tr r1 hk.undrew (by intro hc; exact hB1g hc)).cell 1; go_simp; exact ⟨rfl, rfl⟩)); refine hK _ _ ?_; clear hK K
                -- 2: t0
                refine stepK rfl (by kernel_rfl) (fun K hK => ?_); go_simp
                apply Exists.intro; apply And.intro; (focus (intro wk hk; go_simp; exact ⟨rfl, rfl⟩)); refine hK _ _ ?_; clear hK K
                -- 3: call F179(t54)
                refine stepS _ rfl (by kernel_rfl) (fun K hK => ?_); go_simp
                refine ⟨?_, ?_⟩
                · intro wk hk hg hu; go_simp; refine upon_enter ((ka.out _ hk.undrew).mono ?_); rintro e w' ⟨rfl, hf, ht⟩; exact ⟨_, rfl, left_W (p := fun u => u = .agg #[.int .u64 y0, .int .u64 y1, .int .u64 y2, .int .u64 y3]) (f := fun _ w => SR w g q e4 y4) rfl rfl rfl ht hf⟩
                rintro ⟨v3, lo3, hi3⟩ - - (rfl : v3 = _)
                refine hK _ _ ?_; clear hK K
                -- 4: buildSlice<23> len 1 0:t55
                refine stepSz _ rfl (fun K hK => ?_); go_simp
                refine ⟨?_, ?_⟩
                · intro wk hk hg hu; go_simp; exact left_L rfl rfl
                rintro ⟨v4, lo4, hi4⟩ hlo4 hhi4 ⟨e4, f4⟩
                replace e4 : v4 = .slice (some ⟨lo4, 0, none⟩) 1 1 := e4; replace f4 : hi4 = lo4 + 1 := f4; replace hlo4 : _ ≤ lo4 := hlo4; subst e4; subst f4
                refine hK _ _ ?_; clear hK K
                -- 5: call builtin append<23,23>(t53, t56)
                refine stepSx _ [3] (fun c => c = g) rfl (by kernel_rfl) (by intro i hi b hb; simp only [List.mem_cons, List.not_mem_nil, or_false] at hi; subst hi; exact hb) (fun K hK => ?_); go_simp
                refine ⟨?_, ?_⟩
                · intro wk hk hg hu; have uL := hu 4 (show 4 ∈ [4] by decide); have rL : Row wk lo4 31 (#[.int .u64 y0, .int .u64 y1, .int .u64 y2, .int .u64 y3]) := uL.2; have how := own_tr own' hk.undrew (fun b hb hc => hvg b hb hc); obtain ⟨vz, wz, hrun, hoz, hgz, hwz⟩ := append1 appT23 how rL rfl (by kernel_rfl) (by omega) (by have h2 := hk.undrew.size; omega); rw [run_append_op rfl rfl rfl hrun]; exact left_Pz rfl rfl hgz hoz (fun b hb => (own_lt hoz b hb).2) hwz
                rintro ⟨v5, lo5, hi5⟩ - - ⟨hG5, q5, m5, c5, rfl⟩
                refine hK _ _ ?_; clear hK K
                -- 6: fieldAddr<26> t5.1
                refine stepKx [3, 5] (fun c => c = g ∨ v.ownBlock = some c) rfl (by kernel_rfl) (by intro i hi b hb; simp only [List.mem_cons, List.not_mem_nil, or_false] at hi; rcases hi with rfl | rfl <;> first | exact Or.inl hb | exact Or.inr hb | exact Or.inr (Or.inl hb) | exact Or.inr (Or.inr hb) | exact Or.inr (Or.inr (Or.inl hb)) | exact Or.inr (Or.inr (Or.inr hb))) (fun K hK => ?_); go_simp
                apply Exists.intro; apply And.intro; (focus (intro wk hk; go_simp; exact ⟨rfl, rfl⟩)); refine hK _ _ ?_; clear hK K
                -- 7: store<23> *t58 = t57
                refine stepSx _ [3, 5] (fun c => c = g ∨ v.ownBlock = some c) rfl (by kernel_rfl) (by intro i hi b hb; simp only [List.mem_cons, List.not_mem_nil, or_false] at hi; rcases hi with rfl | rfl <;> first | exact Or.inl hb | exact Or.inr hb | exact Or.inr (Or.inl hb) | exact Or.inr (Or.inr hb) | exact Or.inr (Or.inr (Or.inl hb)) | exact Or.inr (Or.inr (Or.inr hb))) (fun K hK => ?_); go_simp
                refine ⟨?_, ?_⟩
                · intro wk hk hg hu; have rk := K6.Row.tr r1 hk.undrew (by intro hc; rcases hc with hc | hc; exact hB1g hc; exact hvB1 hc); have cc := rk.cell 1; have ff := rk.frozen 1; go_simp; exact left_O (l := L) (s := (sO 7 (B5) 26 [5, 4] (fun gh => #[.int .i64 (0 : Int), (gh 5).v])).1) rfl rfl (by decide) (fun g g' h => by rw [h 5 (by simp)]) (fun c hc => Below.heap_setCell _ _ _ _ hc) rfl rfl rfl (by simp) (Row.congr (rk.set 1 _) rfl)
                rintro ⟨v7, lo7, hi7⟩ - - (rfl : v7 = undef)
                refine hK _ _ ?_; clear hK K
                refine stepN ?_
                refine hQ _ _ ?_
                intro w9 hT hG hF
                have hT9 := hT.undrew
                have src9 : SR w9 g q e4 y4 := hF 3 _ rfl rfl (by decide)
                have hf5 : Grew v ⟨.slice q5 m5 c5, lo5, hi5⟩ ∧ w9.ownsRow (B5 + 1) 31 4 (.slice q5 m5 c5) (i + 1) (uw l ++ [.int .u64 y0, .int .u64 y1, .int .u64 y2, .int .u64 y3]) := hF 5 _ rfl rfl (by decide)
                have r1' : Row w9 B5 26 #[.int .i64 (0 : Int), .slice q5 m5 c5] := hF 7 _ rfl rfl (by decide)
                have H := Lib.hid (show OneR w3 w9 g q B5 (0 : Int) (.slice q5 m5 c5) g2 La e6 x6 e4 y4 (l ++ [a]) from ⟨r1',
                  by unfold Oe; rw [List.length_append, uw_snoc, hW.out, hlen1]; exact hf5.2, src9, tr.trans_new hT9 (by intro b hc hlt; rcases hc with hc | hc | hc; exact hc; omega; have := (own_lt own _ hc).1; omega), ⟨_, HL2.out.1, HL2.out.2⟩, by rw [List.length_append]; show l.length + 1 + g2 ≤ 100; omega, by have := hT9.size; omega⟩)
                clear hT hT9 hG hF hQ QQ L hf5 r1' src9 src own own' tr r1 ka HL2 hG5 hvg
                go_wp2_with fail
                go_roundg g2
                case measure => omega
                case rel => exact ⟨mi - 1, .slice q5 m5 c5, e4, y4, l ++ [a], rfl, Lib.hid (by have := HMI.out; omega), H⟩
              · have hq : (es == 0) = false := by rw [beq_eq_false_iff_ne]; exact hes
                clear HMI
                go_upto_region 13 with (fail)
                have hI := hinv.out
                clear hinv hz cE hq
                obtain ⟨rfl, rfl, rfl⟩ := hI.stop (.inl hes)
                obtain ⟨r5, owne, src, tr3, -, -, hsz5⟩ := hI
                obtain ⟨ne, hne⟩ : ∃ ne, l.length = ne := ⟨_, rfl⟩
                obtain ⟨qe, ce, hve⟩ := own_sl owne
                rw [hne] at hve
                subst hve
                obtain ⟨own, tr, hlen, HM, HL⟩ := O.out
                obtain ⟨ev, hek, hev, hel, hin⟩ := owne.ev (base := B) (v := vo) (k := (0 : Int)) HM.1 ⟨by have := HM.2; omega, by have := HM.2; omega⟩ (by omega) (fun b hb => by have := (own_lt own.1 b hb).2; omega)
                replace own := own.keep tr3 (fun b hb hc => by have hc' : b = g := hc; omega)
                have HEv := Lib.hid (show _ ∧ _ ∧ _ from ⟨hek, hev, hel⟩)
                have own' : wr.ownsRow B 26 2 vo nE (evcs E) := by rw [← hlen.1]; exact own.1
                have hil : nE ≤ 1000 := by omega
                replace tr := tr.trans tr3
                clear owne hek hev hel hne
                let L : List Sp := [sL 2 26 [] 1 #[.int .i64 (0 : Int), .slice qe ne ce], sPz 3 [2] [2] (B) 26 2 vo (nE + 1) (evcs E ++ [.int .i64 (0 : Int), .slice qe ne ce])]
                refine wp_region_six0 (shs L) (look6 L) (fun c => vo.ownBlock = some c) (by kernel_rfl) (by kernel_rfl) (mk_St L [3] [3] (by kernel_rfl) (by kernel_rfl) ⟨ok_L, ok_Pz (own_sl3 own') (fun b hb => ⟨hb, (own_lt own.1 b hb).2⟩), trivial⟩ (by simp)) ?_
                intro QQ hQ
                -- 0: t3
                refine stepK rfl (by kernel_rfl) (fun K hK => ?_); go_simp
                apply Exists.intro; apply And.intro; (focus (intro wk hk; go_simp; exact ⟨rfl, rfl⟩)); refine hK _ _ ?_; clear hK K
                -- 1: load<26> *t5
                refine stepK rfl (by kernel_rfl) (fun K hK => ?_); go_simp
                apply Exists.intro; apply And.intro; (focus exact kLoad rfl rfl aggT26 r5 rfl id); refine hK _ _ ?_; clear hK K
                -- 2: buildSlice<77> len 1 0:t60
                refine stepS _ rfl (by kernel_rfl) (fun K hK => ?_); go_simp
                refine ⟨?_, ?_⟩
                · intro wk hk hg hu; go_simp; exact left_L rfl rfl
                rintro ⟨v2, lo2, hi2⟩ hlo2 hhi2 ⟨e2, f2⟩
                replace e2 : v2 = .slice (some ⟨lo2, 0, none⟩) 1 1 := e2; replace f2 : hi2 = lo2 + 1 := f2; replace hlo2 : _ ≤ lo2 := hlo2; subst e2; subst f2
                refine hK _ _ ?_; clear hK K
                -- 3: call builtin append<77,77>(t59, t61)
                refine stepS _ rfl (by kernel_rfl) (fun K hK => ?_); go_simp
                refine ⟨?_, ?_⟩
                · intro wk hk hg hu; have uL := hu 2 (show 2 ∈ [2] by decide); have rL : Row wk lo2 26 (#[.int .i64 (0 : Int), .slice qe ne ce]) := uL.2; have how := own_tr own' hk (fun b hb hc => hc); obtain ⟨vz, wz, hrun, hoz, hgz, hwz⟩ := append1 appT77 how rL rfl (by kernel_rfl) (by omega) (by have h2 := hk.size; omega); rw [run_append_op rfl rfl rfl hrun]; exact left_Pz rfl rfl hgz hoz (fun b hb => (own_lt hoz b hb).2) hwz
                rintro ⟨v3, lo3, hi3⟩ hlo3 - ⟨hG3, q3, m3, c3, rfl⟩
                refine hK _ _ ?_; clear hK K
                -- 4: assign t62
                refine stepKx [3] (fun c => vo.ownBlock = some c) rfl (by kernel_rfl) (by intro i hi b hb; simp only [List.mem_cons, List.not_mem_nil, or_false] at hi; subst hi; exact hb) (fun K hK => ?_); go_simp
                apply Exists.intro; apply And.intro; (focus (intro wk hk; go_simp; exact ⟨rfl, rfl⟩)); refine hK _ _ ?_; clear hK K
                refine stepN ?_
                refine hQ _ _ ?_
                intro w6 hT hG hF
                have hf3 : Grew vo ⟨.slice q3 m3 c3, lo3, hi3⟩ ∧ w6.ownsRow B 26 2 (.slice q3 m3 c3) (nE + 1) (evcs E ++ [.int .i64 (0 : Int), .slice qe ne ce]) := hF 3 _ rfl rfl (by decide)
                have hpush : Eo w6 B (.slice q3 m3 c3) (E ++ [ev]) := own.push (lo := lo3) (hi := hi3) hT (by rw [hlen.1]; unfold evc; rw [HEv.out.1, HEv.out.2.1]; exact hf3.2) hf3.1 hlo3 hin
                have H := Lib.hid (show ReadR w w6 g q B (.slice q3 m3 c3) gn LK e3 x3 es ys (E ++ [ev]) from ⟨hpush, src.keep hT (fun hc => by have := (own_lt own.1 _ hc).1; omega) (fun b hb hc => by have := (own_lt own.1 _ hc).1; have := hqb b hb; omega), tr.trans_new hT (fun b hc hlt => by have := (own_lt own.1 b hc).1; omega),
                  ⟨_, HL.1, by rw [List.map_append]; have h9 : [ev].map Ev.key = [((0 : Int), l)] := (by show [ev.key] = _; unfold Ev.key; rw [HEv.out.1, HEv.out.2.2]); rw [h9]; exact HL.2⟩, by rw [List.length_append]; show E.length + 1 + gn ≤ 1000; omega, by have := hT.size; omega⟩)
                clear hT hG hF hQ QQ L hf3 hpush own own' src tr hin r5 HL hG3 hlo3 HEv HM tr3 O hlen
                go_wp2_with fail
                go_roundg gn
                case measure => omega
                case rel => exact ⟨mo - 1, es, ys, E ++ [ev], rfl, Lib.hid (by have := HMO.out; omega), H⟩
        · obtain ⟨n, e2, x2, hg2⟩ := tri (gV 100 (e1, y1))
          have hg3 : gAs n (e2, x2) = (La, e6, x6) := by
            unfold gE at hgE
            rw [hg1, if_neg hC] at hgE
            simp only at hgE
            rw [hg2] at hgE
            simp only [Prod.mk.injEq] at hgE
            exact Prod.ext hgE.1.2 hgE.2
          have hn100 : n ≤ 100 := by
            have h1 := gV_most (most := 100) (s := (e1, y1)) (by decide)
            rw [hg2] at h1
            simp only at h1
            omega
          have kv2 := Lib.hid (fun wx (hs : SR wx g q e1 y1) => rvar_V hs hg2)
          replace hg3 := Lib.hid hg3
          clear hg1 hg2 hgE
          go_wp2_with fail
          refine (kv1.out _ (Below.refl _ _)).mono ?_
          rintro r w3 ⟨rfl, hs3, ht3⟩
          have O := Lib.hid (show Eo w3 B vo E ∧ Tr (fun b => b = g) w w3 ∧ (E.length = nE ∧ nE + (gn + 1) ≤ 1000) ∧ ((∀ a ∈ La, a < M) ∧ k ≤ 26) ∧ (gEs gn (e6, x6) = ((gEs gn (e6, x6)).1, e3, x3) ∧ (E.map Ev.key ++ [((k : Int), La)]) ++ (gEs gn (e6, x6)).1.map keyX = LK) from
            ⟨hinv.out.own.keep ht3 (fun b hb hc => by have hc' : b = g := hc; omega), hinv.out.tr.trans ht3, ⟨hnE, by have := hinv.out.len; omega⟩, HM.out, HL.out⟩)
          have hsz3 : B ≤ w3.heap.size := Nat.le_trans hinv.out.sz ht3.size
          have HS := Lib.hid hs3
          clear hs3 ht3 kv1 hinv HL HM hnE cE
          go_upto_region 6 with (fail)
          have hB0 : ∀ x, Below w3.heap.size w3 (w3.alloc x) := fun x => (Below.refl _ _).alloc (Nat.le_refl _) _
          refine wp_abs (fun wx => SR wx g q e1 y1 ∧ Tr (fun b => b = g) w3 wx ∧ Row wx w3.heap.size 26 #[.int .i64 (k : Int), .slice none 0 0]) ⟨HS.out.below (hB0 _), Tr.of (hB0 _), ?_⟩ ?_
          · refine Row.new_at ?_; simp
          rintro w4 ⟨hs4, ht4, r5⟩
          obtain ⟨B5, hB5⟩ : ∃ b, w3.heap.size = b := ⟨_, rfl⟩
          try rw [hB5] at r5
          try rw [hB5] at hsz3
          try rw [hB5]
          have k0 := r5.cell 0
          have k1 := hs4.e1
          have HS := Lib.hid (show _ ∧ _ ∧ _ from ⟨hs4, ht4, r5⟩)
          clear hB0 hs4 ht4
          by_cases he1 : e1 = 0
          · have hkq : ((k : Int) == 0) = false := by rw [beq_eq_false_iff_ne]; intro h9; exact hC ⟨he1, by omega⟩
            subst he1
            clear hC
            go_upto_region 9 with (fail)
            clear k0 k1 hkq r5
            go_wp2_with fail
            refine (kv2.out _ HS.out.1).mono ?_
            rintro r w7 ⟨rfl, hs, ht⟩
            have H7 : OneR w3 w7 g q B5 (k : Int) (.slice none 0 0) n La e6 x6 e2 x2 [] := ⟨K6.Row.tr HS.out.2.2 ht (by omega), Oe.nil _ _, hs, HS.out.2.1.trans ht, ⟨La, hg3.out, rfl⟩, (by show 0 + n ≤ 100; omega), (K6.Row.tr HS.out.2.2 ht (by omega)).lt⟩
            replace H7 := Lib.hid H7
            clear HS hs ht kv2 hg3
            go_wp2_with fail
            go_loopg [6] n (fun gg s6 wr => ∃ (mi : Int) (v : Value) (es : Int) (ys : List Int) (l : List Nat), s6 = .int .i64 mi ∧ Hid (mi = (gg : Int)) ∧ Hid (OneR w3 wr g q B5 (k : Int) v gg La e6 x6 es ys l))
            case atStart => exact ⟨(n : Int), .slice none 0 0, e2, x2, [], rfl, Lib.hid rfl, H7⟩
            case round =>
              clear H7
              obtain ⟨mi, v, es, ys, l, rfl, HMI, hinv⟩ := hrel
              by_cases hg0 : gk = 0
              · subst hg0
                have hz : ¬ (0 : Int) < mi := by have := HMI.out; omega
                clear HMI
                go_upto_region 13 with (fail)
                have hI := hinv.out
                clear hinv hz
                obtain ⟨rfl, rfl, rfl⟩ := hI.stop (.inr rfl)
                obtain ⟨r5, owne, src, tr3, -, -, hsz5⟩ := hI
                obtain ⟨ne, hne⟩ : ∃ ne, l.length = ne := ⟨_, rfl⟩
                obtain ⟨qe, ce, hve⟩ := own_sl owne
                rw [hne] at hve
                subst hve
                obtain ⟨own, tr, hlen, HM, HL⟩ := O.out
                obtain ⟨ev, hek, hev, hel, hin⟩ := owne.ev (base := B) (v := vo) (k := (k : Int)) HM.1 ⟨by have := HM.2; omega, by have := HM.2; omega⟩ (by omega) (fun b hb => by have := (own_lt own.1 b hb).2; omega)
                replace own := own.keep tr3 (fun b hb hc => by have hc' : b = g := hc; omega)
                have HEv := Lib.hid (show _ ∧ _ ∧ _ from ⟨hek, hev, hel⟩)
                have own' : wr.ownsRow B 26 2 vo nE (evcs E) := by rw [← hlen.1]; exact own.1
                have hil : nE ≤ 1000 := by omega
                replace tr := tr.trans tr3
                clear owne hek hev hel hne
                let L : List Sp := [sL 2 26 [] 1 #[.int .i64 (k : Int), .slice qe ne ce], sPz 3 [2] [2] (B) 26 2 vo (nE + 1) (evcs E ++ [.int .i64 (k : Int), .slice qe ne ce])]
                refine wp_region_six0 (shs L) (look6 L) (fun c => vo.ownBlock = some c) (by kernel_rfl) (by kernel_rfl) (mk_St L [3] [3] (by kernel_rfl) (by kernel_rfl) ⟨ok_L, ok_Pz (own_sl3 own') (fun b hb => ⟨hb, (own_lt own.1 b hb).2⟩), trivial⟩ (by simp)) ?_
                intro QQ hQ
                -- 0: t3
                refine stepK rfl (by kernel_rfl) (fun K hK => ?_); go_simp
                apply Exists.intro; apply And.intro; (focus (intro wk hk; go_simp; exact ⟨rfl, rfl⟩)); refine hK _ _ ?_; clear hK K
                -- 1: load<26> *t5
                refine stepK rfl (by kernel_rfl) (fun K hK => ?_); go_simp
                apply Exists.intro; apply And.intro; (focus exact kLoad rfl rfl aggT26 r5 rfl id); refine hK _ _ ?_; clear hK K
                -- 2: buildSlice<77> len 1 0:t60
                refine stepS _ rfl (by kernel_rfl) (fun K hK => ?_); go_simp
                refine ⟨?_, ?_⟩
                · intro wk hk hg hu; go_simp; exact left_L rfl rfl
                rintro ⟨v2, lo2, hi2⟩ hlo2 hhi2 ⟨e2, f2⟩
                replace e2 : v2 = .slice (some ⟨lo2, 0, none⟩) 1 1 := e2; replace f2 : hi2 = lo2 + 1 := f2; replace hlo2 : _ ≤ lo2 := hlo2; subst e2; subst f2
                refine hK _ _ ?_; clear hK K
                -- 3: call builtin append<77,77>(t59, t61)
                refine stepS _ rfl (by kernel_rfl) (fun K hK => ?_); go_simp
                refine ⟨?_, ?_⟩
                · intro wk hk hg hu; have uL := hu 2 (show 2 ∈ [2] by decide); have rL : Row wk lo2 26 (#[.int .i64 (k : Int), .slice qe ne ce]) := uL.2; have how := own_tr own' hk (fun b hb hc => hc); obtain ⟨vz, wz, hrun, hoz, hgz, hwz⟩ := append1 appT77 how rL rfl (by kernel_rfl) (by omega) (by have h2 := hk.size; omega); rw [run_append_op rfl rfl rfl hrun]; exact left_Pz rfl rfl hgz hoz (fun b hb => (own_lt hoz b hb).2) hwz
                rintro ⟨v3, lo3, hi3⟩ hlo3 - ⟨hG3, q3, m3, c3, rfl⟩
                refine hK _ _ ?_; clear hK K
                -- 4: assign t62
                refine stepKx [3] (fun c => vo.ownBlock = some c) rfl (by kernel_rfl) (by intro i hi b hb; simp only [List.mem_cons, List.not_mem_nil, or_false] at hi; subst hi; exact hb) (fun K hK => ?_); go_simp
                apply Exists.intro; apply And.intro; (focus (intro wk hk; go_simp; exact ⟨rfl, rfl⟩)); refine hK _ _ ?_; clear hK K
                refine stepN ?_
                refine hQ _ _ ?_
                intro w6 hT hG hF
                have hf3 : Grew vo ⟨.slice q3 m3 c3, lo3, hi3⟩ ∧ w6.ownsRow B 26 2 (.slice q3 m3 c3) (nE + 1) (evcs E ++ [.int .i64 (k : Int), .slice qe ne ce]) := hF 3 _ rfl rfl (by decide)
                have hpush : Eo w6 B (.slice q3 m3 c3) (E ++ [ev]) := own.push (lo := lo3) (hi := hi3) hT (by rw [hlen.1]; unfold evc; rw [HEv.out.1, HEv.out.2.1]; exact hf3.2) hf3.1 hlo3 hin
                have H := Lib.hid (show ReadR w w6 g q B (.slice q3 m3 c3) gn LK e3 x3 es ys (E ++ [ev]) from ⟨hpush, src.keep hT (fun hc => by have := (own_lt own.1 _ hc).1; omega) (fun b hb hc => by have := (own_lt own.1 _ hc).1; have := hqb b hb; omega), tr.trans_new hT (fun b hc hlt => by have := (own_lt own.1 b hc).1; omega),
                  ⟨_, HL.1, by rw [List.map_append]; have h9 : [ev].map Ev.key = [((k : Int), l)] := (by show [ev.key] = _; unfold Ev.key; rw [HEv.out.1, HEv.out.2.2]); rw [h9]; exact HL.2⟩, by rw [List.length_append]; show E.length + 1 + gn ≤ 1000; omega, by have := hT.size; omega⟩)
                clear hT hG hF hQ QQ L hf3 hpush own own' src tr hin r5 HL hG3 hlo3 HEv HM tr3 O hlen
                go_wp2_with fail
                go_roundg gn
                case measure => omega
                case rel => exact ⟨mo - 1, es, ys, E ++ [ev], rfl, Lib.hid (by have := HMO.out; omega), H⟩
              · obtain ⟨g2, rfl⟩ : ∃ gn, gk = gn + 1 := ⟨gk - 1, by omega⟩
                have hz : (0 : Int) < mi := by have := HMI.out; omega
                have cE := hinv.out.src.e1
                by_cases hes : es = 0
                · subst hes
                  have wm : IntKind.i64.wrap (mi - 1) = mi - 1 := by have := HMI.out; have := hinv.out.len; rw [IntKind.wrap_i64]; omega
                  go_upto_region 12 with (fail)
                  obtain ⟨a, e4, y4, hg4⟩ := tri (gA (0, ys))
                  obtain ⟨r1, own, src, tr, ⟨L', hL1, hL2⟩, hlen, hsz⟩ := hinv.out
                  clear hinv cE
                  rw [gAs_go g2 rfl, hg4] at hL1
                  simp only [Prod.mk.injEq] at hL1
                  have HL2 := Lib.hid (show gAs g2 (e4, y4) = ((gAs g2 (e4, y4)).1, e6, x6) ∧ (l ++ [a]) ++ (gAs g2 (e4, y4)).1 = La from ⟨Prod.ext rfl hL1.2, by rw [← hL2, ← hL1.1, List.append_assoc]; rfl⟩)
                  clear hL1 hL2
                  have hqb' : ∀ b, q = some b → b < wr.heap.size := fun b hb => by have := hqb b hb; omega
                  have ka := fun wk (hk : Tr None_ wr wk) => ramt_V (src.keep hk id (fun _ _ => id)) (fun b hb => Nat.lt_of_lt_of_le (hqb' b hb) hk.size) hg4
                  obtain ⟨y0, y1, y2, y3, hW⟩ : ∃ y0 y1 y2 y3 : Int, W4 a = #[.int .u64 y0, .int .u64 y1, .int .u64 y2, .int .u64 y3] := ⟨_, _, _, _, rfl⟩
                  simp only [hW] at ka
                  replace ka := Lib.hid ka
                  replace hW := Lib.hid hW
                  have hvg : ∀ b, v.ownBlock = some b → b = g → False := fun b hb hc => by have h1 := (own_lt own b hb).1; omega
                  have hB1g : ¬ B5 = g := by omega
                  have hvB1 : ¬ v.ownBlock = some B5 := fun hb => by have h1 := (own_lt own _ hb).1; omega
                  obtain ⟨i, hlen1⟩ : ∃ i, l.length = i := ⟨_, rfl⟩
                  have hil : i ≤ 1000 := by omega
                  have own' : wr.ownsRow (B5 + 1) 31 4 v i (uw l) := by rw [← hlen1]; exact own
                  let L : List Sp := [sW 3 [] [] [] g (fun b => b = g ∨ q = some b) (fun u => u = .agg #[.int .u64 y0, .int .u64 y1, .int .u64 y2, .int .u64 y3]) (fun _ w => SR w g q e4 y4), sL 4 31 [] 1 #[.int .u64 y0, .int .u64 y1, .int .u64 y2, .int .u64 y3], sPz 5 [4] [4] (B5 + 1) 31 4 v (i + 1) (uw l ++ [.int .u64 y0, .int .u64 y1, .int .u64 y2, .int .u64 y3]), sO 7 (B5) 26 [5, 4] (fun gh => #[.int .i64 (k : Int), (gh 5).v])]
                  refine wp_region_six (shs L) (look6 L) (fun c => c = g ∨ c = B5 ∨ v.ownBlock = some c) (by kernel_rfl) (by kernel_rfl) (mk_St L [3, 5, 7] [3, 5, 7] (by kernel_rfl) (by kernel_rfl) ⟨ok_W ⟨_, rfl⟩ (fun _ w w' h hT => SR.loc' w w' h hT) src.lt (.inl rfl) (fun b hb => by rcases hb with rfl | hb; exact src.lt; exact hqb' b hb), ok_L, ok_Pz (own_sl3 own) (fun b hb => ⟨.inr (.inr hb), (own_lt own b hb).2⟩), ok_O (fun g g' h => by rw [h 5 (by simp)]) r1.lt (.inr (.inl rfl)), trivial⟩ (by intro i hi j hj hne b hb hx; simp only [List.mem_cons, List.not_mem_nil, or_false] at hi hj; rcases hi with rfl | rfl | rfl <;> rcases hj with rfl | rfl | rfl <;> first | exact absurd rfl hne | (have h1 : b = g ∨ q = some b := hb; have h2 : v.ownBlock = some b := hx; have h3 := (own_lt own b h2).1; rcases h1 with h1 | h1; omega; have h4 := hqb b h1; omega) | (have h1 : b = g ∨ q = some b := hb; have h2 : b = B5 := hx; rcases h1 with h1 | h1; omega; have h4 := hqb b h1; omega) | (have h1 : v.ownBlock = some b := hb; have h2 : b = g := hx; have h3 := (own_lt own b h1).1; omega) | (have h1 : v.ownBlock = some b := hb; have h2 : b = B5 := hx; have h3 := (own_lt own b h1).1; omega) | (have h1 : b = B5 := hb; have h2 : b = g := hx; omega) | (have h1 : b = B5 := hb; have h2 : v.ownBlock = some b := hx; have h3 := (own_lt own b h2).1; omega))) ?_
                  intro QQ hQ
                  -- 0: fieldAddr<26> t5.1
                  refine stepKx [3] (fun c => c = g) rfl (by kernel_rfl) (by intro i hi b hb; simp only [List.mem_cons, List.not_mem_nil, or_false] at hi; subst hi; exact hb) (fun K hK => ?_); go_simp
                  apply Exists.intro; apply And.intro; (focus (intro wk hk; go_simp; exact ⟨rfl, rfl⟩)); refine hK _ _ ?_; clear hK K
                  -- 1: load<23> *t52
                  refine stepKx [3] (fun c => c = g) rfl (by kernel_rfl) (by intro i hi b hb; simp only [List.mem_cons, List.not_mem_nil, or_false] at hi; subst hi; exact hb) (fun K hK => ?_); go_simp
                  apply Exists.intro; apply And.intro; (focus (intro wk hk; have cc : wk.cell? ⟨B5, 1, none⟩ = some v := (K6.Row.tr r1 hk.undrew (by intro hc; exact hB1g hc)).cell 1; go_simp; exact ⟨rfl, rfl⟩)); refine hK _ _ ?_; clear hK K
                  -- 2: t0
                  refine stepK rfl (by kernel_rfl) (fun K hK => ?_); go_simp
                  apply Exists.intro; apply And.intro; (focus (intro wk hk; go_simp; exact ⟨rfl, rfl⟩)); refine hK _ _ ?_; clear hK K
                  -- 3: call F179(t54)
                  refine stepS _ rfl (by kernel_rfl) (fun K hK => ?_); go_simp
                  refine ⟨?_, ?_⟩
                  · intro wk hk hg hu; go_simp; refine upon_enter ((ka.out _ hk.undrew).mono ?_); rintro e w' ⟨rfl, hf, ht⟩; exact ⟨_, rfl, left_W (p := fun u => u = .agg #[.int .u64 y0, .int .u64 y1, .int .u64 y2, .int .u64 y3]) (f := fun _ w => SR w g q e4 y4) rfl rfl rfl ht hf⟩
                  rintro ⟨v3, lo3, hi3⟩ - - (rfl : v3 = _)
                  refine hK _ _ ?_; clear hK K
                  -- 4: buildSlice<23> len 1 0:t55
                  refine stepSz _ rfl (fun K hK => ?_); go_simp
                  refine ⟨?_, ?_⟩
                  · intro wk hk hg hu; go_simp; exact left_L rfl rfl
                  rintro ⟨v4, lo4, hi4⟩ hlo4 hhi4 ⟨e4, f4⟩
                  replace e4 : v4 = .slice (some ⟨lo4, 0, none⟩) 1 1 := e4; replace f4 : hi4 = lo4 + 1 := f4; replace hlo4 : _ ≤ lo4 := hlo4; subst e4; subst f4
                  refine hK _ _ ?_; clear hK K
                  -- 5: call builtin append<23,23>(t53, t56)
                  refine stepSx _ [3] (fun c => c = g) rfl (by kernel_rfl) (by intro i hi b hb; simp only [List.mem_cons, List.not_mem_nil, or_false] at hi; subst hi; exact hb) (fun K hK => ?_); go_simp
                  refine ⟨?_, ?_⟩
                  · intro wk hk hg hu; have uL := hu 4 (show 4 ∈ [4] by decide); have rL : Row wk lo4 31 (#[.int .u64 y0, .int .u64 y1, .int .u64 y2, .int .u64 y3]) := uL.2; have how := own_tr own' hk.undrew (fun b hb hc => hvg b hb hc); obtain ⟨vz, wz, hrun, hoz, hgz, hwz⟩ := append1 appT23 how rL rfl (by kernel_rfl) (by omega) (by have h2 := hk.undrew.size; omega); rw [run_append_op rfl rfl rfl hrun]; exact left_Pz rfl rfl hgz hoz (fun b hb => (own_lt hoz b hb).2) hwz
                  rintro ⟨v5, lo5, hi5⟩ - - ⟨hG5, q5, m5, c5, rfl⟩
                  refine hK _ _ ?_; clear hK K
                  -- 6: fieldAddr<26> t5.1
                  refine stepKx [3, 5] (fun c => c = g ∨ v.ownBlock = some c) rfl (by kernel_rfl) (by intro i hi b hb; simp only [List.mem_cons, List.not_mem_nil, or_false] at hi; rcases hi with rfl | rfl <;> first | exact Or.inl hb | exact Or.inr hb | exact Or.inr (Or.inl hb) | exact Or.inr (Or.inr hb) | exact Or.inr (Or.inr (Or.inl hb)) | exact Or.inr (Or.inr (Or.inr hb))) (fun K hK => ?_); go_simp
                  apply Exists.intro; apply And.intro; (focus (intro wk hk; go_simp; exact ⟨rfl, rfl⟩)); refine hK _ _ ?_; clear hK K
                  -- 7: store<23> *t58 = t57
                  refine stepSx _ [3, 5] (fun c => c = g ∨ v.ownBlock = some c) rfl (by kernel_rfl) (by intro i hi b hb; simp only [List.mem_cons, List.not_mem_nil, or_false] at hi; rcases hi with rfl | rfl <;> first | exact Or.inl hb | exact Or.inr hb | exact Or.inr (Or.inl hb) | exact Or.inr (Or.inr hb) | exact Or.inr (Or.inr (Or.inl hb)) | exact Or.inr (Or.inr (Or.inr hb))) (fun K hK => ?_); go_simp
                  refine ⟨?_, ?_⟩
                  · intro wk hk hg hu; have rk := K6.Row.tr r1 hk.undrew (by intro hc; rcases hc with hc | hc; exact hB1g hc; exact hvB1 hc); have cc := rk.cell 1; have ff := rk.frozen 1; go_simp; exact left_O (l := L) (s := (sO 7 (B5) 26 [5, 4] (fun gh => #[.int .i64 (k : Int), (gh 5).v])).1) rfl rfl (by decide) (fun g g' h => by rw [h 5 (by simp)]) (fun c hc => Below.heap_setCell _ _ _ _ hc) rfl rfl rfl (by simp) (Row.congr (rk.set 1 _) rfl)
                  rintro ⟨v7, lo7, hi7⟩ - - (rfl : v7 = undef)
                  refine hK _ _ ?_; clear hK K
                  refine stepN ?_
                  refine hQ _ _ ?_
                  intro w9 hT hG hF
                  have hT9 := hT.undrew
                  have src9 : SR w9 g q e4 y4 := hF 3 _ rfl rfl (by decide)
                  have hf5 : Grew v ⟨.slice q5 m5 c5, lo5, hi5⟩ ∧ w9.ownsRow (B5 + 1) 31 4 (.slice q5 m5 c5) (i + 1) (uw l ++ [.int .u64 y0, .int .u64 y1, .int .u64 y2, .int .u64 y3]) := hF 5 _ rfl rfl (by decide)
                  have r1' : Row w9 B5 26 #[.int .i64 (k : Int), .slice q5 m5 c5] := hF 7 _ rfl rfl (by decide)
                  have H := Lib.hid (show OneR w3 w9 g q B5 (k : Int) (.slice q5 m5 c5) g2 La e6 x6 e4 y4 (l ++ [a]) from ⟨r1',
                    by unfold Oe; rw [List.length_append, uw_snoc, hW.out, hlen1]; exact hf5.2, src9, tr.trans_new hT9 (by intro b hc hlt; rcases hc with hc | hc | hc; exact hc; omega; have := (own_lt own _ hc).1; omega), ⟨_, HL2.out.1, HL2.out.2⟩, by rw [List.length_append]; show l.length + 1 + g2 ≤ 100; omega, by have := hT9.size; omega⟩)
                  clear hT hT9 hG hF hQ QQ L hf5 r1' src9 src own own' tr r1 ka HL2 hG5 hvg
                  go_wp2_with fail
                  go_roundg g2
                  case measure => omega
                  case rel => exact ⟨mi - 1, .slice q5 m5 c5, e4, y4, l ++ [a], rfl, Lib.hid (by have := HMI.out; omega), H⟩
                · have hq : (es == 0) = false := by rw [beq_eq_false_iff_ne]; exact hes
                  clear HMI
                  go_upto_region 13 with (fail)
                  have hI := hinv.out
                  clear hinv hz cE hq
                  obtain ⟨rfl, rfl, rfl⟩ := hI.stop (.inl hes)
                  obtain ⟨r5, owne, src, tr3, -, -, hsz5⟩ := hI
                  obtain ⟨ne, hne⟩ : ∃ ne, l.length = ne := ⟨_, rfl⟩
                  obtain ⟨qe, ce, hve⟩ := own_sl owne
                  rw [hne] at hve
                  subst hve
                  obtain ⟨own, tr, hlen, HM, HL⟩ := O.out
                  obtain ⟨ev, hek, hev, hel, hin⟩ := owne.ev (base := B) (v := vo) (k := (k : Int)) HM.1 ⟨by have := HM.2; omega, by have := HM.2; omega⟩ (by omega) (fun b hb => by have := (own_lt own.1 b hb).2; omega)
                  replace own := own.keep tr3 (fun b hb hc => by have hc' : b = g := hc; omega)
                  have HEv := Lib.hid (show _ ∧ _ ∧ _ from ⟨hek, hev, hel⟩)
                  have own' : wr.ownsRow B 26 2 vo nE (evcs E) := by rw [← hlen.1]; exact own.1
                  have hil : nE ≤ 1000 := by omega
                  replace tr := tr.trans tr3
                  clear owne hek hev hel hne
                  let L : List Sp := [sL 2 26 [] 1 #[.int .i64 (k : Int), .slice qe ne ce], sPz 3 [2] [2] (B) 26 2 vo (nE + 1) (evcs E ++ [.int .i64 (k : Int), .slice qe ne ce])]
                  refine wp_region_six0 (shs L) (look6 L) (fun c => vo.ownBlock = some c) (by kernel_rfl) (by kernel_rfl) (mk_St L [3] [3] (by kernel_rfl) (by kernel_rfl) ⟨ok_L, ok_Pz (own_sl3 own') (fun b hb => ⟨hb, (own_lt own.1 b hb).2⟩), trivial⟩ (by simp)) ?_
                  intro QQ hQ
                  -- 0: t3
                  refine stepK rfl (by kernel_rfl) (fun K hK => ?_); go_simp
                  apply Exists.intro; apply And.intro; (focus (intro wk hk; go_simp; exact ⟨rfl, rfl⟩)); refine hK _ _ ?_; clear hK K
                  -- 1: load<26> *t5
                  refine stepK rfl (by kernel_rfl) (fun K hK => ?_); go_simp
                  apply Exists.intro; apply And.intro; (focus exact kLoad rfl rfl aggT26 r5 rfl id); refine hK _ _ ?_; clear hK K
                  -- 2: buildSlice<77> len 1 0:t60
                  refine stepS _ rfl (by kernel_rfl) (fun K hK => ?_); go_simp
                  refine ⟨?_, ?_⟩
                  · intro wk hk hg hu; go_simp; exact left_L rfl rfl
                  rintro ⟨v2, lo2, hi2⟩ hlo2 hhi2 ⟨e2, f2⟩
                  replace e2 : v2 = .slice (some ⟨lo2, 0, none⟩) 1 1 := e2; replace f2 : hi2 = lo2 + 1 := f2; replace hlo2 : _ ≤ lo2 := hlo2; subst e2; subst f2
                  refine hK _ _ ?_; clear hK K
                  -- 3: call builtin append<77,77>(t59, t61)
                  refine stepS _ rfl (by kernel_rfl) (fun K hK => ?_); go_simp
                  refine ⟨?_, ?_⟩
                  · intro wk hk hg hu; have uL := hu 2 (show 2 ∈ [2] by decide); have rL : Row wk lo2 26 (#[.int .i64 (k : Int), .slice qe ne ce]) := uL.2; have how := own_tr own' hk (fun b hb hc => hc); obtain ⟨vz, wz, hrun, hoz, hgz, hwz⟩ := append1 appT77 how rL rfl (by kernel_rfl) (by omega) (by have h2 := hk.size; omega); rw [run_append_op rfl rfl rfl hrun]; exact left_Pz rfl rfl hgz hoz (fun b hb => (own_lt hoz b hb).2) hwz
                  rintro ⟨v3, lo3, hi3⟩ hlo3 - ⟨hG3, q3, m3, c3, rfl⟩
                  refine hK _ _ ?_; clear hK K
                  -- 4: assign t62
                  refine stepKx [3] (fun c => vo.ownBlock = some c) rfl (by kernel_rfl) (by intro i hi b hb; simp only [List.mem_cons, List.not_mem_nil, or_false] at hi; subst hi; exact hb) (fun K hK => ?_); go_simp
                  apply Exists.intro; apply And.intro; (focus (intro wk hk; go_simp; exact ⟨rfl, rfl⟩)); refine hK _ _ ?_; clear hK K
                  refine stepN ?_
                  refine hQ _ _ ?_
                  intro w6 hT hG hF
                  have hf3 : Grew vo ⟨.slice q3 m3 c3, lo3, hi3⟩ ∧ w6.ownsRow B 26 2 (.slice q3 m3 c3) (nE + 1) (evcs E ++ [.int .i64 (k : Int), .slice qe ne ce]) := hF 3 _ rfl rfl (by decide)
                  have hpush : Eo w6 B (.slice q3 m3 c3) (E ++ [ev]) := own.push (lo := lo3) (hi := hi3) hT (by rw [hlen.1]; unfold evc; rw [HEv.out.1, HEv.out.2.1]; exact hf3.2) hf3.1 hlo3 hin
                  have H := Lib.hid (show ReadR w w6 g q B (.slice q3 m3 c3) gn LK e3 x3 es ys (E ++ [ev]) from ⟨hpush, src.keep hT (fun hc => by have := (own_lt own.1 _ hc).1; omega) (fun b hb hc => by have := (own_lt own.1 _ hc).1; have := hqb b hb; omega), tr.trans_new hT (fun b hc hlt => by have := (own_lt own.1 b hc).1; omega),
                    ⟨_, HL.1, by rw [List.map_append]; have h9 : [ev].map Ev.key = [((k : Int), l)] := (by show [ev.key] = _; unfold Ev.key; rw [HEv.out.1, HEv.out.2.2]); rw [h9]; exact HL.2⟩, by rw [List.length_append]; show E.length + 1 + gn ≤ 1000; omega, by have := hT.size; omega⟩)
                  clear hT hG hF hQ QQ L hf3 hpush own own' src tr hin r5 HL hG3 hlo3 HEv HM tr3 O hlen
                  go_wp2_with fail
                  go_roundg gn
                  case measure => omega
                  case rel => exact ⟨mo - 1, es, ys, E ++ [ev], rfl, Lib.hid (by have := HMO.out; omega), H⟩
          · have hq : (e1 == 0) = false := by rw [beq_eq_false_iff_ne]; exact he1
            clear hC
            go_upto_region 9 with (fail)
            clear k0 k1 hq r5
            go_wp2_with fail
            refine (kv2.out _ HS.out.1).mono ?_
            rintro r w7 ⟨rfl, hs, ht⟩
            have H7 : OneR w3 w7 g q B5 (k : Int) (.slice none 0 0) n La e6 x6 e2 x2 [] := ⟨K6.Row.tr HS.out.2.2 ht (by omega), Oe.nil _ _, hs, HS.out.2.1.trans ht, ⟨La, hg3.out, rfl⟩, (by show 0 + n ≤ 100; omega), (K6.Row.tr HS.out.2.2 ht (by omega)).lt⟩
            replace H7 := Lib.hid H7
            clear HS hs ht kv2 hg3
            go_wp2_with fail
            go_loopg [6] n (fun gg s6 wr => ∃ (mi : Int) (v : Value) (es : Int) (ys : List Int) (l : List Nat), s6 = .int .i64 mi ∧ Hid (mi = (gg : Int)) ∧ Hid (OneR w3 wr g q B5 (k : Int) v gg La e6 x6 es ys l))
            case atStart => exact ⟨(n : Int), .slice none 0 0, e2, x2, [], rfl, Lib.hid rfl, H7⟩
            case round =>
              clear H7
              obtain ⟨mi, v, es, ys, l, rfl, HMI, hinv⟩ := hrel
              by_cases hg0 : gk = 0
              · subst hg0
                have hz : ¬ (0 : Int) < mi := by have := HMI.out; omega
                clear HMI
                go_upto_region 13 with (fail)
                have hI := hinv.out
                clear hinv hz
                obtain ⟨rfl, rfl, rfl⟩ := hI.stop (.inr rfl)
                obtain ⟨r5, owne, src, tr3, -, -, hsz5⟩ := hI
                obtain ⟨ne, hne⟩ : ∃ ne, l.length = ne := ⟨_, rfl⟩
                obtain ⟨qe, ce, hve⟩ := own_sl owne
                rw [hne] at hve
                subst hve
                obtain ⟨own, tr, hlen, HM, HL⟩ := O.out
                obtain ⟨ev, hek, hev, hel, hin⟩ := owne.ev (base := B) (v := vo) (k := (k : Int)) HM.1 ⟨by have := HM.2; omega, by have := HM.2; omega⟩ (by omega) (fun b hb => by have := (own_lt own.1 b hb).2; omega)
                replace own := own.keep tr3 (fun b hb hc => by have hc' : b = g := hc; omega)
                have HEv := Lib.hid (show _ ∧ _ ∧ _ from ⟨hek, hev, hel⟩)
                have own' : wr.ownsRow B 26 2 vo nE (evcs E) := by rw [← hlen.1]; exact own.1
                have hil : nE ≤ 1000 := by omega
                replace tr := tr.trans tr3
                clear owne hek hev hel hne
                let L : List Sp := [sL 2 26 [] 1 #[.int .i64 (k : Int), .slice qe ne ce], sPz 3 [2] [2] (B) 26 2 vo (nE + 1) (evcs E ++ [.int .i64 (k : Int), .slice qe ne ce])]
                refine wp_region_six0 (shs L) (look6 L) (fun c => vo.ownBlock = some c) (by kernel_rfl) (by kernel_rfl) (mk_St L [3] [3] (by kernel_rfl) (by kernel_rfl) ⟨ok_L, ok_Pz (own_sl3 own') (fun b hb => ⟨hb, (own_lt own.1 b hb).2⟩), trivial⟩ (by simp)) ?_
                intro QQ hQ
                -- 0: t3
                refine stepK rfl (by kernel_rfl) (fun K hK => ?_); go_simp
                apply Exists.intro; apply And.intro; (focus (intro wk hk; go_simp; exact ⟨rfl, rfl⟩)); refine hK _ _ ?_; clear hK K
                -- 1: load<26> *t5
                refine stepK rfl (by kernel_rfl) (fun K hK => ?_); go_simp
                apply Exists.intro; apply And.intro; (focus exact kLoad rfl rfl aggT26 r5 rfl id); refine hK _ _ ?_; clear hK K
                -- 2: buildSlice<77> len 1 0:t60
                refine stepS _ rfl (by kernel_rfl) (fun K hK => ?_); go_simp
                refine ⟨?_, ?_⟩
                · intro wk hk hg hu; go_simp; exact left_L rfl rfl
                rintro ⟨v2, lo2, hi2⟩ hlo2 hhi2 ⟨e2, f2⟩
                replace e2 : v2 = .slice (some ⟨lo2, 0, none⟩) 1 1 := e2; replace f2 : hi2 = lo2 + 1 := f2; replace hlo2 : _ ≤ lo2 := hlo2; subst e2; subst f2
                refine hK _ _ ?_; clear hK K
                -- 3: call builtin append<77,77>(t59, t61)
                refine stepS _ rfl (by kernel_rfl) (fun K hK => ?_); go_simp
                refine ⟨?_, ?_⟩
                · intro wk hk hg hu; have uL := hu 2 (show 2 ∈ [2] by decide); have rL : Row wk lo2 26 (#[.int .i64 (k : Int), .slice qe ne ce]) := uL.2; have how := own_tr own' hk (fun b hb hc => hc); obtain ⟨vz, wz, hrun, hoz, hgz, hwz⟩ := append1 appT77 how rL rfl (by kernel_rfl) (by omega) (by have h2 := hk.size; omega); rw [run_append_op rfl rfl rfl hrun]; exact left_Pz rfl rfl hgz hoz (fun b hb => (own_lt hoz b hb).2) hwz
                rintro ⟨v3, lo3, hi3⟩ hlo3 - ⟨hG3, q3, m3, c3, rfl⟩
                refine hK _ _ ?_; clear hK K
                -- 4: assign t62
                refine stepKx [3] (fun c => vo.ownBlock = some c) rfl (by kernel_rfl) (by intro i hi b hb; simp only [List.mem_cons, List.not_mem_nil, or_false] at hi; subst hi; exact hb) (fun K hK => ?_); go_simp
                apply Exists.intro; apply And.intro; (focus (intro wk hk; go_simp; exact ⟨rfl, rfl⟩)); refine hK _ _ ?_; clear hK K
                refine stepN ?_
                refine hQ _ _ ?_
                intro w6 hT hG hF
                have hf3 : Grew vo ⟨.slice q3 m3 c3, lo3, hi3⟩ ∧ w6.ownsRow B 26 2 (.slice q3 m3 c3) (nE + 1) (evcs E ++ [.int .i64 (k : Int), .slice qe ne ce]) := hF 3 _ rfl rfl (by decide)
                have hpush : Eo w6 B (.slice q3 m3 c3) (E ++ [ev]) := own.push (lo := lo3) (hi := hi3) hT (by rw [hlen.1]; unfold evc; rw [HEv.out.1, HEv.out.2.1]; exact hf3.2) hf3.1 hlo3 hin
                have H := Lib.hid (show ReadR w w6 g q B (.slice q3 m3 c3) gn LK e3 x3 es ys (E ++ [ev]) from ⟨hpush, src.keep hT (fun hc => by have := (own_lt own.1 _ hc).1; omega) (fun b hb hc => by have := (own_lt own.1 _ hc).1; have := hqb b hb; omega), tr.trans_new hT (fun b hc hlt => by have := (own_lt own.1 b hc).1; omega),
                  ⟨_, HL.1, by rw [List.map_append]; have h9 : [ev].map Ev.key = [((k : Int), l)] := (by show [ev.key] = _; unfold Ev.key; rw [HEv.out.1, HEv.out.2.2]); rw [h9]; exact HL.2⟩, by rw [List.length_append]; show E.length + 1 + gn ≤ 1000; omega, by have := hT.size; omega⟩)
                clear hT hG hF hQ QQ L hf3 hpush own own' src tr hin r5 HL hG3 hlo3 HEv HM tr3 O hlen
                go_wp2_with fail
                go_roundg gn
                case measure => omega
                case rel => exact ⟨mo - 1, es, ys, E ++ [ev], rfl, Lib.hid (by have := HMO.out; omega), H⟩
              · obtain ⟨g2, rfl⟩ : ∃ gn, gk = gn + 1 := ⟨gk - 1, by omega⟩
                have hz : (0 : Int) < mi := by have := HMI.out; omega
                have cE := hinv.out.src.e1
                by_cases hes : es = 0
                · subst hes
                  have wm : IntKind.i64.wrap (mi - 1) = mi - 1 := by have := HMI.out; have := hinv.out.len; rw [IntKind.wrap_i64]; omega
                  go_upto_region 12 with (fail)
                  obtain ⟨a, e4, y4, hg4⟩ := tri (gA (0, ys))
                  obtain ⟨r1, own, src, tr, ⟨L', hL1, hL2⟩, hlen, hsz⟩ := hinv.out
                  clear hinv cE
                  rw [gAs_go g2 rfl, hg4] at hL1
                  simp only [Prod.mk.injEq] at hL1
                  have HL2 := Lib.hid (show gAs g2 (e4, y4) = ((gAs g2 (e4, y4)).1, e6, x6) ∧ (l ++ [a]) ++ (gAs g2 (e4, y4)).1 = La from ⟨Prod.ext rfl hL1.2, by rw [← hL2, ← hL1.1, List.append_assoc]; rfl⟩)
                  clear hL1 hL2
                  have hqb' : ∀ b, q = some b → b < wr.heap.size := fun b hb => by have := hqb b hb; omega
                  have ka := fun wk (hk : Tr None_ wr wk) => ramt_V (src.keep hk id (fun _ _ => id)) (fun b hb => Nat.lt_of_lt_of_le (hqb' b hb) hk.size) hg4
                  obtain ⟨y0, y1, y2, y3, hW⟩ : ∃ y0 y1 y2 y3 : Int, W4 a = #[.int .u64 y0, .int .u64 y1, .int .u64 y2, .int .u64 y3] := ⟨_, _, _, _, rfl⟩
                  simp only [hW] at ka
                  replace ka := Lib.hid ka
                  replace hW := Lib.hid hW
                  have hvg : ∀ b, v.ownBlock = some b → b = g → False := fun b hb hc => by have h1 := (own_lt own b hb).1; omega
                  have hB1g : ¬ B5 = g := by omega
                  have hvB1 : ¬ v.ownBlock = some B5 := fun hb => by have h1 := (own_lt own _ hb).1; omega
                  obtain ⟨i, hlen1⟩ : ∃ i, l.length = i := ⟨_, rfl⟩
                  have hil : i ≤ 1000 := by omega
                  have own' : wr.ownsRow (B5 + 1) 31 4 v i (uw l) := by rw [← hlen1]; exact own
                  let L : List Sp := [sW 3 [] [] [] g (fun b => b = g ∨ q = some b) (fun u => u = .agg #[.int .u64 y0, .int .u64 y1, .int .u64 y2, .int .u64 y3]) (fun _ w => SR w g q e4 y4), sL 4 31 [] 1 #[.int .u64 y0, .int .u64 y1, .int .u64 y2, .int .u64 y3], sPz 5 [4] [4] (B5 + 1) 31 4 v (i + 1) (uw l ++ [.int .u64 y0, .int .u64 y1, .int .u64 y2, .int .u64 y3]), sO 7 (B5) 26 [5, 4] (fun gh => #[.int .i64 (k : Int), (gh 5).v])]
                  refine wp_region_six (shs L) (look6 L) (fun c => c = g ∨ c = B5 ∨ v.ownBlock = some c) (by kernel_rfl) (by kernel_rfl) (mk_St L [3, 5, 7] [3, 5, 7] (by kernel_rfl) (by kernel_rfl) ⟨ok_W ⟨_, rfl⟩ (fun _ w w' h hT => SR.loc' w w' h hT) src.lt (.inl rfl) (fun b hb => by rcases hb with rfl | hb; exact src.lt; exact hqb' b hb), ok_L, ok_Pz (own_sl3 own) (fun b hb => ⟨.inr (.inr hb), (own_lt own b hb).2⟩), ok_O (fun g g' h => by rw [h 5 (by simp)]) r1.lt (.inr (.inl rfl)), trivial⟩ (by intro i hi j hj hne b hb hx; simp only [List.mem_cons, List.not_mem_nil, or_false] at hi hj; rcases hi with rfl | rfl | rfl <;> rcases hj with rfl | rfl | rfl <;> first | exact absurd rfl hne | (have h1 : b = g ∨ q = some b := hb; have h2 : v.ownBlock = some b := hx; have h3 := (own_lt own b h2).1; rcases h1 with h1 | h1; omega; have h4 := hqb b h1; omega) | (have h1 : b = g ∨ q = some b := hb; have h2 : b = B5 := hx; rcases h1 with h1 | h1; omega; have h4 := hqb b h1; omega) | (have h1 : v.ownBlock = some b := hb; have h2 : b = g := hx; have h3 := (own_lt own b h1).1; omega) | (have h1 : v.ownBlock = some b := hb; have h2 : b = B5 := hx; have h3 := (own_lt own b h1).1; omega) | (have h1 : b = B5 := hb; have h2 : b = g := hx; omega) | (have h1 : b = B5 := hb; have h2 : v.ownBlock = some b := hx; have h3 := (own_lt own b h2).1; omega))) ?_
                  intro QQ hQ
                  -- 0: fieldAddr<26> t5.1
                  refine stepKx [3] (fun c => c = g) rfl (by kernel_rfl) (by intro i hi b hb; simp only [List.mem_cons, List.not_mem_nil, or_false] at hi; subst hi; exact hb) (fun K hK => ?_); go_simp
                  apply Exists.intro; apply And.intro; (focus (intro wk hk; go_simp; exact ⟨rfl, rfl⟩)); refine hK _ _ ?_; clear hK K
                  -- 1: load<23> *t52
                  refine stepKx [3] (fun c => c = g) rfl (by kernel_rfl) (by intro i hi b hb; simp only [List.mem_cons, List.not_mem_nil, or_false] at hi; subst hi; exact hb) (fun K hK => ?_); go_simp
                  apply Exists.intro; apply And.intro; (focus (intro wk hk; have cc : wk.cell? ⟨B5, 1, none⟩ = some v := (K6.Row.tr r1 hk.undrew (by intro hc; exact hB1g hc)).cell 1; go_simp; exact ⟨rfl, rfl⟩)); refine hK _ _ ?_; clear hK K
                  -- 2: t0
                  refine stepK rfl (by kernel_rfl) (fun K hK => ?_); go_simp
                  apply Exists.intro; apply And.intro; (focus (intro wk hk; go_simp; exact ⟨rfl, rfl⟩)); refine hK _ _ ?_; clear hK K
                  -- 3: call F179(t54)
                  refine stepS _ rfl (by kernel_rfl) (fun K hK => ?_); go_simp
                  refine ⟨?_, ?_⟩
                  · intro wk hk hg hu; go_simp; refine upon_enter ((ka.out _ hk.undrew).mono ?_); rintro e w' ⟨rfl, hf, ht⟩; exact ⟨_, rfl, left_W (p := fun u => u = .agg #[.int .u64 y0, .int .u64 y1, .int .u64 y2, .int .u64 y3]) (f := fun _ w => SR w g q e4 y4) rfl rfl rfl ht hf⟩
                  rintro ⟨v3, lo3, hi3⟩ - - (rfl : v3 = _)
                  refine hK _ _ ?_; clear hK K
                  -- 4: buildSlice<23> len 1 0:t55
                  refine stepSz _ rfl (fun K hK => ?_); go_simp
                  refine ⟨?_, ?_⟩
                  · intro wk hk hg hu; go_simp; exact left_L rfl rfl
                  rintro ⟨v4, lo4, hi4⟩ hlo4 hhi4 ⟨e4, f4⟩
                  replace e4 : v4 = .slice (some ⟨lo4, 0, none⟩) 1 1 := e4; replace f4 : hi4 = lo4 + 1 := f4; replace hlo4 : _ ≤ lo4 := hlo4; subst e4; subst f4
                  refine hK _ _ ?_; clear hK K
                  -- 5: call builtin append<23,23>(t53, t56)
                  refine stepSx _ [3] (fun c => c = g) rfl (by kernel_rfl) (by intro i hi b hb; simp only [List.mem_cons, List.not_mem_nil, or_false] at hi; subst hi; exact hb) (fun K hK => ?_); go_simp
                  refine ⟨?_, ?_⟩
                  · intro wk hk hg hu; have uL := hu 4 (show 4 ∈ [4] by decide); have rL : Row wk lo4 31 (#[.int .u64 y0, .int .u64 y1, .int .u64 y2, .int .u64 y3]) := uL.2; have how := own_tr own' hk.undrew (fun b hb hc => hvg b hb hc); obtain ⟨vz, wz, hrun, hoz, hgz, hwz⟩ := append1 appT23 how rL rfl (by kernel_rfl) (by omega) (by have h2 := hk.undrew.size; omega); rw [run_append_op rfl rfl rfl hrun]; exact left_Pz rfl rfl hgz hoz (fun b hb => (own_lt hoz b hb).2) hwz
                  rintro ⟨v5, lo5, hi5⟩ - - ⟨hG5, q5, m5, c5, rfl⟩
                  refine hK _ _ ?_; clear hK K
                  -- 6: fieldAddr<26> t5.1
                  refine stepKx [3, 5] (fun c => c = g ∨ v.ownBlock = some c) rfl (by kernel_rfl) (by intro i hi b hb; simp only [List.mem_cons, List.not_mem_nil, or_false] at hi; rcases hi with rfl | rfl <;> first | exact Or.inl hb | exact Or.inr hb | exact Or.inr (Or.inl hb) | exact Or.inr (Or.inr hb) | exact Or.inr (Or.inr (Or.inl hb)) | exact Or.inr (Or.inr (Or.inr hb))) (fun K hK => ?_); go_simp
                  apply Exists.intro; apply And.intro; (focus (intro wk hk; go_simp; exact ⟨rfl, rfl⟩)); refine hK _ _ ?_; clear hK K
                  -- 7: store<23> *t58 = t57
                  refine stepSx _ [3, 5] (fun c => c = g ∨ v.ownBlock = some c) rfl (by kernel_rfl) (by intro i hi b hb; simp only [List.mem_cons, List.not_mem_nil, or_false] at hi; rcases hi with rfl | rfl <;> first | exact Or.inl hb | exact Or.inr hb | exact Or.inr (Or.inl hb) | exact Or.inr (Or.inr hb) | exact Or.inr (Or.inr (Or.inl hb)) | exact Or.inr (Or.inr (Or.inr hb))) (fun K hK => ?_); go_simp
                  refine ⟨?_, ?_⟩
                  · intro wk hk hg hu; have rk := K6.Row.tr r1 hk.undrew (by intro hc; rcases hc with hc | hc; exact hB1g hc; exact hvB1 hc); have cc := rk.cell 1; have ff := rk.frozen 1; go_simp; exact left_O (l := L) (s := (sO 7 (B5) 26 [5, 4] (fun gh => #[.int .i64 (k : Int), (gh 5).v])).1) rfl rfl (by decide) (fun g g' h => by rw [h 5 (by simp)]) (fun c hc => Below.heap_setCell _ _ _ _ hc) rfl rfl rfl (by simp) (Row.congr (rk.set 1 _) rfl)
                  rintro ⟨v7, lo7, hi7⟩ - - (rfl : v7 = undef)
                  refine hK _ _ ?_; clear hK K
                  refine stepN ?_
                  refine hQ _ _ ?_
                  intro w9 hT hG hF
                  have hT9 := hT.undrew
                  have src9 : SR w9 g q e4 y4 := hF 3 _ rfl rfl (by decide)
                  have hf5 : Grew v ⟨.slice q5 m5 c5, lo5, hi5⟩ ∧ w9.ownsRow (B5 + 1) 31 4 (.slice q5 m5 c5) (i + 1) (uw l ++ [.int .u64 y0, .int .u64 y1, .int .u64 y2, .int .u64 y3]) := hF 5 _ rfl rfl (by decide)
                  have r1' : Row w9 B5 26 #[.int .i64 (k : Int), .slice q5 m5 c5] := hF 7 _ rfl rfl (by decide)
                  have H := Lib.hid (show OneR w3 w9 g q B5 (k : Int) (.slice q5 m5 c5) g2 La e6 x6 e4 y4 (l ++ [a]) from ⟨r1',
                    by unfold Oe; rw [List.length_append, uw_snoc, hW.out, hlen1]; exact hf5.2, src9, tr.trans_new hT9 (by intro b hc hlt; rcases hc with hc | hc | hc; exact hc; omega; have := (own_lt own _ hc).1; omega), ⟨_, HL2.out.1, HL2.out.2⟩, by rw [List.length_append]; show l.length + 1 + g2 ≤ 100; omega, by have := hT9.size; omega⟩)
                  clear hT hT9 hG hF hQ QQ L hf5 r1' src9 src own own' tr r1 ka HL2 hG5 hvg
                  go_wp2_with fail
                  go_roundg g2
                  case measure => omega
                  case rel => exact ⟨mi - 1, .slice q5 m5 c5, e4, y4, l ++ [a], rfl, Lib.hid (by have := HMI.out; omega), H⟩
                · have hq : (es == 0) = false := by rw [beq_eq_false_iff_ne]; exact hes
                  clear HMI
                  go_upto_region 13 with (fail)
                  have hI := hinv.out
                  clear hinv hz cE hq
                  obtain ⟨rfl, rfl, rfl⟩ := hI.stop (.inl hes)
                  obtain ⟨r5, owne, src, tr3, -, -, hsz5⟩ := hI
                  obtain ⟨ne, hne⟩ : ∃ ne, l.length = ne := ⟨_, rfl⟩
                  obtain ⟨qe, ce, hve⟩ := own_sl owne
                  rw [hne] at hve
                  subst hve
                  obtain ⟨own, tr, hlen, HM, HL⟩ := O.out
                  obtain ⟨ev, hek, hev, hel, hin⟩ := owne.ev (base := B) (v := vo) (k := (k : Int)) HM.1 ⟨by have := HM.2; omega, by have := HM.2; omega⟩ (by omega) (fun b hb => by have := (own_lt own.1 b hb).2; omega)
                  replace own := own.keep tr3 (fun b hb hc => by have hc' : b = g := hc; omega)
                  have HEv := Lib.hid (show _ ∧ _ ∧ _ from ⟨hek, hev, hel⟩)
                  have own' : wr.ownsRow B 26 2 vo nE (evcs E) := by rw [← hlen.1]; exact own.1
                  have hil : nE ≤ 1000 := by omega
                  replace tr := tr.trans tr3
                  clear owne hek hev hel hne
                  let L : List Sp := [sL 2 26 [] 1 #[.int .i64 (k : Int), .slice qe ne ce], sPz 3 [2] [2] (B) 26 2 vo (nE + 1) (evcs E ++ [.int .i64 (k : Int), .slice qe ne ce])]
                  refine wp_region_six0 (shs L) (look6 L) (fun c => vo.ownBlock = some c) (by kernel_rfl) (by kernel_rfl) (mk_St L [3] [3] (by kernel_rfl) (by kernel_rfl) ⟨ok_L, ok_Pz (own_sl3 own') (fun b hb => ⟨hb, (own_lt own.1 b hb).2⟩), trivial⟩ (by simp)) ?_
                  intro QQ hQ
                  -- 0: t3
                  refine stepK rfl (by kernel_rfl) (fun K hK => ?_); go_simp
                  apply Exists.intro; apply And.intro; (focus (intro wk hk; go_simp; exact ⟨rfl, rfl⟩)); refine hK _ _ ?_; clear hK K
                  -- 1: load<26> *t5
                  refine stepK rfl (by kernel_rfl) (fun K hK => ?_); go_simp
                  apply Exists.intro; apply And.intro; (focus exact kLoad rfl rfl aggT26 r5 rfl id); refine hK _ _ ?_; clear hK K
                  -- 2: buildSlice<77> len 1 0:t60
                  refine stepS _ rfl (by kernel_rfl) (fun K hK => ?_); go_simp
                  refine ⟨?_, ?_⟩
                  · intro wk hk hg hu; go_simp; exact left_L rfl rfl
                  rintro ⟨v2, lo2, hi2⟩ hlo2 hhi2 ⟨e2, f2⟩
                  replace e2 : v2 = .slice (some ⟨lo2, 0, none⟩) 1 1 := e2; replace f2 : hi2 = lo2 + 1 := f2; replace hlo2 : _ ≤ lo2 := hlo2; subst e2; subst f2
                  refine hK _ _ ?_; clear hK K
                  -- 3: call builtin append<77,77>(t59, t61)
                  refine stepS _ rfl (by kernel_rfl) (fun K hK => ?_); go_simp
                  refine ⟨?_, ?_⟩
                  · intro wk hk hg hu; have uL := hu 2 (show 2 ∈ [2] by decide); have rL : Row wk lo2 26 (#[.int .i64 (k : Int), .slice qe ne ce]) := uL.2; have how := own_tr own' hk (fun b hb hc => hc); obtain ⟨vz, wz, hrun, hoz, hgz, hwz⟩ := append1 appT77 how rL rfl (by kernel_rfl) (by omega) (by have h2 := hk.size; omega); rw [run_append_op rfl rfl rfl hrun]; exact left_Pz rfl rfl hgz hoz (fun b hb => (own_lt hoz b hb).2) hwz
                  rintro ⟨v3, lo3, hi3⟩ hlo3 - ⟨hG3, q3, m3, c3, rfl⟩
                  refine hK _ _ ?_; clear hK K
                  -- 4: assign t62
                  refine stepKx [3] (fun c => vo.ownBlock = some c) rfl (by kernel_rfl) (by intro i hi b hb; simp only [List.mem_cons, List.not_mem_nil, or_false] at hi; subst hi; exact hb) (fun K hK => ?_); go_simp
                  apply Exists.intro; apply And.intro; (focus (intro wk hk; go_simp; exact ⟨rfl, rfl⟩)); refine hK _ _ ?_; clear hK K
                  refine stepN ?_
                  refine hQ _ _ ?_
                  intro w6 hT hG hF
                  have hf3 : Grew vo ⟨.slice q3 m3 c3, lo3, hi3⟩ ∧ w6.ownsRow B 26 2 (.slice q3 m3 c3) (nE + 1) (evcs E ++ [.int .i64 (k : Int), .slice qe ne ce]) := hF 3 _ rfl rfl (by decide)
                  have hpush : Eo w6 B (.slice q3 m3 c3) (E ++ [ev]) := own.push (lo := lo3) (hi := hi3) hT (by rw [hlen.1]; unfold evc; rw [HEv.out.1, HEv.out.2.1]; exact hf3.2) hf3.1 hlo3 hin
                  have H := Lib.hid (show ReadR w w6 g q B (.slice q3 m3 c3) gn LK e3 x3 es ys (E ++ [ev]) from ⟨hpush, src.keep hT (fun hc => by have := (own_lt own.1 _ hc).1; omega) (fun b hb hc => by have := (own_lt own.1 _ hc).1; have := hqb b hb; omega), tr.trans_new hT (fun b hc hlt => by have := (own_lt own.1 b hc).1; omega),
                    ⟨_, HL.1, by rw [List.map_append]; have h9 : [ev].map Ev.key = [((k : Int), l)] := (by show [ev.key] = _; unfold Ev.key; rw [HEv.out.1, HEv.out.2.2]); rw [h9]; exact HL.2⟩, by rw [List.length_append]; show E.length + 1 + gn ≤ 1000; omega, by have := hT.size; omega⟩)
                  clear hT hG hF hQ QQ L hf3 hpush own own' src tr hin r5 HL hG3 hlo3 HEv HM tr3 O hlen
                  go_wp2_with fail
                  go_roundg gn
                  case measure => omega
                  case rel => exact ⟨mo - 1, es, ys, E ++ [ev], rfl, Lib.hid (by have := HMO.out; omega), H⟩
      · have hq : (es == 0) = false := by rw [beq_eq_false_iff_ne]; exact hes
        clear HMO
        go_wp2_with fail
        go_ret
        obtain ⟨h1, h2, h3⟩ := hinv.out.stop (.inl hes)
        unfold RRdP
        rw [HR.out.1]
        exact ⟨_, E, rfl, by first | exact hinv.out.own | (rw [hB]; exact hinv.out.own), by rw [h1, HR.out.2], by rw [← h2, ← h3]; exact hinv.out.src, hinv.out.tr⟩
end Go.Proofs.Ytpdenhmkpiafiaa
