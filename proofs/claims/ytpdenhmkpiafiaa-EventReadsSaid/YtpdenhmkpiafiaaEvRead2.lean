/-
  Events out of bytes: read (221), Parse (143), ToResult (145).
-/
import Derived.Test.YtpdenhmkpiafiaaEvRead
import Derived.Test.YtpdenhmkpiafiaaEvSame
namespace Go.Proofs.Ytpdenhmkpiafiaa
open Go Go.RowKit K6

def keyX (x : EvX) : Int × List Nat := ((x.1 : Int), x.2)
/-- what a reading tells: the fault, and the events -/
def rdE (s : St) : Int := edE (gR s).2.1 (gR s).2.2
def rdL (s : St) : List (Int × List Nat) := if rdE s = 0 then (gR s).1.map keyX else []
/-- behind a reading: these events, of the call's own, and the fault -/
def RdP (w : World) (g : Nat) (L : List (Int × List Nat)) (er : Int) (r : Ending) (w' : World) : Prop := ∃ v E, r = .returned (.tuple #[v, .int .i64 er]) ∧ Eo w' w.heap.size v E ∧ E.map Ev.key = L ∧ Tr (fun b => b = g) w w'
/-- what stands in the loop of 'read' -/
structure ReadI (w wr : World) (lo hi g B : Nat) (v : Value) (i gg : Nat) (LK : List (Int × List Nat)) (e3 : Int) (x3 : List Int) (es : Int) (ys : List Int) (E : List Ev) : Prop where
  own : Eo wr B v E
  src : SA wr lo hi g es ys
  tr : Tr (fun b => b = g) w wr
  rest : ∃ L', gEs gg (es, ys) = (L', e3, x3) ∧ E.map Ev.key ++ L'.map keyX = LK
  len : E.length = i
  sz : B ≤ wr.heap.size
theorem ReadI.stop {w wr : World} {lo hi g B i gg : Nat} {v : Value} {LK : List (Int × List Nat)} {e3 : Int} {x3 : List Int} {es : Int} {ys : List Int} {E : List Ev} (h : ReadI w wr lo hi g B v i gg LK e3 x3 es ys E) (h0 : es ≠ 0 ∨ gg = 0) : E.map Ev.key = LK ∧ es = e3 ∧ ys = x3 := by
  obtain ⟨L', h1, h2⟩ := h.rest
  have h3 : gEs gg (es, ys) = ([], es, ys) := by
    rcases h0 with h0 | rfl
    · exact gEs_stop gg h0
    · rfl
  rw [h3] at h1
  simp only [Prod.mk.injEq] at h1
  obtain ⟨rfl, rfl, rfl⟩ := h1
  exact ⟨by rw [← h2, List.map_nil, List.append_nil], rfl, rfl⟩
theorem SA.by_ {w : World} {lo hi g : Nat} {e : Int} {xs : List Int} (h : SA w lo hi g e xs) : By xs := h.2.2.2.1
theorem gEs_len100 (n : Nat) : ∀ s : St, ∀ x ∈ (gEs n s).1, x.2.length ≤ 100 := by
  induction n with
  | zero => intro s x h; cases h
  | succ n ih =>
    intro s x hx
    by_cases h : s.1 = 0
    · rw [gEs_go n h] at hx
      rcases List.mem_cons.1 hx with rfl | hx
      · exact gE_len s
      · exact ih _ x hx
    · rw [gEs_stop _ h] at hx; cases hx
/-- what was read is short enough for a comparison -/
theorem rd_short {E : List Ev} {s : St} (h : E.map Ev.key = rdL s) : E.length ≤ 1000 ∧ ∀ e ∈ E, e.l.length ≤ 100 := by
  have hL : E.length = (rdL s).length := by rw [← h, List.length_map]
  unfold rdL at h hL
  have h1000 := gV_most (most := 1000) (s := s) (by decide)
  split at h
  · rename_i h0
    rw [if_pos h0, List.length_map] at hL
    have h1 := gEs_len (gV 1000 s).1 (gV 1000 s).2
    refine ⟨by rw [hL]; unfold gR; omega, fun e he => ?_⟩
    have h2 : e.key ∈ E.map Ev.key := List.mem_map.2 ⟨e, he, rfl⟩
    rw [h] at h2
    obtain ⟨x, hx, hxe⟩ := List.mem_map.1 h2
    have h3 := gEs_len100 _ _ x hx
    have h4 : x.2 = e.l := congrArg Prod.snd hxe
    rw [← h4]; exact h3
  · have h2 : E = [] := List.map_eq_nil_iff.1 h
    rw [h2]
    exact ⟨Nat.zero_le _, fun e he => (by cases he)⟩
set_option maxRecDepth 100000 in
set_option maxHeartbeats 64000000 in
theorem read_at {w : World} {lo hi g : Nat} {e : Int} {xs : List Int} (h : SA w lo hi g e xs) (hhi : hi ≤ w.heap.size) :
    Calls Try.prog 221 #[.pointer (some ⟨g, 0, none⟩)] w (RdP w g (rdL (e, xs)) (rdE (e, xs))) := by
  obtain ⟨n, e2, x2, hg2⟩ := tri (gV 1000 (e, xs))
  obtain ⟨LX, e3, x3, hg3⟩ : ∃ L e3 x3, gEs n (e2, x2) = (L, e3, x3) := ⟨_, _, _, rfl⟩
  have hgR : gR (e, xs) = (LX, e3, x3) := by
    unfold gR
    rw [hg2]
    exact hg3
  have hn : n ≤ 1000 := by
    have h1 := gV_most (most := 1000) (s := (e, xs)) (by decide)
    rw [hg2] at h1
    simp only at h1
    omega
  obtain ⟨ER, hER⟩ : ∃ x, rdE (e, xs) = x := ⟨_, rfl⟩
  obtain ⟨LR, hLR⟩ : ∃ x, rdL (e, xs) = x := ⟨_, rfl⟩
  rw [hER, hLR]
  obtain ⟨LK, hLK⟩ : ∃ K, LX.map keyX = K := ⟨_, rfl⟩
  have HR := Lib.hid (show ER = edE e3 x3 ∧ LR = (if edE e3 x3 = 0 then LK else []) from ⟨by rw [← hER]; unfold rdE; rw [hgR], by rw [← hLR, ← hLK]; unfold rdL rdE; rw [hgR]⟩)
  have kv2 := Lib.hid (fun wx (hb : Below w.heap.size w wx) => svar_V (h.below hb) hg2)
  have hgh : g < hi := h.2.1
  obtain ⟨B, hB⟩ : ∃ B, w.heap.size = B := ⟨_, rfl⟩
  replace hg3 := Lib.hid hg3
  replace hLK := Lib.hid hLK
  clear h hg2 hgR hER hLR
  go_enter Try.func221, Try.ntmps221
  go_wp2_with fail
  refine (kv2.out _ (Below.refl _ _)).mono ?_
  rintro r w7 ⟨rfl, hs, ht⟩
  have hsz7 := ht.size
  have H7 : ReadI w w7 lo hi g B (.slice none 0 0) 0 n LK e3 x3 e2 x2 [] := ⟨Eo.nil _ _, hs, ht, ⟨LX, hg3.out, by rw [← hLK.out]; rfl⟩, rfl, by omega⟩
  replace H7 := Lib.hid H7
  clear hs ht kv2 hg3 hsz7
  go_wp2_with fail
  go_loopg [4, 5, 6, 10] n (fun gg s4 s5 s6 s10 wr => ∃ (i : Nat) (es : Int) (ys : List Int) (E : List Ev), i + gg = n ∧ s10 = .int .i64 (i : Int) ∧ Hid (ReadI w wr lo hi g B s4 i gg LK e3 x3 es ys E))
  case atStart => exact ⟨0, e2, x2, [], by omega, rfl, H7⟩
  case round =>
    clear H7
    obtain ⟨i, es, ys, E, him, rfl, hinv⟩ := hrel
    obtain ⟨v, hvv⟩ : ∃ v, v = u4 := ⟨_, rfl⟩
    subst hvv
    obtain ⟨q0, c0, hv0⟩ := own_sl hinv.out.own.1
    rw [hinv.out.len] at hv0
    subst hv0
    obtain ⟨v, hvv⟩ : ∃ v : Value, v = .slice q0 i c0 := ⟨_, rfl⟩
    by_cases hi' : i < n
    · obtain ⟨gn, rfl⟩ : ∃ gn, gk = gn + 1 := ⟨gk - 1, by omega⟩
      have hlt : (i : Int) < (n : Int) := by omega
      have er := Lib.hid (err_at hinv.out.src)
      by_cases hes : es = 0
      · subst hes
        have hn := Lib.hid hn
        have hh8 : hi ≤ wr.heap.size := by have := hinv.out.sz; omega
        by_cases hC : (gV 26 (0, ys)).2.1 = 0 ∧ (gV 26 (0, ys)).1 = 0
        · have kb := Lib.hid (one_bad hinv.out.src hh8 hC)
          have HC := Lib.hid hC
          clear hC
          go_wp2_with fail
          refine er.out.mono ?_
          rintro r w8 ⟨rfl, rfl⟩
          clear er
          go_wp2_with fail
          refine kb.out.mono ?_
          rintro r w9 ⟨rfl, ht9⟩
          have H9 := Lib.hid (show Tr (fun b => b = g) w w9 from hinv.out.tr.trans ht9)
          clear kb ht9
          go_wp2_with fail
          go_ret2
          have hg4 : (gE (0, ys)).2 = (4, []) := by unfold gE; rw [if_pos HC.out]
          obtain ⟨L', h1, h2⟩ := hinv.out.rest
          rw [gEs_go gn rfl, hg4, gEs_stop gn (by decide)] at h1
          simp only [Prod.mk.injEq] at h1
          obtain ⟨-, rfl, rfl⟩ := h1
          unfold RdP
          refine ⟨_, [], by rw [HR.out.1]; rfl, Eo.nil _ _, by rw [HR.out.2, if_neg (by decide)]; rfl, ?_⟩
          exact H9.out.trans (Tr.of (by go_grown))
        · have ko := Lib.hid (one_ok hinv.out.src hh8 hC)
          obtain ⟨⟨k, l⟩, e4, y4, hgE⟩ : ∃ x e4 y4, gE (0, ys) = (x, e4, y4) := ⟨_, _, _, rfl⟩
          have hk26 := gE_k (0, ys)
          have hlM := gE_lt (s := (0, ys)) hinv.out.src.by_
          have hl100 := gE_len (0, ys)
          rw [hgE] at ko hk26 hlM hl100
          simp only at ko hk26 hlM hl100
          obtain ⟨L', h1, h2⟩ := hinv.out.rest
          rw [gEs_go gn rfl, hgE] at h1
          simp only [Prod.mk.injEq] at h1
          have HL := Lib.hid (show gEs gn (e4, y4) = ((gEs gn (e4, y4)).1, e3, x3) ∧ (E.map Ev.key ++ [((k : Int), l)]) ++ (gEs gn (e4, y4)).1.map keyX = LK from ⟨Prod.ext rfl h1.2, by rw [← h2, ← h1.1, List.append_assoc]; rfl⟩)
          have HM := Lib.hid (show _ ∧ _ from ⟨hlM, hl100⟩)
          clear hC h1 h2 hgE hlM hl100
          go_wp2_with fail
          refine er.out.mono ?_
          rintro r w8 ⟨rfl, rfl⟩
          clear er
          go_wp2_with fail
          refine ko.out.mono ?_
          rintro r w9 ⟨ve, rfl, ho9, hs9, ht9⟩
          clear ko
          obtain ⟨ne, hne⟩ : ∃ ne, l.length = ne := ⟨_, rfl⟩
          obtain ⟨qe, ce, hve⟩ := own_sl ho9
          rw [hne] at hve
          subst hve
          obtain ⟨own, src, tr, -, hlen, hsz⟩ := hinv.out
          rw [← hvv] at own
          obtain ⟨ev, hek, hev, hel, hin⟩ := ho9.ev (base := B) (v := v) (k := (k : Int)) HM.out.1 ⟨by omega, by omega⟩ hsz (fun b hb => (own_lt own.1 b hb).2)
          have HS := Lib.hid (show _ ∧ _ ∧ _ ∧ _ ∧ _ from ⟨own.keep ht9 (fun b hb hc => by have hc' : b = g := hc; omega), hs9, tr.trans ht9, hin, hlen⟩)
          have HEv := Lib.hid (show _ ∧ _ ∧ _ from ⟨hek, hev, hel⟩)
          have hsz9 := ht9.size
          clear own src tr hlen ho9 hs9 ht9 hinv hek hev hel hin hne
          go_upto_region 6 with (fail)
          have hB0 : ∀ x, Below w9.heap.size w9 (w9.alloc x) := fun x => (Below.refl _ _).alloc (Nat.le_refl _) _
          refine wp_abs (fun wx => Eo wx B v E ∧ SA wx lo hi g e4 y4 ∧ Tr (fun b => b = g) w wx ∧ EvIn wx B v ev ∧ Row wx w9.heap.size 26 #[.int .i64 (k : Int), .slice qe ne ce] ∧ B ≤ wx.heap.size) ⟨HS.out.1.below (hB0 _), HS.out.2.1.below (hB0 _), HS.out.2.2.1.trans (Tr.of (hB0 _)), HS.out.2.2.2.1.keep (X := None_) (Tr.of (hB0 _)) (fun _ _ _ => id), ?_, by have := (hB0 (.cells #[.int .i64 (k : Int), .slice qe ne ce] 26)).size; omega⟩ ?_
          · refine Row.new_at ?_; simp
          rintro w5 ⟨own, src, tr, hin, r5, hsz5⟩
          obtain ⟨b5, hb5⟩ : ∃ b, w9.heap.size = b := ⟨_, rfl⟩
          rw [hb5] at r5
          have hlen := HS.out.2.2.2.2
          clear HS hB0
          go_upto_region 8 with (fail)
          have own' : w5.ownsRow B 26 2 v i (evcs E) := by rw [← hlen]; exact own.1
          have hil : i ≤ 1000 := by have := hn.out; omega
          try rw [hb5]
          subst hvv
          let L : List Sp := [sL 2 26 [] 1 #[.int .i64 (k : Int), .slice qe ne ce], sPz 3 [2] [2] (B) 26 2 (Value.slice q0 i c0) (i + 1) (evcs E ++ [.int .i64 (k : Int), .slice qe ne ce])]
          refine wp_region_six0 (shs L) (look6 L) (fun c => (Value.slice q0 i c0).ownBlock = some c) (by kernel_rfl) (by kernel_rfl) (mk_St L [3] [3] (by kernel_rfl) (by kernel_rfl) ⟨ok_L, ok_Pz (own_sl3 own') (fun b hb => ⟨hb, (own_lt own.1 b hb).2⟩), trivial⟩ (by simp)) ?_
          intro QQ hQ
          -- 0: t4
          refine stepK rfl (by kernel_rfl) (fun K hK => ?_); go_simp
          apply Exists.intro; apply And.intro; (focus (intro wk hk; go_simp; exact ⟨rfl, rfl⟩)); refine hK _ _ ?_; clear hK K
          -- 1: load<26> *t5
          refine stepK rfl (by kernel_rfl) (fun K hK => ?_); go_simp
          apply Exists.intro; apply And.intro; (focus exact kLoad rfl rfl aggT26 r5 rfl id); refine hK _ _ ?_; clear hK K
          -- 2: buildSlice<77> len 1 0:t23
          refine stepS _ rfl (by kernel_rfl) (fun K hK => ?_); go_simp
          refine ⟨?_, ?_⟩
          · intro wk hk hg hu; go_simp; exact left_L rfl rfl
          rintro ⟨v2, lo2, hi2⟩ hlo2 hhi2 ⟨e2, f2⟩
          replace e2 : v2 = .slice (some ⟨lo2, 0, none⟩) 1 1 := e2; replace f2 : hi2 = lo2 + 1 := f2; replace hlo2 : _ ≤ lo2 := hlo2; subst e2; subst f2
          refine hK _ _ ?_; clear hK K
          -- 3: call builtin append<77,77>(t22, t24)
          refine stepS _ rfl (by kernel_rfl) (fun K hK => ?_); go_simp
          refine ⟨?_, ?_⟩
          · intro wk hk hg hu; have uL := hu 2 (show 2 ∈ [2] by decide); have rL : Row wk lo2 26 (#[.int .i64 (k : Int), .slice qe ne ce]) := uL.2; have how := own_tr own' hk (fun b hb hc => hc); obtain ⟨vz, wz, hrun, hoz, hgz, hwz⟩ := append1 appT77 how rL rfl (by kernel_rfl) (by omega) (by have h2 := hk.size; omega); rw [run_append_op rfl rfl rfl hrun]; exact left_Pz rfl rfl hgz hoz (fun b hb => (own_lt hoz b hb).2) hwz
          rintro ⟨v3, lo3, hi3⟩ hlo3 - ⟨hG3, q3, m3, c3, rfl⟩
          refine hK _ _ ?_; clear hK K
          -- 4: assign t25
          refine stepKx [3] (fun c => (Value.slice q0 i c0).ownBlock = some c) rfl (by kernel_rfl) (by intro i hi b hb; simp only [List.mem_cons, List.not_mem_nil, or_false] at hi; subst hi; exact hb) (fun K hK => ?_); go_simp
          apply Exists.intro; apply And.intro; (focus (intro wk hk; go_simp; exact ⟨rfl, rfl⟩)); refine hK _ _ ?_; clear hK K
          refine stepN ?_
          refine hQ _ _ ?_
          intro w6 hT hG hF
          have hf3 : Grew (Value.slice q0 i c0) ⟨.slice q3 m3 c3, lo3, hi3⟩ ∧ w6.ownsRow B 26 2 (.slice q3 m3 c3) (i + 1) (evcs E ++ [.int .i64 (k : Int), .slice qe ne ce]) := hF 3 _ rfl rfl (by decide)
          have hpush : Eo w6 B (.slice q3 m3 c3) (E ++ [ev]) := own.push (lo := lo3) (hi := hi3) hT (by rw [hlen]; unfold evc; rw [HEv.out.1, HEv.out.2.1]; exact hf3.2) hf3.1 hlo3 hin
          have H := Lib.hid (show ReadI w w6 lo hi g B (.slice q3 m3 c3) (i + 1) gn LK e3 x3 e4 y4 (E ++ [ev]) from ⟨hpush, src.keep hT (fun b h1 h2 hc => by have := (own_lt own.1 b hc).1; omega), tr.trans_new hT (fun b hc hlt => by have := (own_lt own.1 b hc).1; omega),
            ⟨_, HL.out.1, by rw [List.map_append]; have h9 : [ev].map Ev.key = [((k : Int), l)] := by (show [ev.key] = _; unfold Ev.key; rw [HEv.out.1, HEv.out.2.2])
                             rw [h9]; exact HL.out.2⟩, by rw [List.length_append, hlen]; rfl, by have := hT.size; omega⟩)
          clear hT hG hF hQ QQ L hf3 hpush own own' src tr hin r5 HL hG3 hlo3 HEv HM
          go_wp2_with fail
          go_roundg gn
          case measure => omega
          case rel => exact ⟨i + 1, e4, y4, E ++ [ev], by omega, by go_num, H⟩
      · have hq : (es != 0) = true := by rw [bne_iff_ne]; exact hes
        have hn := Lib.hid hn
        go_wp2_with fail
        refine er.out.mono ?_
        rintro r w8 ⟨rfl, rfl⟩
        clear er
        have hI := hinv.out
        clear hinv hvv
        obtain ⟨hK, rfl, rfl⟩ := hI.stop (.inl hes)
        obtain ⟨own, src, tr, -, -, hsz⟩ := hI
        have ed := end_at src
        obtain ⟨q, cq, hv⟩ := own_sl own.1
        have HO := Lib.hid (show _ ∧ _ ∧ _ from ⟨own, hK, tr⟩)
        by_cases hE : edE es ys = 0
        · rw [hE] at ed
          replace ed := Lib.hid ed
          have HE := Lib.hid (show _ from hE)
          clear own src tr hK hE 
          go_wp2_with fail
          refine ed.out.mono ?_
          rintro r w9 ⟨rfl, hs9, ht9⟩
          have H9 := Lib.hid (show _ ∧ _ from ⟨HO.out.1.keep ht9 (fun b hb hc => by have hc' : b = g := hc; omega), HO.out.2.2.trans ht9⟩)
          clear ed hs9 ht9
          go_wp2_with fail
          go_ret2
          unfold RdP
          refine ⟨_, E, by have h1 := HR.out.1; rw [HE.out] at h1; subst h1; rfl, by first | exact H9.out.1 | (rw [hB]; exact H9.out.1), by rw [HO.out.2.1, HR.out.2, if_pos HE.out], H9.out.2⟩
        · obtain ⟨er, her⟩ : ∃ er, edE es ys = er := ⟨_, rfl⟩
          rw [her] at ed hE
          have hne : (er != 0) = true := by rw [bne_iff_ne]; exact hE
          replace ed := Lib.hid ed
          have HE := Lib.hid (show _ from her)
          clear own src tr hK hE her 
          go_wp2_with fail
          refine ed.out.mono ?_
          rintro r w9 ⟨rfl, hs9, ht9⟩
          have H9 := Lib.hid (show _ ∧ _ from ⟨HO.out.1.keep ht9 (fun b hb hc => by have hc' : b = g := hc; omega), HO.out.2.2.trans ht9⟩)
          clear ed hs9 ht9
          go_wp2_with fail
          go_ret2
          unfold RdP
          refine ⟨_, [], by have h1 := HR.out.1; rw [HE.out] at h1; subst h1; rfl, Eo.nil _ _, by rw [HR.out.2, if_neg (by rw [HE.out]; intro h; rw [h] at hne; cases hne)]; rfl, H9.out.2⟩
    · obtain rfl : gk = 0 := by omega
      obtain rfl : i = n := by omega
      have hlt : ¬ (i : Int) < (i : Int) := by omega
      have hn := Lib.hid hn
      have hI := hinv.out
      clear hinv hvv
      obtain ⟨hK, rfl, rfl⟩ := hI.stop (.inr rfl)
      obtain ⟨own, src, tr, -, -, hsz⟩ := hI
      have ed := end_at src
      obtain ⟨q, cq, hv⟩ := own_sl own.1
      have HO := Lib.hid (show _ ∧ _ ∧ _ from ⟨own, hK, tr⟩)
      by_cases hE : edE es ys = 0
      · rw [hE] at ed
        replace ed := Lib.hid ed
        have HE := Lib.hid (show _ from hE)
        clear own src tr hK hE 
        go_wp2_with fail
        refine ed.out.mono ?_
        rintro r w9 ⟨rfl, hs9, ht9⟩
        have H9 := Lib.hid (show _ ∧ _ from ⟨HO.out.1.keep ht9 (fun b hb hc => by have hc' : b = g := hc; omega), HO.out.2.2.trans ht9⟩)
        clear ed hs9 ht9
        go_wp2_with fail
        go_ret2
        unfold RdP
        refine ⟨_, E, by have h1 := HR.out.1; rw [HE.out] at h1; subst h1; rfl, by first | exact H9.out.1 | (rw [hB]; exact H9.out.1), by rw [HO.out.2.1, HR.out.2, if_pos HE.out], H9.out.2⟩
      · obtain ⟨er, her⟩ : ∃ er, edE es ys = er := ⟨_, rfl⟩
        rw [her] at ed hE
        have hne : (er != 0) = true := by rw [bne_iff_ne]; exact hE
        replace ed := Lib.hid ed
        have HE := Lib.hid (show _ from her)
        clear own src tr hK hE her 
        go_wp2_with fail
        refine ed.out.mono ?_
        rintro r w9 ⟨rfl, hs9, ht9⟩
        have H9 := Lib.hid (show _ ∧ _ from ⟨HO.out.1.keep ht9 (fun b hb hc => by have hc' : b = g := hc; omega), HO.out.2.2.trans ht9⟩)
        clear ed hs9 ht9
        go_wp2_with fail
        go_ret2
        unfold RdP
        refine ⟨_, [], by have h1 := HR.out.1; rw [HE.out] at h1; subst h1; rfl, Eo.nil _ _, by rw [HR.out.2, if_neg (by rw [HE.out]; intro h; rw [h] at hne; cases hne)]; rfl, H9.out.2⟩
end Go.Proofs.Ytpdenhmkpiafiaa
