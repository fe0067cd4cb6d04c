/-
  What the statement rests on, part 14: TxBackW.
-/
import Derived.Test.YtpdenhmkpiafiaaQTC2
import Derived.Test.YtpdenhmkpiafiaaQTC11
import Derived.Test.YtpdenhmkpiafiaaQTC12
namespace Go.Proofs.Ytpdenhmkpiafiaa
open Go Go.RowKit K6
theorem own_someT {w : World} {base te z n : Nat} {v : Value} {zs : List Value} (h : w.ownsRow base te z v n zs) (h0 : 0 < n) : ∃ g cap, v = .slice (some ⟨g, 0, none⟩) n cap ∧ n ≤ cap ∧ cap ≤ maxLen := by
  rcases h.2 with ⟨rfl, h1⟩ | ⟨g, cap, cur, rfl, h1, hg, h2, h3, -⟩
  · omega
  · exact ⟨g, cap, rfl, h2, h3⟩
theorem Bs_takeT {w : World} {a : Addr} {n c j : Nat} {xs : List Int} (h : Bs w (.slice (some a) n c) xs) (hj : j ≤ n) : Bs w (.slice (some a) j c) (xs.take j) := by
  obtain ⟨q', c', e, hn, hc⟩ := h
  simp only [Value.slice.injEq] at e
  obtain ⟨rfl, rfl, rfl⟩ := e
  refine ⟨some a, c, by rw [List.length_take, Nat.min_eq_left hj], (fun h => (by cases h)), fun p hp i u hi => hc p hp i u ?_⟩
  unfold bv at hi ⊢
  rw [List.getElem?_map, List.getElem?_take] at hi
  rw [List.getElem?_map]
  split at hi
  · exact hi
  · cases hi
theorem TxOk.keyOk {w : World} {t : Txv} (h : TxOk w t) : KeyOk t.key :=
  ⟨h.hb, ⟨h.c.tok, h.c.by_⟩, h.c.h, fun x hx => by obtain ⟨y, hy, rfl⟩ := List.mem_map.1 hx; exact (h.c.l.2 y hy).h⟩
theorem By.flat {α : Type} {f : α → List Int} {l : List α} (h : ∀ x ∈ l, By (f x)) : By (l.flatMap f) := fun y hy => by
  obtain ⟨x, hx, hy⟩ := List.mem_flatMap.1 hy
  exact h x hx y hy
theorem nst_by (s : Shp) (l : List Int) (i : Nat) : By (nst s l i) := by
  unfold nst
  refine By.app ?_ (enc_by _)
  split
  · exact enc_by _
  · exact By.nil
theorem prfB_by {l : List (List Int)} (h : HsOk l) : By (prfB l) := (enc_by _).app (By.flat fun y hy => (h y hy).2)
theorem lfKB_by {w : World} {x : Lf} (h : LfOk w x) : By (lfKB x.key) := (enc_by _).app ((enc_by _).app ((amtL_by h.a).app (prfB_by h.h)))
theorem clKB_by {w : World} {c : Cm} (h : CmOk w c) : By (clKB c.key) :=
  (enc_by _).app ((enc_by _).app ((enc_by _).app ((enc_by _).app (h.by_.app ((prfB_by h.h).app ((enc_by _).app (By.flat fun y hy => by
    obtain ⟨x, hx, rfl⟩ := List.mem_map.1 hy
    exact lfKB_by (h.l.2 x hx))))))))
theorem TxOk.put_by {w : World} {t : Txv} (h : TxOk w t) : By (putK t.key) := by
  unfold putK
  refine (enc_by _).app ((enc_by _).app ((By.flat fun i _ => nst_by _ _ i).app ((By.flat fun a ha => amtL_by (h.ab a ha)).app ((By.flat fun y hy => (h.hb y hy).2).app ?_))))
  split
  · exact clKB_by h.c
  · exact By.nil
theorem bytK_pos {t : TxK} (h : bytK t ≠ []) : goodK t = true ∧ (putK t).length ≤ 4096 ∧ bytK t = putK t := by
  unfold bytK at h ⊢
  by_cases hg : goodK t = true
  · by_cases hl : (putK t).length ≤ 4096
    · rw [if_pos hg, if_pos hl]; exact ⟨hg, hl, rfl⟩
    · rw [if_pos hg, if_neg hl] at h; exact absurd rfl h
  · rw [if_neg hg] at h; exact absurd rfl h
set_option maxRecDepth 100000 in
set_option maxHeartbeats 64000000 in
theorem back15_walk (t : Txv) (u : Value) (xs : List Int) (n : Nat) (w : World) (ht : TxOk w t) (hmt : LenT t) (hbs : Bs w u xs) (hby : By xs) (hn : n < 18446744073709551616) :
    Calls Try.prog 33 #[.agg t.cs.toArray, u, .int .u64 (n : Int)] w fun e w' => e = .returned (.bool true) ∧ Below w.heap.size w w' := by
  have lv := Lib.hid fun wx => lives15U wx
  have k1 := fun wx (hb : Below w.heap.size w wx) => light15_at t wx (ht.below hb) hmt
  have hst : t.cs.toArray.size = 43 := Txv.size ht.c.tok
  obtain ⟨b1, hb1⟩ : ∃ b, lightB t = b := ⟨_, rfl⟩
  simp only [hb1] at k1
  have HT := Lib.hid (show b1 = true → LightT t from fun h => lightB_is (hb1.trans h))
  have HTO := Lib.hid (show TxOk w t ∧ Bs w u xs ∧ By xs from ⟨ht, hbs, hby⟩)
  have kB := fun wx (hb : Below w.heap.size w wx) (hl : LightT t) => txbytes_at t wx (ht.below hb) hl
  have kP1 := Lib.hid fun wx (hb : Below w.heap.size w wx) (hL : xs.length ≤ 1000000) => txparse_at u xs wx (hbs.below hb) hby hL
  have kS := fun (wx : World) (v : Txv) (hv : TxOk wx v) (hb : Below w.heap.size w wx) (hlv : LightT v) (hk : v.key = t.key) => (show Calls Try.prog 140 #[.agg v.cs.toArray, .agg t.cs.toArray] wx fun r w' => r = .returned (.bool true) ∧ Below wx.heap.size wx w' from by
    have h := txsame_at v t wx hv (ht.below hb) hlv
    rw [decide_eq_true hk] at h
    exact h)
  have hkey := Lib.hid (show KeyOk t.key ∧ By (putK t.key) from ⟨ht.keyOk, ht.put_by⟩)
  obtain ⟨P, hP⟩ : ∃ P, bytK t.key = P := ⟨_, rfl⟩
  simp only [hP] at kB
  obtain ⟨ct, hct⟩ : ∃ c, t.cs.toArray = c := ⟨_, rfl⟩
  rw [hct] at hst ⊢
  simp only [hct] at k1 kB kS
  obtain ⟨m, hm⟩ : ∃ m, xs.length = m := ⟨_, rfl⟩
  obtain ⟨q, cq, rfl, -, -⟩ := hbs
  rw [hm] at kP1 ⊢
  have HM := Lib.hid (show xs.length = m from hm)
  have HP := Lib.hid hP
  replace k1 := Lib.hid k1
  replace kB := Lib.hid kB
  replace kS := Lib.hid kS
  rw [hm] at HTO
  clear hb1 hct hm hP ht hmt hby
  go_enter Try.func33, Try.ntmps33
  go_upto_region 1 with (fail)
  refine wp_abs (Mem w [(w.heap.size, 116, ct)]) ⟨by go_grown, by (repeat (first | (refine Row.new_at ?_; simp; done) | refine Row.alloc ?_ _)), trivial⟩ ?_
  intro w0 hM
  obtain ⟨hl, r1, -⟩ := hM
  have hl0 := hl
  go_wp2_with (refine wpList_loadA rfl rfl rfl aggT116 r1 hst ?_)
  refine (k1.out _ hl).mono ?_
  rintro e w1 ⟨rfl, hb1⟩
  replace r1 := r1.below hb1 r1.lt
  replace hl := hl.trans (hb1.mono hl.size)
  clear hb1 k1 hl0
  cases b1
  · have H1 := Lib.hid hl
    clear hl r1 HT HTO kB kP1 kS hkey
    go_wp2_with fail
    refine (lv.out _).mono ?_
    rintro e wz ⟨rfl, hbz⟩
    have Hz := Lib.hid (H1.out.trans (hbz.mono H1.out.size))
    clear hbz
    go_wp2_with fail
    go_ret
    exact ⟨rfl, Hz.out⟩
  by_cases hlong : 5000 < m
  · have h5 : 5000 < (m : Int) := by omega
    have H1 := Lib.hid hl
    clear hl r1 HT HTO kB kP1 kS hkey hlong
    go_wp2_with fail
    refine (lv.out _).mono ?_
    rintro e wz ⟨rfl, hbz⟩
    have Hz := Lib.hid (H1.out.trans (hbz.mono H1.out.size))
    clear hbz
    go_wp2_with fail
    go_ret
    exact ⟨rfl, Hz.out⟩
  have h5 : ¬ 5000 < (m : Int) := by omega
  have h5' : (m : Int) ≤ 5000 := by omega
  have hL := HT.out rfl
  have hm5 := Lib.hid (show m ≤ 1000000 by omega)
  have r1' := Lib.hid r1
  clear hlong HT
  go_wp2_with fail
  refine (kP1.out _ hl hm5.out).mono ?_
  rintro e w2 ⟨t1v, hk1, rfl, hok1, hbw1, hlt1⟩
  have hs1 : t1v.cs.toArray.size = 43 := Txv.size hok1.c.tok
  have ho1 := Txv.one t1v
  have hq1 := hok1.keyOk
  obtain ⟨c1, hc1⟩ : ∃ A, t1v.cs.toArray = A := ⟨_, rfl⟩
  rw [hc1] at hs1 ho1 ⊢
  have hi1 := info116 hs1
  have hZ1 : (#[.int .i64 0, .int .i64 0, .slice none 0 0, .slice none 0 0, .slice none 0 0, .int .i64 0, .int .i64 0, .int .i64 0, .int .u8 0, .int .u8 0, .int .u8 0, .int .u8 0, .int .u8 0, .int .u8 0, .int .u8 0, .int .u8 0, .int .u8 0, .int .u8 0, .int .u8 0, .int .u8 0, .int .u8 0, .int .u8 0, .int .u8 0, .int .u8 0, .int .u8 0, .int .u8 0, .int .u8 0, .int .u8 0, .int .u8 0, .int .u8 0, .int .u8 0, .int .u8 0, .int .u8 0, .int .u8 0, .int .u8 0, .int .u8 0, .int .u8 0, .int .u8 0, .int .u8 0, .int .u8 0, .slice none 0 0, .slice none 0 0, .int .i64 0] : Array Value).size = c1.size := by rw [hs1]; rfl
  have hA1 : Below w2.heap.size w2 (w2.alloc (.cells #[.int .i64 0, .int .i64 0, .slice none 0 0, .slice none 0 0, .slice none 0 0, .int .i64 0, .int .i64 0, .int .i64 0, .int .u8 0, .int .u8 0, .int .u8 0, .int .u8 0, .int .u8 0, .int .u8 0, .int .u8 0, .int .u8 0, .int .u8 0, .int .u8 0, .int .u8 0, .int .u8 0, .int .u8 0, .int .u8 0, .int .u8 0, .int .u8 0, .int .u8 0, .int .u8 0, .int .u8 0, .int .u8 0, .int .u8 0, .int .u8 0, .int .u8 0, .int .u8 0, .int .u8 0, .int .u8 0, .int .u8 0, .int .u8 0, .int .u8 0, .int .u8 0, .int .u8 0, .int .u8 0, .slice none 0 0, .slice none 0 0, .int .i64 0] 116)) := (Below.refl _ _).alloc (Nat.le_refl _) _
  obtain ⟨e1, he1⟩ : ∃ e, prT xs = e := ⟨_, rfl⟩
  rw [he1]
  have HE1 := Lib.hid he1
  have hlw2 := hl.trans (hbw1.mono hl.size)
  have HK1 := Lib.hid (show t1v.key = prK xs ∧ KeyOk t1v.key ∧ LightT t1v ∧ TxOk w2 t1v from ⟨hk1, hq1, hlt1, hok1⟩)
  have HC1 := Lib.hid hc1
  replace r1 := r1.below hbw1 r1.lt
  clear hk1 hq1 hlt1 hok1 hc1 kP1 he1 hbw1 hl r1' h5
  go_upto_region 4 with (refine wpList_storeA (b := w2.heap.size) (t := 116) (old := #[.int .i64 0, .int .i64 0, .slice none 0 0, .slice none 0 0, .slice none 0 0, .int .i64 0, .int .i64 0, .int .i64 0, .int .u8 0, .int .u8 0, .int .u8 0, .int .u8 0, .int .u8 0, .int .u8 0, .int .u8 0, .int .u8 0, .int .u8 0, .int .u8 0, .int .u8 0, .int .u8 0, .int .u8 0, .int .u8 0, .int .u8 0, .int .u8 0, .int .u8 0, .int .u8 0, .int .u8 0, .int .u8 0, .int .u8 0, .int .u8 0, .int .u8 0, .int .u8 0, .int .u8 0, .int .u8 0, .int .u8 0, .int .u8 0, .int .u8 0, .int .u8 0, .int .u8 0, .int .u8 0, .slice none 0 0, .slice none 0 0, .int .i64 0]) (cs := c1) rfl rfl rfl rfl (Row.new_at rfl) hi1 hZ1 ho1 (fun w3 rr1 tt1 => ?_))
  have hb3 := below_store hA1 tt1
  replace r1 := r1.below hb3 r1.lt
  have hl := hlw2.trans (hb3.mono hlw2.size)
  have HK3 := Lib.hid (HK1.out.2.2.2.below hb3)
  clear hlw2 hb3 tt1 hA1 hi1 hZ1 ho1
  by_cases hE : e1 = 0
  · subst hE
    have hbk := prT_back HTO.out.2.2 HE1.out (by rw [← HK1.out.1]; exact HK1.out.2.1)
    rw [← HK1.out.1] at hbk
    have kB1 := fun wx (hb : Below w3.heap.size w3 wx) => txbytes_at t1v wx (HK3.out.below hb) HK1.out.2.2.1
    rw [hbk, HC1.out] at kB1
    replace kB1 := Lib.hid kB1
    obtain ⟨SB, hSB⟩ : ∃ B, Hid (strOfNums xs = B) := ⟨_, Lib.hid rfl⟩
    have kU := Lib.hid fun wx (hb : Below w3.heap.size w3 wx) => (show (convert 33 9 (.slice q m cq)).run Try.prog wx = .ok (.string SB) wx from by
      have h := (HTO.out.2.1.below (hl.trans (hb.mono hl.size))).convA
      rw [hSB.out] at h
      exact h)
    clear HE1 hbk
    let L : List Sp := [sF 4 [] [] [] (fun _ => True) (fun x w => Bs w x.v xs), sV 5 [4] [4] (fun u => u = .string SB), sV 7 [] [] (fun u => u = .string SB)]
    refine wp_region_six7 (shs L) (look6 L) (None_) (by kernel_rfl) (by kernel_rfl) (mk_St L [] [] (by kernel_rfl) (by kernel_rfl) ⟨ok_F (any_some _) (fun _ _ _ h hb => Bs.below h hb), ok_V ⟨_, rfl⟩, ok_V ⟨_, rfl⟩, trivial⟩ (by simp)) ?_
    intro QQ hQ
    refine stepK rfl (by kernel_rfl) (fun K hK => ?_); go_simp
    apply Exists.intro; apply And.intro; (focus (intro wk hk; go_simp; exact ⟨rfl, rfl⟩)); refine hK _ _ ?_; clear hK K
    refine stepK rfl (by kernel_rfl) (fun K hK => ?_); go_simp
    apply Exists.intro; apply And.intro; (focus (intro wk hk; go_simp; exact ⟨rfl, rfl⟩)); refine hK _ _ ?_; clear hK K
    refine stepK rfl (by kernel_rfl) (fun K hK => ?_); go_simp
    apply Exists.intro; apply And.intro; (focus (intro wk hk; go_simp; exact ⟨rfl, rfl⟩)); refine hK _ _ ?_; clear hK K
    refine stepK rfl (by kernel_rfl) (fun K hK => ?_); go_simp
    first | (refine hK _ _ ?_; clear hK K) | (apply Exists.intro; apply And.intro; (focus exact kLoad rfl rfl aggT116 rr1 hs1 id); refine hK _ _ ?_; clear hK K)
    refine stepS _ rfl (by kernel_rfl) (fun K hK => ?_); go_simp
    refine ⟨?_, ?_⟩
    · intro wk hk hg hu; go_simp; refine upon_enter ((kB1.out _ hk.undrew.below).mono ?_); rintro e w' ⟨v, rfl, hv, hb9⟩; exact ⟨_, rfl, left_F rfl rfl hb9 trivial hv.bs⟩
    rintro ⟨v4, lo4, hi4⟩ - - -
    refine hK _ _ ?_; clear hK K
    refine stepS _ rfl (by kernel_rfl) (fun K hK => ?_); go_simp
    refine ⟨?_, ?_⟩
    · intro wk hk hg hu; have u4 := hu 4 (show 4 ∈ [4] by decide); have b4 : Bs wk v4 xs := u4; have cv := Bs.convA b4; rw [hSB.out] at cv; go_simp; exact left_V (p := fun u => u = .string SB) rfl (Below.refl _ _) rfl
    rintro ⟨v5, lo5, hi5⟩ - - (rfl : v5 = _)
    refine hK _ _ ?_; clear hK K
    refine stepK rfl (by kernel_rfl) (fun K hK => ?_); go_simp
    first | (refine hK _ _ ?_; clear hK K) | (apply Exists.intro; apply And.intro; (focus (intro wk hk; go_simp; exact ⟨rfl, rfl⟩)); refine hK _ _ ?_; clear hK K)
    refine stepS _ rfl (by kernel_rfl) (fun K hK => ?_); go_simp
    refine ⟨?_, ?_⟩
    · intro wk hk hg hu; have cv := kU.out wk hk.undrew.below; go_simp; exact left_V (p := fun u => u = .string SB) rfl (Below.refl _ _) rfl
    rintro ⟨v7, lo7, hi7⟩ - - (rfl : v7 = _)
    refine hK _ _ ?_; clear hK K
    refine stepK rfl (by kernel_rfl) (fun K hK => ?_); go_simp
    first | (refine hK _ _ ?_; clear hK K) | (apply Exists.intro; apply And.intro; (focus (intro wk hk; go_simp; exact ⟨rfl, rfl⟩)); refine hK _ _ ?_; clear hK K)
    refine stepK rfl (by kernel_rfl) (fun K hK => ?_); go_simp
    apply Exists.intro; apply And.intro; (focus (intro wk hk; go_simp; exact ⟨rfl, rfl⟩)); refine hK _ _ ?_; clear hK K
    refine stepN ?_
    refine hQ _ _ ?_
    intro w4 hT hG hF
    have hb4 := hT.undrew.below
    replace r1 := r1.below hb4 r1.lt
    replace hl := hl.trans (hb4.mono hl.size)
    clear hT hG hF hQ QQ L hb4 kB1 kU hSB rr1 hs1 HK1 HK3 HC1
    go_wp2_with (refine wpList_loadA rfl rfl rfl aggT116 r1 hst ?_)
    refine (kB.out _ hl hL).mono ?_
    rintro e w5 ⟨x, rfl, hox, hb5⟩
    replace r1 := r1.below hb5 r1.lt
    replace hl := hl.trans (hb5.mono hl.size)
    clear kB hb5
    by_cases hP0 : P = []
    · subst hP0
      obtain ⟨qx, cx, hx⟩ := own_sl hox
      simp only [List.length_nil] at hx
      subst hx
      have H5 := Lib.hid hl
      clear hl r1 hox HTO hkey kS HP
      go_wp2_with fail
      refine (lv.out _).mono ?_
      rintro e wz ⟨rfl, hbz⟩
      have Hz := Lib.hid (H5.out.trans (hbz.mono H5.out.size))
      clear hbz
      go_wp2_with fail
      go_ret
      exact ⟨rfl, Hz.out⟩
    have hpos := bytK_pos (t := t.key) (by rw [HP.out]; exact hP0)
    rw [HP.out] at hpos
    obtain ⟨hg, hle, hPe⟩ := hpos
    have hPby : By P := by rw [hPe]; exact hkey.out.2
    have hp1 := prT_put hkey.out.1 hg hle
    have hp2 := fun (j : Nat) (hj : j < (putK t.key).length) => prT_cut hkey.out.1 hg hle hj
    have hp3 := prT_more hkey.out.1 hg hle
    rw [← hPe] at hle hp1 hp2 hp3
    obtain ⟨Lb, hLb⟩ : ∃ L, P.length = L := ⟨_, rfl⟩
    have hLb0 : 0 < Lb := by rw [← hLb]; exact List.length_pos_iff.2 hP0
    obtain ⟨gx, cx, hx, hlc, hcm⟩ := own_someT hox (by rw [hLb]; omega)
    rw [hLb] at hx hlc hle hp2 hp3
    subst hx
    obtain ⟨j, hj⟩ : ∃ j, n % Lb = j := ⟨_, rfl⟩
    have hjl : j < Lb := by rw [← hj]; exact Nat.mod_lt _ (by omega)
    obtain ⟨e4, he4⟩ : ∃ e, prT (P ++ [0]) = e := ⟨_, rfl⟩
    rw [he4] at hp3
    have k2 := fun wx v (h : Bs wx v P) => txparse_at v P wx h hPby (by omega)
    have k3 := fun wx v (h : Bs wx v (P.take j)) => txparse_at v (P.take j) wx h (hPby.take j) (by rw [List.length_take]; omega)
    have k4 := fun wx v (h : Bs wx v (P ++ [0])) => txparse_at v (P ++ [0]) wx h (hPby.app (By.cons (by omega) By.nil)) (by rw [List.length_append]; show _ + 1 ≤ _; omega)
    simp only [hp1.1, hp1.2] at k2
    simp only [hp2 j hjl] at k3
    simp only [he4] at k4
    replace k2 := Lib.hid k2
    replace k3 := Lib.hid k3
    replace k4 := Lib.hid k4
    have tmn : ((n : Int)).tmod (Lb : Int) = (j : Int) := by rw [Int.tmod_eq_emod_of_nonneg (by omega), ← hj]; omega
    have wL : IntKind.u64.wrap (Lb : Int) = (Lb : Int) := by rw [IntKind.wrap_u64]; omega
    have wj : IntKind.u64.wrap (j : Int) = (j : Int) := by rw [IntKind.wrap_u64]; omega
    have wj' : IntKind.i64.wrap (j : Int) = (j : Int) := by rw [IntKind.wrap_i64]; omega
    have hL0 : ((Lb : Int) == 0) = false := by rw [beq_eq_false_iff_ne]; omega
    have hL0' : ¬ ((Lb : Int) = 0) := by omega
    have hLi : (Lb : Int) ≤ 4096 := by omega
    have hjle : (j : Int) ≤ (Lb : Int) := by omega
    have hjc : (j : Int) ≤ (cx : Int) := by omega
    have hcm' : (cx : Int) ≤ 9223372036854775807 := by simp only [maxLen] at hcm; omega
    have HLb := Lib.hid (show P.length = Lb ∧ Lb ≤ 4096 ∧ j ≤ Lb from ⟨hLb, hle, by omega⟩)
    have HX := Lib.hid (show _ ∧ Row w5 w.heap.size 116 ct ∧ _ from ⟨hox.bs, r1, hl⟩)
    have HE4 := Lib.hid hp3
    clear hox r1 hl hlc hcm hLb hle hp1 hp2 hp3 he4 hPby hg hPe hP0 hj hLb0 HP
    go_wp2_with fail
    refine (k2.out _ _ HX.out.1).mono ?_
    rintro e w6 ⟨t2v, hk2, rfl, hok2, hbw2, hlt2⟩
    have hs2 : t2v.cs.toArray.size = 43 := Txv.size hok2.c.tok
    have ho2 := Txv.one t2v
    have hq2 := hok2.keyOk
    obtain ⟨c2, hc2⟩ : ∃ A, t2v.cs.toArray = A := ⟨_, rfl⟩
    rw [hc2] at hs2 ho2 ⊢
    have hi2 := info116 hs2
    have hZ2 : (#[.int .i64 0, .int .i64 0, .slice none 0 0, .slice none 0 0, .slice none 0 0, .int .i64 0, .int .i64 0, .int .i64 0, .int .u8 0, .int .u8 0, .int .u8 0, .int .u8 0, .int .u8 0, .int .u8 0, .int .u8 0, .int .u8 0, .int .u8 0, .int .u8 0, .int .u8 0, .int .u8 0, .int .u8 0, .int .u8 0, .int .u8 0, .int .u8 0, .int .u8 0, .int .u8 0, .int .u8 0, .int .u8 0, .int .u8 0, .int .u8 0, .int .u8 0, .int .u8 0, .int .u8 0, .int .u8 0, .int .u8 0, .int .u8 0, .int .u8 0, .int .u8 0, .int .u8 0, .int .u8 0, .slice none 0 0, .slice none 0 0, .int .i64 0] : Array Value).size = c2.size := by rw [hs2]; rfl
    have hA2 : Below w6.heap.size w6 (w6.alloc (.cells #[.int .i64 0, .int .i64 0, .slice none 0 0, .slice none 0 0, .slice none 0 0, .int .i64 0, .int .i64 0, .int .i64 0, .int .u8 0, .int .u8 0, .int .u8 0, .int .u8 0, .int .u8 0, .int .u8 0, .int .u8 0, .int .u8 0, .int .u8 0, .int .u8 0, .int .u8 0, .int .u8 0, .int .u8 0, .int .u8 0, .int .u8 0, .int .u8 0, .int .u8 0, .int .u8 0, .int .u8 0, .int .u8 0, .int .u8 0, .int .u8 0, .int .u8 0, .int .u8 0, .int .u8 0, .int .u8 0, .int .u8 0, .int .u8 0, .int .u8 0, .int .u8 0, .int .u8 0, .int .u8 0, .slice none 0 0, .slice none 0 0, .int .i64 0] 116)) := (Below.refl _ _).alloc (Nat.le_refl _) _
    have HX2 := Lib.hid (show _ ∧ Row w6 w.heap.size 116 ct ∧ _ ∧ t2v.key = t.key ∧ TxOk w6 t2v ∧ LightT t2v from ⟨HX.out.1.below hbw2, HX.out.2.1.below hbw2 HX.out.2.1.lt, HX.out.2.2.trans (hbw2.mono HX.out.2.2.size), hk2, hok2, hlt2⟩)
    have HC2 := Lib.hid hc2
    clear HX k2 hbw2 hk2 hok2 hlt2 hq2 hc2
    go_upto_region 10 with (refine wpList_storeA (b := w6.heap.size) (t := 116) (old := #[.int .i64 0, .int .i64 0, .slice none 0 0, .slice none 0 0, .slice none 0 0, .int .i64 0, .int .i64 0, .int .i64 0, .int .u8 0, .int .u8 0, .int .u8 0, .int .u8 0, .int .u8 0, .int .u8 0, .int .u8 0, .int .u8 0, .int .u8 0, .int .u8 0, .int .u8 0, .int .u8 0, .int .u8 0, .int .u8 0, .int .u8 0, .int .u8 0, .int .u8 0, .int .u8 0, .int .u8 0, .int .u8 0, .int .u8 0, .int .u8 0, .int .u8 0, .int .u8 0, .int .u8 0, .int .u8 0, .int .u8 0, .int .u8 0, .int .u8 0, .int .u8 0, .int .u8 0, .int .u8 0, .slice none 0 0, .slice none 0 0, .int .i64 0]) (cs := c2) rfl rfl rfl rfl (Row.new_at rfl) hi2 hZ2 ho2 (fun w7 rr2 tt2 => ?_))
    have hb7 := below_store hA2 tt2
    have HX3 := Lib.hid (show _ ∧ Row w7 w.heap.size 116 ct ∧ _ ∧ t2v.key = t.key ∧ TxOk w7 t2v ∧ LightT t2v ∧ Row w7 w6.heap.size 116 c2 from ⟨HX2.out.1.below hb7, HX2.out.2.1.below hb7 HX2.out.2.1.lt, HX2.out.2.2.1.trans (hb7.mono HX2.out.2.2.1.size), HX2.out.2.2.2.1, HX2.out.2.2.2.2.1.below hb7, HX2.out.2.2.2.2.2, rr2⟩)
    clear HX2 hb7 tt2 rr2 hA2 hi2 hZ2 ho2
    go_wp2_with fail
    refine (k3.out _ _ (Bs_takeT HX3.out.1 HLb.out.2.2)).mono ?_
    rintro e w8 ⟨t3v, hk3, rfl, hok3, hbw3, hlt3⟩
    have hs3 : t3v.cs.toArray.size = 43 := Txv.size hok3.c.tok
    have ho3 := Txv.one t3v
    have hq3 := hok3.keyOk
    obtain ⟨c3, hc3⟩ : ∃ A, t3v.cs.toArray = A := ⟨_, rfl⟩
    rw [hc3] at hs3 ho3 ⊢
    have hi3 := info116 hs3
    have hZ3 : (#[.int .i64 0, .int .i64 0, .slice none 0 0, .slice none 0 0, .slice none 0 0, .int .i64 0, .int .i64 0, .int .i64 0, .int .u8 0, .int .u8 0, .int .u8 0, .int .u8 0, .int .u8 0, .int .u8 0, .int .u8 0, .int .u8 0, .int .u8 0, .int .u8 0, .int .u8 0, .int .u8 0, .int .u8 0, .int .u8 0, .int .u8 0, .int .u8 0, .int .u8 0, .int .u8 0, .int .u8 0, .int .u8 0, .int .u8 0, .int .u8 0, .int .u8 0, .int .u8 0, .int .u8 0, .int .u8 0, .int .u8 0, .int .u8 0, .int .u8 0, .int .u8 0, .int .u8 0, .int .u8 0, .slice none 0 0, .slice none 0 0, .int .i64 0] : Array Value).size = c3.size := by rw [hs3]; rfl
    have hA3 : Below w8.heap.size w8 (w8.alloc (.cells #[.int .i64 0, .int .i64 0, .slice none 0 0, .slice none 0 0, .slice none 0 0, .int .i64 0, .int .i64 0, .int .i64 0, .int .u8 0, .int .u8 0, .int .u8 0, .int .u8 0, .int .u8 0, .int .u8 0, .int .u8 0, .int .u8 0, .int .u8 0, .int .u8 0, .int .u8 0, .int .u8 0, .int .u8 0, .int .u8 0, .int .u8 0, .int .u8 0, .int .u8 0, .int .u8 0, .int .u8 0, .int .u8 0, .int .u8 0, .int .u8 0, .int .u8 0, .int .u8 0, .int .u8 0, .int .u8 0, .int .u8 0, .int .u8 0, .int .u8 0, .int .u8 0, .int .u8 0, .int .u8 0, .slice none 0 0, .slice none 0 0, .int .i64 0] 116)) := (Below.refl _ _).alloc (Nat.le_refl _) _
    have hb78 := hbw3
    clear k3 hk3 hok3 hlt3 hq3 hc3 hbw3 tmn wL wj wj' hL0 hL0'
    go_upto_region 11 with (refine wpList_storeA (b := w8.heap.size) (t := 116) (old := #[.int .i64 0, .int .i64 0, .slice none 0 0, .slice none 0 0, .slice none 0 0, .int .i64 0, .int .i64 0, .int .i64 0, .int .u8 0, .int .u8 0, .int .u8 0, .int .u8 0, .int .u8 0, .int .u8 0, .int .u8 0, .int .u8 0, .int .u8 0, .int .u8 0, .int .u8 0, .int .u8 0, .int .u8 0, .int .u8 0, .int .u8 0, .int .u8 0, .int .u8 0, .int .u8 0, .int .u8 0, .int .u8 0, .int .u8 0, .int .u8 0, .int .u8 0, .int .u8 0, .int .u8 0, .int .u8 0, .int .u8 0, .int .u8 0, .int .u8 0, .int .u8 0, .int .u8 0, .int .u8 0, .slice none 0 0, .slice none 0 0, .int .i64 0]) (cs := c3) rfl rfl rfl rfl (Row.new_at rfl) hi3 hZ3 ho3 (fun w9 rr3 tt3 => ?_))
    have hb9 := hb78.trans ((below_store hA3 tt3).mono hb78.size)
    have HX4 := Lib.hid (show _ ∧ Row w9 w.heap.size 116 ct ∧ _ ∧ t2v.key = t.key ∧ TxOk w9 t2v ∧ LightT t2v ∧ Row w9 w6.heap.size 116 c2 from ⟨HX3.out.1.below hb9, HX3.out.2.1.below hb9 HX3.out.2.1.lt, HX3.out.2.2.1.trans (hb9.mono HX3.out.2.2.1.size), HX3.out.2.2.2.1, HX3.out.2.2.2.2.1.below hb9, HX3.out.2.2.2.2.2.1, HX3.out.2.2.2.2.2.2.below hb9 HX3.out.2.2.2.2.2.2.lt⟩)
    clear HX3 hb9 hb78 tt3 rr3 hA3 hi3 hZ3 ho3 hs3
    obtain ⟨y1, wA, hrun1, hoA, hlA⟩ := fresh_append HX4.out.1 (by have := HLb.out; omega)
    have hAl : Below wA.heap.size wA (wA.alloc (.cells #[.int .u8 0] 5)) := (Below.refl _ _).alloc (Nat.le_refl _) _
    obtain ⟨y2, wC, hrun2, hoC, hgC, -⟩ := append_run (hoA.below hAl) (Bs_new (w := wA) 0) (by have := HLb.out; show _ + 1 ≤ _; omega) (Nat.le_trans hlA.size hAl.size)
    have hwC : Below w9.heap.size w9 wC := hlA.trans (grew_below hlA.size (fun b hb => (hoA.lt b hb).1) hgC)
    have HX5 := Lib.hid (show _ ∧ Row wC w.heap.size 116 ct ∧ _ ∧ t2v.key = t.key ∧ TxOk wC t2v ∧ LightT t2v ∧ Row wC w6.heap.size 116 c2 from ⟨hoC.bs, HX4.out.2.1.below hwC HX4.out.2.1.lt, HX4.out.2.2.1.trans (hwC.mono HX4.out.2.2.1.size), HX4.out.2.2.2.1, HX4.out.2.2.2.2.1.below hwC, HX4.out.2.2.2.2.2.1, HX4.out.2.2.2.2.2.2.below hwC HX4.out.2.2.2.2.2.2.lt⟩)
    clear hoA hlA hAl hoC hgC hwC HX4
    go_wp2_with (at_builtin; first | refine wpList_app rfl rfl rfl rfl hrun1 ?_ | refine wpList_app rfl rfl rfl rfl hrun2 ?_)
    refine (k4.out _ _ HX5.out.1).mono ?_
    rintro e wD ⟨t4v, hk4, rfl, hok4, hbw4, hlt4⟩
    have hs4 : t4v.cs.toArray.size = 43 := Txv.size hok4.c.tok
    have ho4 := Txv.one t4v
    have hq4 := hok4.keyOk
    obtain ⟨c4, hc4⟩ : ∃ A, t4v.cs.toArray = A := ⟨_, rfl⟩
    rw [hc4] at hs4 ho4 ⊢
    have hi4 := info116 hs4
    have hZ4 : (#[.int .i64 0, .int .i64 0, .slice none 0 0, .slice none 0 0, .slice none 0 0, .int .i64 0, .int .i64 0, .int .i64 0, .int .u8 0, .int .u8 0, .int .u8 0, .int .u8 0, .int .u8 0, .int .u8 0, .int .u8 0, .int .u8 0, .int .u8 0, .int .u8 0, .int .u8 0, .int .u8 0, .int .u8 0, .int .u8 0, .int .u8 0, .int .u8 0, .int .u8 0, .int .u8 0, .int .u8 0, .int .u8 0, .int .u8 0, .int .u8 0, .int .u8 0, .int .u8 0, .int .u8 0, .int .u8 0, .int .u8 0, .int .u8 0, .int .u8 0, .int .u8 0, .int .u8 0, .int .u8 0, .slice none 0 0, .slice none 0 0, .int .i64 0] : Array Value).size = c4.size := by rw [hs4]; rfl
    have hA4 : Below wD.heap.size wD (wD.alloc (.cells #[.int .i64 0, .int .i64 0, .slice none 0 0, .slice none 0 0, .slice none 0 0, .int .i64 0, .int .i64 0, .int .i64 0, .int .u8 0, .int .u8 0, .int .u8 0, .int .u8 0, .int .u8 0, .int .u8 0, .int .u8 0, .int .u8 0, .int .u8 0, .int .u8 0, .int .u8 0, .int .u8 0, .int .u8 0, .int .u8 0, .int .u8 0, .int .u8 0, .int .u8 0, .int .u8 0, .int .u8 0, .int .u8 0, .int .u8 0, .int .u8 0, .int .u8 0, .int .u8 0, .int .u8 0, .int .u8 0, .int .u8 0, .int .u8 0, .int .u8 0, .int .u8 0, .int .u8 0, .int .u8 0, .slice none 0 0, .slice none 0 0, .int .i64 0] 116)) := (Below.refl _ _).alloc (Nat.le_refl _) _
    have hbCD := hbw4
    clear k4 hk4 hok4 hlt4 hq4 hc4 hbw4 hrun1 hrun2
    go_upto_region 12 with (refine wpList_storeA (b := wD.heap.size) (t := 116) (old := #[.int .i64 0, .int .i64 0, .slice none 0 0, .slice none 0 0, .slice none 0 0, .int .i64 0, .int .i64 0, .int .i64 0, .int .u8 0, .int .u8 0, .int .u8 0, .int .u8 0, .int .u8 0, .int .u8 0, .int .u8 0, .int .u8 0, .int .u8 0, .int .u8 0, .int .u8 0, .int .u8 0, .int .u8 0, .int .u8 0, .int .u8 0, .int .u8 0, .int .u8 0, .int .u8 0, .int .u8 0, .int .u8 0, .int .u8 0, .int .u8 0, .int .u8 0, .int .u8 0, .int .u8 0, .int .u8 0, .int .u8 0, .int .u8 0, .int .u8 0, .int .u8 0, .int .u8 0, .int .u8 0, .slice none 0 0, .slice none 0 0, .int .i64 0]) (cs := c4) rfl rfl rfl rfl (Row.new_at rfl) hi4 hZ4 ho4 (fun wE rr4 tt4 => ?_))
    have hbE := hbCD.trans ((below_store hA4 tt4).mono hbCD.size)
    have r1 := HX5.out.2.1.below hbE HX5.out.2.1.lt
    have r2 := HX5.out.2.2.2.2.2.2.below hbE HX5.out.2.2.2.2.2.2.lt
    have hl := HX5.out.2.2.1.trans (hbE.mono HX5.out.2.2.1.size)
    have HV := Lib.hid (show TxOk wE t2v from HX5.out.2.2.2.2.1.below hbE)
    have HV2 := Lib.hid (show t2v.key = t.key ∧ LightT t2v from ⟨HX5.out.2.2.2.1, HX5.out.2.2.2.2.2.1⟩)
    have kq := fun wx (hb : Below wE.heap.size wE wx) => kS.out wx t2v (HV.out.below hb) (hl.trans (hb.mono hl.size)) HV2.out.2 HV2.out.1
    rw [HC2.out] at kq
    replace kq := Lib.hid kq
    clear HX5 hbE hbCD tt4 rr4 hA4 hi4 hZ4 ho4 hs4 kS
    by_cases h96 : Lb = 4096
    · have hh := HE4.out
      rw [if_pos h96] at hh
      subst hh
      subst h96
      let L : List Sp := [sV 5 [] [] (fun u => u = .bool true), sV 25 [] [] (fun u => u = .bool true)]
      refine wp_region_six0 (shs L) (look6 L) (None_) (by kernel_rfl) (by kernel_rfl) (mk_St L [] [] (by kernel_rfl) (by kernel_rfl) ⟨ok_V ⟨_, rfl⟩, ok_V ⟨_, rfl⟩, trivial⟩ (by simp)) ?_
      intro QQ hQ
      refine stepK rfl (by kernel_rfl) (fun K hK => ?_); go_simp
      apply Exists.intro; apply And.intro; (focus (intro wk hk; go_simp; exact ⟨rfl, rfl⟩)); refine hK _ _ ?_; clear hK K
      refine stepK rfl (by kernel_rfl) (fun K hK => ?_); go_simp
      apply Exists.intro; apply And.intro; (focus (intro wk hk; go_simp; exact ⟨rfl, rfl⟩)); refine hK _ _ ?_; clear hK K
      refine stepK rfl (by kernel_rfl) (fun K hK => ?_); go_simp
      apply Exists.intro; apply And.intro; (focus (intro wk hk; go_simp; exact ⟨rfl, rfl⟩)); refine hK _ _ ?_; clear hK K
      refine stepK rfl (by kernel_rfl) (fun K hK => ?_); go_simp
      first | (refine hK _ _ ?_; clear hK K) | (apply Exists.intro; apply And.intro; (focus exact kLoad rfl rfl aggT116 r2 hs2 id); refine hK _ _ ?_; clear hK K)
      refine stepK rfl (by kernel_rfl) (fun K hK => ?_); go_simp
      first | (refine hK _ _ ?_; clear hK K) | (apply Exists.intro; apply And.intro; (focus exact kLoad rfl rfl aggT116 r1 hst id); refine hK _ _ ?_; clear hK K)
      refine stepS _ rfl (by kernel_rfl) (fun K hK => ?_); go_simp
      refine ⟨?_, ?_⟩
      · intro wk hk hg hu; go_simp; refine upon_enter ((kq.out _ hk.below).mono ?_); rintro e w' ⟨rfl, hb⟩; exact ⟨_, rfl, left_V (p := fun u => u = .bool true) rfl (hb) rfl⟩
      rintro ⟨v5, lo5, hi5⟩ - - (rfl : v5 = _)
      refine hK _ _ ?_; clear hK K
      refine stepK rfl (by kernel_rfl) (fun K hK => ?_); go_simp
      apply Exists.intro; apply And.intro; (focus (intro wk hk; go_simp; exact ⟨rfl, rfl⟩)); refine hK _ _ ?_; clear hK K
      refine stepK rfl (by kernel_rfl) (fun K hK => ?_); go_simp
      apply Exists.intro; apply And.intro; (focus (intro wk hk; go_simp; exact ⟨rfl, rfl⟩)); refine hK _ _ ?_; clear hK K
      refine stepK rfl (by kernel_rfl) (fun K hK => ?_); go_simp
      first | (refine hK _ _ ?_; clear hK K) | (apply Exists.intro; apply And.intro; (focus (intro wk hk; go_simp; exact ⟨rfl, rfl⟩)); refine hK _ _ ?_; clear hK K)
      refine stepK rfl (by kernel_rfl) (fun K hK => ?_); go_simp
      first | (refine hK _ _ ?_; clear hK K) | (apply Exists.intro; apply And.intro; (focus (intro wk hk; go_simp; exact ⟨rfl, rfl⟩)); refine hK _ _ ?_; clear hK K)
      refine stepK rfl (by kernel_rfl) (fun K hK => ?_); go_simp
      apply Exists.intro; apply And.intro; (focus (intro wk hk; go_simp; exact ⟨rfl, rfl⟩)); refine hK _ _ ?_; clear hK K
      refine stepK rfl (by kernel_rfl) (fun K hK => ?_); go_simp
      apply Exists.intro; apply And.intro; (focus (intro wk hk; go_simp; exact ⟨rfl, rfl⟩)); refine hK _ _ ?_; clear hK K
      refine stepK rfl (by kernel_rfl) (fun K hK => ?_); go_simp
      first | (refine hK _ _ ?_; clear hK K) | (apply Exists.intro; apply And.intro; (focus (intro wk hk; go_simp; exact ⟨rfl, rfl⟩)); refine hK _ _ ?_; clear hK K)
      refine stepK rfl (by kernel_rfl) (fun K hK => ?_); go_simp
      first | (refine hK _ _ ?_; clear hK K) | (apply Exists.intro; apply And.intro; (focus (intro wk hk; go_simp; exact ⟨rfl, rfl⟩)); refine hK _ _ ?_; clear hK K)
      refine stepK rfl (by kernel_rfl) (fun K hK => ?_); go_simp
      first | (refine hK _ _ ?_; clear hK K) | (apply Exists.intro; apply And.intro; (focus (intro wk hk; go_simp; exact ⟨rfl, rfl⟩)); refine hK _ _ ?_; clear hK K)
      refine stepK rfl (by kernel_rfl) (fun K hK => ?_); go_simp
      first | (refine hK _ _ ?_; clear hK K) | (apply Exists.intro; apply And.intro; (focus (intro wk hk; go_simp; exact ⟨rfl, rfl⟩)); refine hK _ _ ?_; clear hK K)
      refine stepK rfl (by kernel_rfl) (fun K hK => ?_); go_simp
      first | (refine hK _ _ ?_; clear hK K) | (apply Exists.intro; apply And.intro; (focus (intro wk hk; go_simp; exact ⟨rfl, rfl⟩)); refine hK _ _ ?_; clear hK K)
      refine stepK rfl (by kernel_rfl) (fun K hK => ?_); go_simp
      first | (refine hK _ _ ?_; clear hK K) | (apply Exists.intro; apply And.intro; (focus (intro wk hk; go_simp; exact ⟨rfl, rfl⟩)); refine hK _ _ ?_; clear hK K)
      refine stepK rfl (by kernel_rfl) (fun K hK => ?_); go_simp
      first | (refine hK _ _ ?_; clear hK K) | (apply Exists.intro; apply And.intro; (focus (intro wk hk; go_simp; exact ⟨rfl, rfl⟩)); refine hK _ _ ?_; clear hK K)
      refine stepK rfl (by kernel_rfl) (fun K hK => ?_); go_simp
      first | (refine hK _ _ ?_; clear hK K) | (apply Exists.intro; apply And.intro; (focus (intro wk hk; go_simp; exact ⟨rfl, rfl⟩)); refine hK _ _ ?_; clear hK K)
      refine stepK rfl (by kernel_rfl) (fun K hK => ?_); go_simp
      first | (refine hK _ _ ?_; clear hK K) | (apply Exists.intro; apply And.intro; (focus (intro wk hk; go_simp; exact ⟨rfl, rfl⟩)); refine hK _ _ ?_; clear hK K)
      refine stepK rfl (by kernel_rfl) (fun K hK => ?_); go_simp
      first | (refine hK _ _ ?_; clear hK K) | (apply Exists.intro; apply And.intro; (focus (intro wk hk; go_simp; exact ⟨rfl, rfl⟩)); refine hK _ _ ?_; clear hK K)
      refine stepK rfl (by kernel_rfl) (fun K hK => ?_); go_simp
      first | (refine hK _ _ ?_; clear hK K) | (apply Exists.intro; apply And.intro; (focus (intro wk hk; go_simp; exact ⟨rfl, rfl⟩)); refine hK _ _ ?_; clear hK K)
      refine stepK rfl (by kernel_rfl) (fun K hK => ?_); go_simp
      apply Exists.intro; apply And.intro; (focus (intro wk hk; go_simp; exact ⟨rfl, rfl⟩)); refine hK _ _ ?_; clear hK K
      refine stepK rfl (by kernel_rfl) (fun K hK => ?_); go_simp
      apply Exists.intro; apply And.intro; (focus (intro wk hk; go_simp; exact ⟨rfl, rfl⟩)); refine hK _ _ ?_; clear hK K
      refine stepS _ rfl (by kernel_rfl) (fun K hK => ?_); go_simp
      refine ⟨?_, ?_⟩
      · intro wk hk hg hu; go_simp; refine upon_enter ((lv.out _).mono ?_); rintro e w' ⟨rfl, hb⟩; exact ⟨_, rfl, left_V (p := fun u => u = .bool true) rfl (hb) rfl⟩
      rintro ⟨v25, lo25, hi25⟩ - - (rfl : v25 = _)
      refine hK _ _ ?_; clear hK K
      refine stepK rfl (by kernel_rfl) (fun K hK => ?_); go_simp
      apply Exists.intro; apply And.intro; (focus (intro wk hk; go_simp; exact ⟨rfl, rfl⟩)); refine hK _ _ ?_; clear hK K
      refine stepK rfl (by kernel_rfl) (fun K hK => ?_); go_simp
      apply Exists.intro; apply And.intro; (focus (intro wk hk; go_simp; exact ⟨rfl, rfl⟩)); refine hK _ _ ?_; clear hK K
      refine stepN ?_
      refine hQ _ _ ?_
      intro wF hT hG hF
      have hTb := hT.below
      have H9 := Lib.hid (hl.trans (hTb.mono hl.size))
      clear hT hG hF hQ QQ L hl r1 r2 kq hTb
      go_wp2_with fail
      go_ret
      exact ⟨by first | rfl | (simp; done), H9.out⟩
    · have hh := HE4.out
      rw [if_neg h96] at hh
      subst hh
      let L : List Sp := [sV 5 [] [] (fun u => u = .bool true), sV 25 [] [] (fun u => u = .bool true)]
      refine wp_region_six0 (shs L) (look6 L) (None_) (by kernel_rfl) (by kernel_rfl) (mk_St L [] [] (by kernel_rfl) (by kernel_rfl) ⟨ok_V ⟨_, rfl⟩, ok_V ⟨_, rfl⟩, trivial⟩ (by simp)) ?_
      intro QQ hQ
      refine stepK rfl (by kernel_rfl) (fun K hK => ?_); go_simp
      apply Exists.intro; apply And.intro; (focus (intro wk hk; go_simp; exact ⟨rfl, rfl⟩)); refine hK _ _ ?_; clear hK K
      refine stepK rfl (by kernel_rfl) (fun K hK => ?_); go_simp
      apply Exists.intro; apply And.intro; (focus (intro wk hk; go_simp; exact ⟨rfl, rfl⟩)); refine hK _ _ ?_; clear hK K
      refine stepK rfl (by kernel_rfl) (fun K hK => ?_); go_simp
      apply Exists.intro; apply And.intro; (focus (intro wk hk; go_simp; exact ⟨rfl, rfl⟩)); refine hK _ _ ?_; clear hK K
      refine stepK rfl (by kernel_rfl) (fun K hK => ?_); go_simp
      first | (refine hK _ _ ?_; clear hK K) | (apply Exists.intro; apply And.intro; (focus exact kLoad rfl rfl aggT116 r2 hs2 id); refine hK _ _ ?_; clear hK K)
      refine stepK rfl (by kernel_rfl) (fun K hK => ?_); go_simp
      first | (refine hK _ _ ?_; clear hK K) | (apply Exists.intro; apply And.intro; (focus exact kLoad rfl rfl aggT116 r1 hst id); refine hK _ _ ?_; clear hK K)
      refine stepS _ rfl (by kernel_rfl) (fun K hK => ?_); go_simp
      refine ⟨?_, ?_⟩
      · intro wk hk hg hu; go_simp; refine upon_enter ((kq.out _ hk.below).mono ?_); rintro e w' ⟨rfl, hb⟩; exact ⟨_, rfl, left_V (p := fun u => u = .bool true) rfl (hb) rfl⟩
      rintro ⟨v5, lo5, hi5⟩ - - (rfl : v5 = _)
      refine hK _ _ ?_; clear hK K
      refine stepK rfl (by kernel_rfl) (fun K hK => ?_); go_simp
      apply Exists.intro; apply And.intro; (focus (intro wk hk; go_simp; exact ⟨rfl, rfl⟩)); refine hK _ _ ?_; clear hK K
      refine stepK rfl (by kernel_rfl) (fun K hK => ?_); go_simp
      apply Exists.intro; apply And.intro; (focus (intro wk hk; go_simp; exact ⟨rfl, rfl⟩)); refine hK _ _ ?_; clear hK K
      refine stepK rfl (by kernel_rfl) (fun K hK => ?_); go_simp
      first | (refine hK _ _ ?_; clear hK K) | (apply Exists.intro; apply And.intro; (focus (intro wk hk; go_simp; exact ⟨rfl, rfl⟩)); refine hK _ _ ?_; clear hK K)
      refine stepK rfl (by kernel_rfl) (fun K hK => ?_); go_simp
      first | (refine hK _ _ ?_; clear hK K) | (apply Exists.intro; apply And.intro; (focus (intro wk hk; go_simp; exact ⟨rfl, rfl⟩)); refine hK _ _ ?_; clear hK K)
      refine stepK rfl (by kernel_rfl) (fun K hK => ?_); go_simp
      apply Exists.intro; apply And.intro; (focus (intro wk hk; go_simp; exact ⟨rfl, rfl⟩)); refine hK _ _ ?_; clear hK K
      refine stepK rfl (by kernel_rfl) (fun K hK => ?_); go_simp
      apply Exists.intro; apply And.intro; (focus (intro wk hk; go_simp; exact ⟨rfl, rfl⟩)); refine hK _ _ ?_; clear hK K
      refine stepK rfl (by kernel_rfl) (fun K hK => ?_); go_simp
      first | (refine hK _ _ ?_; clear hK K) | (apply Exists.intro; apply And.intro; (focus (intro wk hk; go_simp; exact ⟨rfl, rfl⟩)); refine hK _ _ ?_; clear hK K)
      refine stepK rfl (by kernel_rfl) (fun K hK => ?_); go_simp
      first | (refine hK _ _ ?_; clear hK K) | (apply Exists.intro; apply And.intro; (focus (intro wk hk; go_simp; exact ⟨rfl, rfl⟩)); refine hK _ _ ?_; clear hK K)
      refine stepK rfl (by kernel_rfl) (fun K hK => ?_); go_simp
      first | (refine hK _ _ ?_; clear hK K) | (apply Exists.intro; apply And.intro; (focus (intro wk hk; go_simp; exact ⟨rfl, rfl⟩)); refine hK _ _ ?_; clear hK K)
      refine stepK rfl (by kernel_rfl) (fun K hK => ?_); go_simp
      first | (refine hK _ _ ?_; clear hK K) | (apply Exists.intro; apply And.intro; (focus (intro wk hk; go_simp; exact ⟨rfl, rfl⟩)); refine hK _ _ ?_; clear hK K)
      refine stepK rfl (by kernel_rfl) (fun K hK => ?_); go_simp
      first | (refine hK _ _ ?_; clear hK K) | (apply Exists.intro; apply And.intro; (focus (intro wk hk; go_simp; exact ⟨rfl, rfl⟩)); refine hK _ _ ?_; clear hK K)
      refine stepK rfl (by kernel_rfl) (fun K hK => ?_); go_simp
      first | (refine hK _ _ ?_; clear hK K) | (apply Exists.intro; apply And.intro; (focus (intro wk hk; go_simp; exact ⟨rfl, rfl⟩)); refine hK _ _ ?_; clear hK K)
      refine stepK rfl (by kernel_rfl) (fun K hK => ?_); go_simp
      first | (refine hK _ _ ?_; clear hK K) | (apply Exists.intro; apply And.intro; (focus (intro wk hk; go_simp; exact ⟨rfl, rfl⟩)); refine hK _ _ ?_; clear hK K)
      refine stepK rfl (by kernel_rfl) (fun K hK => ?_); go_simp
      first | (refine hK _ _ ?_; clear hK K) | (apply Exists.intro; apply And.intro; (focus (intro wk hk; go_simp; exact ⟨rfl, rfl⟩)); refine hK _ _ ?_; clear hK K)
      refine stepK rfl (by kernel_rfl) (fun K hK => ?_); go_simp
      first | (refine hK _ _ ?_; clear hK K) | (apply Exists.intro; apply And.intro; (focus (intro wk hk; go_simp; exact ⟨rfl, rfl⟩)); refine hK _ _ ?_; clear hK K)
      refine stepK rfl (by kernel_rfl) (fun K hK => ?_); go_simp
      first | (refine hK _ _ ?_; clear hK K) | (apply Exists.intro; apply And.intro; (focus (intro wk hk; go_simp; exact ⟨rfl, rfl⟩)); refine hK _ _ ?_; clear hK K)
      refine stepK rfl (by kernel_rfl) (fun K hK => ?_); go_simp
      first | (refine hK _ _ ?_; clear hK K) | (apply Exists.intro; apply And.intro; (focus (intro wk hk; go_simp; exact ⟨rfl, rfl⟩)); refine hK _ _ ?_; clear hK K)
      refine stepK rfl (by kernel_rfl) (fun K hK => ?_); go_simp
      apply Exists.intro; apply And.intro; (focus (intro wk hk; go_simp; exact ⟨rfl, rfl⟩)); refine hK _ _ ?_; clear hK K
      refine stepK rfl (by kernel_rfl) (fun K hK => ?_); go_simp
      apply Exists.intro; apply And.intro; (focus (intro wk hk; go_simp; exact ⟨rfl, rfl⟩)); refine hK _ _ ?_; clear hK K
      refine stepS _ rfl (by kernel_rfl) (fun K hK => ?_); go_simp
      refine ⟨?_, ?_⟩
      · intro wk hk hg hu; go_simp; refine upon_enter ((lv.out _).mono ?_); rintro e w' ⟨rfl, hb⟩; exact ⟨_, rfl, left_V (p := fun u => u = .bool true) rfl (hb) rfl⟩
      rintro ⟨v25, lo25, hi25⟩ - - (rfl : v25 = _)
      refine hK _ _ ?_; clear hK K
      refine stepK rfl (by kernel_rfl) (fun K hK => ?_); go_simp
      apply Exists.intro; apply And.intro; (focus (intro wk hk; go_simp; exact ⟨rfl, rfl⟩)); refine hK _ _ ?_; clear hK K
      refine stepK rfl (by kernel_rfl) (fun K hK => ?_); go_simp
      apply Exists.intro; apply And.intro; (focus (intro wk hk; go_simp; exact ⟨rfl, rfl⟩)); refine hK _ _ ?_; clear hK K
      refine stepN ?_
      refine hQ _ _ ?_
      intro wF hT hG hF
      have hTb := hT.below
      have H9 := Lib.hid (hl.trans (hTb.mono hl.size))
      clear hT hG hF hQ QQ L hl r1 r2 kq hTb
      go_wp2_with fail
      go_ret
      exact ⟨by first | rfl | (simp; done), H9.out⟩
  · have hne : (e1 == 0) = false := by rw [beq_eq_false_iff_ne]; exact hE
    let L : List Sp := []
    refine wp_region_six (shs L) (look6 L) (None_) (by kernel_rfl) (by kernel_rfl) (mk_St L [] [] (by kernel_rfl) (by kernel_rfl) trivial (by simp)) ?_
    intro QQ hQ
    refine stepK rfl (by kernel_rfl) (fun K hK => ?_); go_simp
    apply Exists.intro; apply And.intro; (focus (intro wk hk; go_simp; exact ⟨rfl, rfl⟩)); refine hK _ _ ?_; clear hK K
    refine stepK rfl (by kernel_rfl) (fun K hK => ?_); go_simp
    apply Exists.intro; apply And.intro; (focus (intro wk hk; go_simp; exact ⟨rfl, rfl⟩)); refine hK _ _ ?_; clear hK K
    refine stepK rfl (by kernel_rfl) (fun K hK => ?_); go_simp
    apply Exists.intro; apply And.intro; (focus (intro wk hk; go_simp; exact ⟨rfl, rfl⟩)); refine hK _ _ ?_; clear hK K
    refine stepK rfl (by kernel_rfl) (fun K hK => ?_); go_simp
    first | (refine hK _ _ ?_; clear hK K) | (apply Exists.intro; apply And.intro; (focus (intro wk hk; go_simp; exact ⟨rfl, rfl⟩)); refine hK _ _ ?_; clear hK K)
    refine stepK rfl (by kernel_rfl) (fun K hK => ?_); go_simp
    first | (refine hK _ _ ?_; clear hK K) | (apply Exists.intro; apply And.intro; (focus (intro wk hk; go_simp; exact ⟨rfl, rfl⟩)); refine hK _ _ ?_; clear hK K)
    refine stepK rfl (by kernel_rfl) (fun K hK => ?_); go_simp
    first | (refine hK _ _ ?_; clear hK K) | (apply Exists.intro; apply And.intro; (focus (intro wk hk; go_simp; exact ⟨rfl, rfl⟩)); refine hK _ _ ?_; clear hK K)
    refine stepK rfl (by kernel_rfl) (fun K hK => ?_); go_simp
    first | (refine hK _ _ ?_; clear hK K) | (apply Exists.intro; apply And.intro; (focus (intro wk hk; go_simp; exact ⟨rfl, rfl⟩)); refine hK _ _ ?_; clear hK K)
    refine stepK rfl (by kernel_rfl) (fun K hK => ?_); go_simp
    first | (refine hK _ _ ?_; clear hK K) | (apply Exists.intro; apply And.intro; (focus (intro wk hk; go_simp; exact ⟨rfl, rfl⟩)); refine hK _ _ ?_; clear hK K)
    refine stepK rfl (by kernel_rfl) (fun K hK => ?_); go_simp
    first | (refine hK _ _ ?_; clear hK K) | (apply Exists.intro; apply And.intro; (focus (intro wk hk; go_simp; exact ⟨rfl, rfl⟩)); refine hK _ _ ?_; clear hK K)
    refine stepK rfl (by kernel_rfl) (fun K hK => ?_); go_simp
    apply Exists.intro; apply And.intro; (focus (intro wk hk; go_simp; exact ⟨rfl, rfl⟩)); refine hK _ _ ?_; clear hK K
    refine stepN ?_
    refine hQ _ _ ?_
    intro w4 hT hG hF
    have hb4 := hT.undrew.below
    replace r1 := r1.below hb4 r1.lt
    replace hl := hl.trans (hb4.mono hl.size)
    clear hT hG hF hQ QQ L hb4 rr1 hs1 HK1 HK3 HC1 HE1
    go_wp2_with (refine wpList_loadA rfl rfl rfl aggT116 r1 hst ?_)
    refine (kB.out _ hl hL).mono ?_
    rintro e w5 ⟨x, rfl, hox, hb5⟩
    replace r1 := r1.below hb5 r1.lt
    replace hl := hl.trans (hb5.mono hl.size)
    clear kB hb5
    by_cases hP0 : P = []
    · subst hP0
      obtain ⟨qx, cx, hx⟩ := own_sl hox
      simp only [List.length_nil] at hx
      subst hx
      have H5 := Lib.hid hl
      clear hl r1 hox HTO hkey kS HP
      go_wp2_with fail
      refine (lv.out _).mono ?_
      rintro e wz ⟨rfl, hbz⟩
      have Hz := Lib.hid (H5.out.trans (hbz.mono H5.out.size))
      clear hbz
      go_wp2_with fail
      go_ret
      exact ⟨rfl, Hz.out⟩
    have hpos := bytK_pos (t := t.key) (by rw [HP.out]; exact hP0)
    rw [HP.out] at hpos
    obtain ⟨hg, hle, hPe⟩ := hpos
    have hPby : By P := by rw [hPe]; exact hkey.out.2
    have hp1 := prT_put hkey.out.1 hg hle
    have hp2 := fun (j : Nat) (hj : j < (putK t.key).length) => prT_cut hkey.out.1 hg hle hj
    have hp3 := prT_more hkey.out.1 hg hle
    rw [← hPe] at hle hp1 hp2 hp3
    obtain ⟨Lb, hLb⟩ : ∃ L, P.length = L := ⟨_, rfl⟩
    have hLb0 : 0 < Lb := by rw [← hLb]; exact List.length_pos_iff.2 hP0
    obtain ⟨gx, cx, hx, hlc, hcm⟩ := own_someT hox (by rw [hLb]; omega)
    rw [hLb] at hx hlc hle hp2 hp3
    subst hx
    obtain ⟨j, hj⟩ : ∃ j, n % Lb = j := ⟨_, rfl⟩
    have hjl : j < Lb := by rw [← hj]; exact Nat.mod_lt _ (by omega)
    obtain ⟨e4, he4⟩ : ∃ e, prT (P ++ [0]) = e := ⟨_, rfl⟩
    rw [he4] at hp3
    have k2 := fun wx v (h : Bs wx v P) => txparse_at v P wx h hPby (by omega)
    have k3 := fun wx v (h : Bs wx v (P.take j)) => txparse_at v (P.take j) wx h (hPby.take j) (by rw [List.length_take]; omega)
    have k4 := fun wx v (h : Bs wx v (P ++ [0])) => txparse_at v (P ++ [0]) wx h (hPby.app (By.cons (by omega) By.nil)) (by rw [List.length_append]; show _ + 1 ≤ _; omega)
    simp only [hp1.1, hp1.2] at k2
    simp only [hp2 j hjl] at k3
    simp only [he4] at k4
    replace k2 := Lib.hid k2
    replace k3 := Lib.hid k3
    replace k4 := Lib.hid k4
    have tmn : ((n : Int)).tmod (Lb : Int) = (j : Int) := by rw [Int.tmod_eq_emod_of_nonneg (by omega), ← hj]; omega
    have wL : IntKind.u64.wrap (Lb : Int) = (Lb : Int) := by rw [IntKind.wrap_u64]; omega
    have wj : IntKind.u64.wrap (j : Int) = (j : Int) := by rw [IntKind.wrap_u64]; omega
    have wj' : IntKind.i64.wrap (j : Int) = (j : Int) := by rw [IntKind.wrap_i64]; omega
    have hL0 : ((Lb : Int) == 0) = false := by rw [beq_eq_false_iff_ne]; omega
    have hL0' : ¬ ((Lb : Int) = 0) := by omega
    have hLi : (Lb : Int) ≤ 4096 := by omega
    have hjle : (j : Int) ≤ (Lb : Int) := by omega
    have hjc : (j : Int) ≤ (cx : Int) := by omega
    have hcm' : (cx : Int) ≤ 9223372036854775807 := by simp only [maxLen] at hcm; omega
    have HLb := Lib.hid (show P.length = Lb ∧ Lb ≤ 4096 ∧ j ≤ Lb from ⟨hLb, hle, by omega⟩)
    have HX := Lib.hid (show _ ∧ Row w5 w.heap.size 116 ct ∧ _ from ⟨hox.bs, r1, hl⟩)
    have HE4 := Lib.hid hp3
    clear hox r1 hl hlc hcm hLb hle hp1 hp2 hp3 he4 hPby hg hPe hP0 hj hLb0 HP
    go_wp2_with fail
    refine (k2.out _ _ HX.out.1).mono ?_
    rintro e w6 ⟨t2v, hk2, rfl, hok2, hbw2, hlt2⟩
    have hs2 : t2v.cs.toArray.size = 43 := Txv.size hok2.c.tok
    have ho2 := Txv.one t2v
    have hq2 := hok2.keyOk
    obtain ⟨c2, hc2⟩ : ∃ A, t2v.cs.toArray = A := ⟨_, rfl⟩
    rw [hc2] at hs2 ho2 ⊢
    have hi2 := info116 hs2
    have hZ2 : (#[.int .i64 0, .int .i64 0, .slice none 0 0, .slice none 0 0, .slice none 0 0, .int .i64 0, .int .i64 0, .int .i64 0, .int .u8 0, .int .u8 0, .int .u8 0, .int .u8 0, .int .u8 0, .int .u8 0, .int .u8 0, .int .u8 0, .int .u8 0, .int .u8 0, .int .u8 0, .int .u8 0, .int .u8 0, .int .u8 0, .int .u8 0, .int .u8 0, .int .u8 0, .int .u8 0, .int .u8 0, .int .u8 0, .int .u8 0, .int .u8 0, .int .u8 0, .int .u8 0, .int .u8 0, .int .u8 0, .int .u8 0, .int .u8 0, .int .u8 0, .int .u8 0, .int .u8 0, .int .u8 0, .slice none 0 0, .slice none 0 0, .int .i64 0] : Array Value).size = c2.size := by rw [hs2]; rfl
    have hA2 : Below w6.heap.size w6 (w6.alloc (.cells #[.int .i64 0, .int .i64 0, .slice none 0 0, .slice none 0 0, .slice none 0 0, .int .i64 0, .int .i64 0, .int .i64 0, .int .u8 0, .int .u8 0, .int .u8 0, .int .u8 0, .int .u8 0, .int .u8 0, .int .u8 0, .int .u8 0, .int .u8 0, .int .u8 0, .int .u8 0, .int .u8 0, .int .u8 0, .int .u8 0, .int .u8 0, .int .u8 0, .int .u8 0, .int .u8 0, .int .u8 0, .int .u8 0, .int .u8 0, .int .u8 0, .int .u8 0, .int .u8 0, .int .u8 0, .int .u8 0, .int .u8 0, .int .u8 0, .int .u8 0, .int .u8 0, .int .u8 0, .int .u8 0, .slice none 0 0, .slice none 0 0, .int .i64 0] 116)) := (Below.refl _ _).alloc (Nat.le_refl _) _
    have HX2 := Lib.hid (show _ ∧ Row w6 w.heap.size 116 ct ∧ _ ∧ t2v.key = t.key ∧ TxOk w6 t2v ∧ LightT t2v from ⟨HX.out.1.below hbw2, HX.out.2.1.below hbw2 HX.out.2.1.lt, HX.out.2.2.trans (hbw2.mono HX.out.2.2.size), hk2, hok2, hlt2⟩)
    have HC2 := Lib.hid hc2
    clear HX k2 hbw2 hk2 hok2 hlt2 hq2 hc2
    go_upto_region 10 with (refine wpList_storeA (b := w6.heap.size) (t := 116) (old := #[.int .i64 0, .int .i64 0, .slice none 0 0, .slice none 0 0, .slice none 0 0, .int .i64 0, .int .i64 0, .int .i64 0, .int .u8 0, .int .u8 0, .int .u8 0, .int .u8 0, .int .u8 0, .int .u8 0, .int .u8 0, .int .u8 0, .int .u8 0, .int .u8 0, .int .u8 0, .int .u8 0, .int .u8 0, .int .u8 0, .int .u8 0, .int .u8 0, .int .u8 0, .int .u8 0, .int .u8 0, .int .u8 0, .int .u8 0, .int .u8 0, .int .u8 0, .int .u8 0, .int .u8 0, .int .u8 0, .int .u8 0, .int .u8 0, .int .u8 0, .int .u8 0, .int .u8 0, .int .u8 0, .slice none 0 0, .slice none 0 0, .int .i64 0]) (cs := c2) rfl rfl rfl rfl (Row.new_at rfl) hi2 hZ2 ho2 (fun w7 rr2 tt2 => ?_))
    have hb7 := below_store hA2 tt2
    have HX3 := Lib.hid (show _ ∧ Row w7 w.heap.size 116 ct ∧ _ ∧ t2v.key = t.key ∧ TxOk w7 t2v ∧ LightT t2v ∧ Row w7 w6.heap.size 116 c2 from ⟨HX2.out.1.below hb7, HX2.out.2.1.below hb7 HX2.out.2.1.lt, HX2.out.2.2.1.trans (hb7.mono HX2.out.2.2.1.size), HX2.out.2.2.2.1, HX2.out.2.2.2.2.1.below hb7, HX2.out.2.2.2.2.2, rr2⟩)
    clear HX2 hb7 tt2 rr2 hA2 hi2 hZ2 ho2
    go_wp2_with fail
    refine (k3.out _ _ (Bs_takeT HX3.out.1 HLb.out.2.2)).mono ?_
    rintro e w8 ⟨t3v, hk3, rfl, hok3, hbw3, hlt3⟩
    have hs3 : t3v.cs.toArray.size = 43 := Txv.size hok3.c.tok
    have ho3 := Txv.one t3v
    have hq3 := hok3.keyOk
    obtain ⟨c3, hc3⟩ : ∃ A, t3v.cs.toArray = A := ⟨_, rfl⟩
    rw [hc3] at hs3 ho3 ⊢
    have hi3 := info116 hs3
    have hZ3 : (#[.int .i64 0, .int .i64 0, .slice none 0 0, .slice none 0 0, .slice none 0 0, .int .i64 0, .int .i64 0, .int .i64 0, .int .u8 0, .int .u8 0, .int .u8 0, .int .u8 0, .int .u8 0, .int .u8 0, .int .u8 0, .int .u8 0, .int .u8 0, .int .u8 0, .int .u8 0, .int .u8 0, .int .u8 0, .int .u8 0, .int .u8 0, .int .u8 0, .int .u8 0, .int .u8 0, .int .u8 0, .int .u8 0, .int .u8 0, .int .u8 0, .int .u8 0, .int .u8 0, .int .u8 0, .int .u8 0, .int .u8 0, .int .u8 0, .int .u8 0, .int .u8 0, .int .u8 0, .int .u8 0, .slice none 0 0, .slice none 0 0, .int .i64 0] : Array Value).size = c3.size := by rw [hs3]; rfl
    have hA3 : Below w8.heap.size w8 (w8.alloc (.cells #[.int .i64 0, .int .i64 0, .slice none 0 0, .slice none 0 0, .slice none 0 0, .int .i64 0, .int .i64 0, .int .i64 0, .int .u8 0, .int .u8 0, .int .u8 0, .int .u8 0, .int .u8 0, .int .u8 0, .int .u8 0, .int .u8 0, .int .u8 0, .int .u8 0, .int .u8 0, .int .u8 0, .int .u8 0, .int .u8 0, .int .u8 0, .int .u8 0, .int .u8 0, .int .u8 0, .int .u8 0, .int .u8 0, .int .u8 0, .int .u8 0, .int .u8 0, .int .u8 0, .int .u8 0, .int .u8 0, .int .u8 0, .int .u8 0, .int .u8 0, .int .u8 0, .int .u8 0, .int .u8 0, .slice none 0 0, .slice none 0 0, .int .i64 0] 116)) := (Below.refl _ _).alloc (Nat.le_refl _) _
    have hb78 := hbw3
    clear k3 hk3 hok3 hlt3 hq3 hc3 hbw3 tmn wL wj wj' hL0 hL0'
    go_upto_region 11 with (refine wpList_storeA (b := w8.heap.size) (t := 116) (old := #[.int .i64 0, .int .i64 0, .slice none 0 0, .slice none 0 0, .slice none 0 0, .int .i64 0, .int .i64 0, .int .i64 0, .int .u8 0, .int .u8 0, .int .u8 0, .int .u8 0, .int .u8 0, .int .u8 0, .int .u8 0, .int .u8 0, .int .u8 0, .int .u8 0, .int .u8 0, .int .u8 0, .int .u8 0, .int .u8 0, .int .u8 0, .int .u8 0, .int .u8 0, .int .u8 0, .int .u8 0, .int .u8 0, .int .u8 0, .int .u8 0, .int .u8 0, .int .u8 0, .int .u8 0, .int .u8 0, .int .u8 0, .int .u8 0, .int .u8 0, .int .u8 0, .int .u8 0, .int .u8 0, .slice none 0 0, .slice none 0 0, .int .i64 0]) (cs := c3) rfl rfl rfl rfl (Row.new_at rfl) hi3 hZ3 ho3 (fun w9 rr3 tt3 => ?_))
    have hb9 := hb78.trans ((below_store hA3 tt3).mono hb78.size)
    have HX4 := Lib.hid (show _ ∧ Row w9 w.heap.size 116 ct ∧ _ ∧ t2v.key = t.key ∧ TxOk w9 t2v ∧ LightT t2v ∧ Row w9 w6.heap.size 116 c2 from ⟨HX3.out.1.below hb9, HX3.out.2.1.below hb9 HX3.out.2.1.lt, HX3.out.2.2.1.trans (hb9.mono HX3.out.2.2.1.size), HX3.out.2.2.2.1, HX3.out.2.2.2.2.1.below hb9, HX3.out.2.2.2.2.2.1, HX3.out.2.2.2.2.2.2.below hb9 HX3.out.2.2.2.2.2.2.lt⟩)
    clear HX3 hb9 hb78 tt3 rr3 hA3 hi3 hZ3 ho3 hs3
    obtain ⟨y1, wA, hrun1, hoA, hlA⟩ := fresh_append HX4.out.1 (by have := HLb.out; omega)
    have hAl : Below wA.heap.size wA (wA.alloc (.cells #[.int .u8 0] 5)) := (Below.refl _ _).alloc (Nat.le_refl _) _
    obtain ⟨y2, wC, hrun2, hoC, hgC, -⟩ := append_run (hoA.below hAl) (Bs_new (w := wA) 0) (by have := HLb.out; show _ + 1 ≤ _; omega) (Nat.le_trans hlA.size hAl.size)
    have hwC : Below w9.heap.size w9 wC := hlA.trans (grew_below hlA.size (fun b hb => (hoA.lt b hb).1) hgC)
    have HX5 := Lib.hid (show _ ∧ Row wC w.heap.size 116 ct ∧ _ ∧ t2v.key = t.key ∧ TxOk wC t2v ∧ LightT t2v ∧ Row wC w6.heap.size 116 c2 from ⟨hoC.bs, HX4.out.2.1.below hwC HX4.out.2.1.lt, HX4.out.2.2.1.trans (hwC.mono HX4.out.2.2.1.size), HX4.out.2.2.2.1, HX4.out.2.2.2.2.1.below hwC, HX4.out.2.2.2.2.2.1, HX4.out.2.2.2.2.2.2.below hwC HX4.out.2.2.2.2.2.2.lt⟩)
    clear hoA hlA hAl hoC hgC hwC HX4
    go_wp2_with (at_builtin; first | refine wpList_app rfl rfl rfl rfl hrun1 ?_ | refine wpList_app rfl rfl rfl rfl hrun2 ?_)
    refine (k4.out _ _ HX5.out.1).mono ?_
    rintro e wD ⟨t4v, hk4, rfl, hok4, hbw4, hlt4⟩
    have hs4 : t4v.cs.toArray.size = 43 := Txv.size hok4.c.tok
    have ho4 := Txv.one t4v
    have hq4 := hok4.keyOk
    obtain ⟨c4, hc4⟩ : ∃ A, t4v.cs.toArray = A := ⟨_, rfl⟩
    rw [hc4] at hs4 ho4 ⊢
    have hi4 := info116 hs4
    have hZ4 : (#[.int .i64 0, .int .i64 0, .slice none 0 0, .slice none 0 0, .slice none 0 0, .int .i64 0, .int .i64 0, .int .i64 0, .int .u8 0, .int .u8 0, .int .u8 0, .int .u8 0, .int .u8 0, .int .u8 0, .int .u8 0, .int .u8 0, .int .u8 0, .int .u8 0, .int .u8 0, .int .u8 0, .int .u8 0, .int .u8 0, .int .u8 0, .int .u8 0, .int .u8 0, .int .u8 0, .int .u8 0, .int .u8 0, .int .u8 0, .int .u8 0, .int .u8 0, .int .u8 0, .int .u8 0, .int .u8 0, .int .u8 0, .int .u8 0, .int .u8 0, .int .u8 0, .int .u8 0, .int .u8 0, .slice none 0 0, .slice none 0 0, .int .i64 0] : Array Value).size = c4.size := by rw [hs4]; rfl
    have hA4 : Below wD.heap.size wD (wD.alloc (.cells #[.int .i64 0, .int .i64 0, .slice none 0 0, .slice none 0 0, .slice none 0 0, .int .i64 0, .int .i64 0, .int .i64 0, .int .u8 0, .int .u8 0, .int .u8 0, .int .u8 0, .int .u8 0, .int .u8 0, .int .u8 0, .int .u8 0, .int .u8 0, .int .u8 0, .int .u8 0, .int .u8 0, .int .u8 0, .int .u8 0, .int .u8 0, .int .u8 0, .int .u8 0, .int .u8 0, .int .u8 0, .int .u8 0, .int .u8 0, .int .u8 0, .int .u8 0, .int .u8 0, .int .u8 0, .int .u8 0, .int .u8 0, .int .u8 0, .int .u8 0, .int .u8 0, .int .u8 0, .int .u8 0, .slice none 0 0, .slice none 0 0, .int .i64 0] 116)) := (Below.refl _ _).alloc (Nat.le_refl _) _
    have hbCD := hbw4
    clear k4 hk4 hok4 hlt4 hq4 hc4 hbw4 hrun1 hrun2
    go_upto_region 12 with (refine wpList_storeA (b := wD.heap.size) (t := 116) (old := #[.int .i64 0, .int .i64 0, .slice none 0 0, .slice none 0 0, .slice none 0 0, .int .i64 0, .int .i64 0, .int .i64 0, .int .u8 0, .int .u8 0, .int .u8 0, .int .u8 0, .int .u8 0, .int .u8 0, .int .u8 0, .int .u8 0, .int .u8 0, .int .u8 0, .int .u8 0, .int .u8 0, .int .u8 0, .int .u8 0, .int .u8 0, .int .u8 0, .int .u8 0, .int .u8 0, .int .u8 0, .int .u8 0, .int .u8 0, .int .u8 0, .int .u8 0, .int .u8 0, .int .u8 0, .int .u8 0, .int .u8 0, .int .u8 0, .int .u8 0, .int .u8 0, .int .u8 0, .int .u8 0, .slice none 0 0, .slice none 0 0, .int .i64 0]) (cs := c4) rfl rfl rfl rfl (Row.new_at rfl) hi4 hZ4 ho4 (fun wE rr4 tt4 => ?_))
    have hbE := hbCD.trans ((below_store hA4 tt4).mono hbCD.size)
    have r1 := HX5.out.2.1.below hbE HX5.out.2.1.lt
    have r2 := HX5.out.2.2.2.2.2.2.below hbE HX5.out.2.2.2.2.2.2.lt
    have hl := HX5.out.2.2.1.trans (hbE.mono HX5.out.2.2.1.size)
    have HV := Lib.hid (show TxOk wE t2v from HX5.out.2.2.2.2.1.below hbE)
    have HV2 := Lib.hid (show t2v.key = t.key ∧ LightT t2v from ⟨HX5.out.2.2.2.1, HX5.out.2.2.2.2.2.1⟩)
    have kq := fun wx (hb : Below wE.heap.size wE wx) => kS.out wx t2v (HV.out.below hb) (hl.trans (hb.mono hl.size)) HV2.out.2 HV2.out.1
    rw [HC2.out] at kq
    replace kq := Lib.hid kq
    clear HX5 hbE hbCD tt4 rr4 hA4 hi4 hZ4 ho4 hs4 kS
    by_cases h96 : Lb = 4096
    · have hh := HE4.out
      rw [if_pos h96] at hh
      subst hh
      subst h96
      let L : List Sp := [sV 5 [] [] (fun u => u = .bool true), sV 25 [] [] (fun u => u = .bool true)]
      refine wp_region_six0 (shs L) (look6 L) (None_) (by kernel_rfl) (by kernel_rfl) (mk_St L [] [] (by kernel_rfl) (by kernel_rfl) ⟨ok_V ⟨_, rfl⟩, ok_V ⟨_, rfl⟩, trivial⟩ (by simp)) ?_
      intro QQ hQ
      refine stepK rfl (by kernel_rfl) (fun K hK => ?_); go_simp
      apply Exists.intro; apply And.intro; (focus (intro wk hk; go_simp; exact ⟨rfl, rfl⟩)); refine hK _ _ ?_; clear hK K
      refine stepK rfl (by kernel_rfl) (fun K hK => ?_); go_simp
      apply Exists.intro; apply And.intro; (focus (intro wk hk; go_simp; exact ⟨rfl, rfl⟩)); refine hK _ _ ?_; clear hK K
      refine stepK rfl (by kernel_rfl) (fun K hK => ?_); go_simp
      apply Exists.intro; apply And.intro; (focus (intro wk hk; go_simp; exact ⟨rfl, rfl⟩)); refine hK _ _ ?_; clear hK K
      refine stepK rfl (by kernel_rfl) (fun K hK => ?_); go_simp
      first | (refine hK _ _ ?_; clear hK K) | (apply Exists.intro; apply And.intro; (focus exact kLoad rfl rfl aggT116 r2 hs2 id); refine hK _ _ ?_; clear hK K)
      refine stepK rfl (by kernel_rfl) (fun K hK => ?_); go_simp
      first | (refine hK _ _ ?_; clear hK K) | (apply Exists.intro; apply And.intro; (focus exact kLoad rfl rfl aggT116 r1 hst id); refine hK _ _ ?_; clear hK K)
      refine stepS _ rfl (by kernel_rfl) (fun K hK => ?_); go_simp
      refine ⟨?_, ?_⟩
      · intro wk hk hg hu; go_simp; refine upon_enter ((kq.out _ hk.below).mono ?_); rintro e w' ⟨rfl, hb⟩; exact ⟨_, rfl, left_V (p := fun u => u = .bool true) rfl (hb) rfl⟩
      rintro ⟨v5, lo5, hi5⟩ - - (rfl : v5 = _)
      refine hK _ _ ?_; clear hK K
      refine stepK rfl (by kernel_rfl) (fun K hK => ?_); go_simp
      apply Exists.intro; apply And.intro; (focus (intro wk hk; go_simp; exact ⟨rfl, rfl⟩)); refine hK _ _ ?_; clear hK K
      refine stepK rfl (by kernel_rfl) (fun K hK => ?_); go_simp
      apply Exists.intro; apply And.intro; (focus (intro wk hk; go_simp; exact ⟨rfl, rfl⟩)); refine hK _ _ ?_; clear hK K
      refine stepK rfl (by kernel_rfl) (fun K hK => ?_); go_simp
      first | (refine hK _ _ ?_; clear hK K) | (apply Exists.intro; apply And.intro; (focus (intro wk hk; go_simp; exact ⟨rfl, rfl⟩)); refine hK _ _ ?_; clear hK K)
      refine stepK rfl (by kernel_rfl) (fun K hK => ?_); go_simp
      first | (refine hK _ _ ?_; clear hK K) | (apply Exists.intro; apply And.intro; (focus (intro wk hk; go_simp; exact ⟨rfl, rfl⟩)); refine hK _ _ ?_; clear hK K)
      refine stepK rfl (by kernel_rfl) (fun K hK => ?_); go_simp
      apply Exists.intro; apply And.intro; (focus (intro wk hk; go_simp; exact ⟨rfl, rfl⟩)); refine hK _ _ ?_; clear hK K
      refine stepK rfl (by kernel_rfl) (fun K hK => ?_); go_simp
      apply Exists.intro; apply And.intro; (focus (intro wk hk; go_simp; exact ⟨rfl, rfl⟩)); refine hK _ _ ?_; clear hK K
      refine stepK rfl (by kernel_rfl) (fun K hK => ?_); go_simp
      first | (refine hK _ _ ?_; clear hK K) | (apply Exists.intro; apply And.intro; (focus (intro wk hk; go_simp; exact ⟨rfl, rfl⟩)); refine hK _ _ ?_; clear hK K)
      refine stepK rfl (by kernel_rfl) (fun K hK => ?_); go_simp
      first | (refine hK _ _ ?_; clear hK K) | (apply Exists.intro; apply And.intro; (focus (intro wk hk; go_simp; exact ⟨rfl, rfl⟩)); refine hK _ _ ?_; clear hK K)
      refine stepK rfl (by kernel_rfl) (fun K hK => ?_); go_simp
      first | (refine hK _ _ ?_; clear hK K) | (apply Exists.intro; apply And.intro; (focus (intro wk hk; go_simp; exact ⟨rfl, rfl⟩)); refine hK _ _ ?_; clear hK K)
      refine stepK rfl (by kernel_rfl) (fun K hK => ?_); go_simp
      first | (refine hK _ _ ?_; clear hK K) | (apply Exists.intro; apply And.intro; (focus (intro wk hk; go_simp; exact ⟨rfl, rfl⟩)); refine hK _ _ ?_; clear hK K)
      refine stepK rfl (by kernel_rfl) (fun K hK => ?_); go_simp
      first | (refine hK _ _ ?_; clear hK K) | (apply Exists.intro; apply And.intro; (focus (intro wk hk; go_simp; exact ⟨rfl, rfl⟩)); refine hK _ _ ?_; clear hK K)
      refine stepK rfl (by kernel_rfl) (fun K hK => ?_); go_simp
      first | (refine hK _ _ ?_; clear hK K) | (apply Exists.intro; apply And.intro; (focus (intro wk hk; go_simp; exact ⟨rfl, rfl⟩)); refine hK _ _ ?_; clear hK K)
      refine stepK rfl (by kernel_rfl) (fun K hK => ?_); go_simp
      first | (refine hK _ _ ?_; clear hK K) | (apply Exists.intro; apply And.intro; (focus (intro wk hk; go_simp; exact ⟨rfl, rfl⟩)); refine hK _ _ ?_; clear hK K)
      refine stepK rfl (by kernel_rfl) (fun K hK => ?_); go_simp
      first | (refine hK _ _ ?_; clear hK K) | (apply Exists.intro; apply And.intro; (focus (intro wk hk; go_simp; exact ⟨rfl, rfl⟩)); refine hK _ _ ?_; clear hK K)
      refine stepK rfl (by kernel_rfl) (fun K hK => ?_); go_simp
      first | (refine hK _ _ ?_; clear hK K) | (apply Exists.intro; apply And.intro; (focus (intro wk hk; go_simp; exact ⟨rfl, rfl⟩)); refine hK _ _ ?_; clear hK K)
      refine stepK rfl (by kernel_rfl) (fun K hK => ?_); go_simp
      first | (refine hK _ _ ?_; clear hK K) | (apply Exists.intro; apply And.intro; (focus (intro wk hk; go_simp; exact ⟨rfl, rfl⟩)); refine hK _ _ ?_; clear hK K)
      refine stepK rfl (by kernel_rfl) (fun K hK => ?_); go_simp
      first | (refine hK _ _ ?_; clear hK K) | (apply Exists.intro; apply And.intro; (focus (intro wk hk; go_simp; exact ⟨rfl, rfl⟩)); refine hK _ _ ?_; clear hK K)
      refine stepK rfl (by kernel_rfl) (fun K hK => ?_); go_simp
      apply Exists.intro; apply And.intro; (focus (intro wk hk; go_simp; exact ⟨rfl, rfl⟩)); refine hK _ _ ?_; clear hK K
      refine stepK rfl (by kernel_rfl) (fun K hK => ?_); go_simp
      apply Exists.intro; apply And.intro; (focus (intro wk hk; go_simp; exact ⟨rfl, rfl⟩)); refine hK _ _ ?_; clear hK K
      refine stepS _ rfl (by kernel_rfl) (fun K hK => ?_); go_simp
      refine ⟨?_, ?_⟩
      · intro wk hk hg hu; go_simp; refine upon_enter ((lv.out _).mono ?_); rintro e w' ⟨rfl, hb⟩; exact ⟨_, rfl, left_V (p := fun u => u = .bool true) rfl (hb) rfl⟩
      rintro ⟨v25, lo25, hi25⟩ - - (rfl : v25 = _)
      refine hK _ _ ?_; clear hK K
      refine stepK rfl (by kernel_rfl) (fun K hK => ?_); go_simp
      apply Exists.intro; apply And.intro; (focus (intro wk hk; go_simp; exact ⟨rfl, rfl⟩)); refine hK _ _ ?_; clear hK K
      refine stepK rfl (by kernel_rfl) (fun K hK => ?_); go_simp
      apply Exists.intro; apply And.intro; (focus (intro wk hk; go_simp; exact ⟨rfl, rfl⟩)); refine hK _ _ ?_; clear hK K
      refine stepN ?_
      refine hQ _ _ ?_
      intro wF hT hG hF
      have hTb := hT.below
      have H9 := Lib.hid (hl.trans (hTb.mono hl.size))
      clear hT hG hF hQ QQ L hl r1 r2 kq hTb
      go_wp2_with fail
      go_ret
      exact ⟨by first | rfl | (simp; done), H9.out⟩
    · have hh := HE4.out
      rw [if_neg h96] at hh
      subst hh
      let L : List Sp := [sV 5 [] [] (fun u => u = .bool true), sV 25 [] [] (fun u => u = .bool true)]
      refine wp_region_six0 (shs L) (look6 L) (None_) (by kernel_rfl) (by kernel_rfl) (mk_St L [] [] (by kernel_rfl) (by kernel_rfl) ⟨ok_V ⟨_, rfl⟩, ok_V ⟨_, rfl⟩, trivial⟩ (by simp)) ?_
      intro QQ hQ
      refine stepK rfl (by kernel_rfl) (fun K hK => ?_); go_simp
      apply Exists.intro; apply And.intro; (focus (intro wk hk; go_simp; exact ⟨rfl, rfl⟩)); refine hK _ _ ?_; clear hK K
      refine stepK rfl (by kernel_rfl) (fun K hK => ?_); go_simp
      apply Exists.intro; apply And.intro; (focus (intro wk hk; go_simp; exact ⟨rfl, rfl⟩)); refine hK _ _ ?_; clear hK K
      refine stepK rfl (by kernel_rfl) (fun K hK => ?_); go_simp
      apply Exists.intro; apply And.intro; (focus (intro wk hk; go_simp; exact ⟨rfl, rfl⟩)); refine hK _ _ ?_; clear hK K
      refine stepK rfl (by kernel_rfl) (fun K hK => ?_); go_simp
      first | (refine hK _ _ ?_; clear hK K) | (apply Exists.intro; apply And.intro; (focus exact kLoad rfl rfl aggT116 r2 hs2 id); refine hK _ _ ?_; clear hK K)
      refine stepK rfl (by kernel_rfl) (fun K hK => ?_); go_simp
      first | (refine hK _ _ ?_; clear hK K) | (apply Exists.intro; apply And.intro; (focus exact kLoad rfl rfl aggT116 r1 hst id); refine hK _ _ ?_; clear hK K)
      refine stepS _ rfl (by kernel_rfl) (fun K hK => ?_); go_simp
      refine ⟨?_, ?_⟩
      · intro wk hk hg hu; go_simp; refine upon_enter ((kq.out _ hk.below).mono ?_); rintro e w' ⟨rfl, hb⟩; exact ⟨_, rfl, left_V (p := fun u => u = .bool true) rfl (hb) rfl⟩
      rintro ⟨v5, lo5, hi5⟩ - - (rfl : v5 = _)
      refine hK _ _ ?_; clear hK K
      refine stepK rfl (by kernel_rfl) (fun K hK => ?_); go_simp
      apply Exists.intro; apply And.intro; (focus (intro wk hk; go_simp; exact ⟨rfl, rfl⟩)); refine hK _ _ ?_; clear hK K
      refine stepK rfl (by kernel_rfl) (fun K hK => ?_); go_simp
      apply Exists.intro; apply And.intro; (focus (intro wk hk; go_simp; exact ⟨rfl, rfl⟩)); refine hK _ _ ?_; clear hK K
      refine stepK rfl (by kernel_rfl) (fun K hK => ?_); go_simp
      first | (refine hK _ _ ?_; clear hK K) | (apply Exists.intro; apply And.intro; (focus (intro wk hk; go_simp; exact ⟨rfl, rfl⟩)); refine hK _ _ ?_; clear hK K)
      refine stepK rfl (by kernel_rfl) (fun K hK => ?_); go_simp
      first | (refine hK _ _ ?_; clear hK K) | (apply Exists.intro; apply And.intro; (focus (intro wk hk; go_simp; exact ⟨rfl, rfl⟩)); refine hK _ _ ?_; clear hK K)
      refine stepK rfl (by kernel_rfl) (fun K hK => ?_); go_simp
      apply Exists.intro; apply And.intro; (focus (intro wk hk; go_simp; exact ⟨rfl, rfl⟩)); refine hK _ _ ?_; clear hK K
      refine stepK rfl (by kernel_rfl) (fun K hK => ?_); go_simp
      apply Exists.intro; apply And.intro; (focus (intro wk hk; go_simp; exact ⟨rfl, rfl⟩)); refine hK _ _ ?_; clear hK K
      refine stepK rfl (by kernel_rfl) (fun K hK => ?_); go_simp
      first | (refine hK _ _ ?_; clear hK K) | (apply Exists.intro; apply And.intro; (focus (intro wk hk; go_simp; exact ⟨rfl, rfl⟩)); refine hK _ _ ?_; clear hK K)
      refine stepK rfl (by kernel_rfl) (fun K hK => ?_); go_simp
      first | (refine hK _ _ ?_; clear hK K) | (apply Exists.intro; apply And.intro; (focus (intro wk hk; go_simp; exact ⟨rfl, rfl⟩)); refine hK _ _ ?_; clear hK K)
      refine stepK rfl (by kernel_rfl) (fun K hK => ?_); go_simp
      first | (refine hK _ _ ?_; clear hK K) | (apply Exists.intro; apply And.intro; (focus (intro wk hk; go_simp; exact ⟨rfl, rfl⟩)); refine hK _ _ ?_; clear hK K)
      refine stepK rfl (by kernel_rfl) (fun K hK => ?_); go_simp
      first | (refine hK _ _ ?_; clear hK K) | (apply Exists.intro; apply And.intro; (focus (intro wk hk; go_simp; exact ⟨rfl, rfl⟩)); refine hK _ _ ?_; clear hK K)
      refine stepK rfl (by kernel_rfl) (fun K hK => ?_); go_simp
      first | (refine hK _ _ ?_; clear hK K) | (apply Exists.intro; apply And.intro; (focus (intro wk hk; go_simp; exact ⟨rfl, rfl⟩)); refine hK _ _ ?_; clear hK K)
      refine stepK rfl (by kernel_rfl) (fun K hK => ?_); go_simp
      first | (refine hK _ _ ?_; clear hK K) | (apply Exists.intro; apply And.intro; (focus (intro wk hk; go_simp; exact ⟨rfl, rfl⟩)); refine hK _ _ ?_; clear hK K)
      refine stepK rfl (by kernel_rfl) (fun K hK => ?_); go_simp
      first | (refine hK _ _ ?_; clear hK K) | (apply Exists.intro; apply And.intro; (focus (intro wk hk; go_simp; exact ⟨rfl, rfl⟩)); refine hK _ _ ?_; clear hK K)
      refine stepK rfl (by kernel_rfl) (fun K hK => ?_); go_simp
      first | (refine hK _ _ ?_; clear hK K) | (apply Exists.intro; apply And.intro; (focus (intro wk hk; go_simp; exact ⟨rfl, rfl⟩)); refine hK _ _ ?_; clear hK K)
      refine stepK rfl (by kernel_rfl) (fun K hK => ?_); go_simp
      first | (refine hK _ _ ?_; clear hK K) | (apply Exists.intro; apply And.intro; (focus (intro wk hk; go_simp; exact ⟨rfl, rfl⟩)); refine hK _ _ ?_; clear hK K)
      refine stepK rfl (by kernel_rfl) (fun K hK => ?_); go_simp
      first | (refine hK _ _ ?_; clear hK K) | (apply Exists.intro; apply And.intro; (focus (intro wk hk; go_simp; exact ⟨rfl, rfl⟩)); refine hK _ _ ?_; clear hK K)
      refine stepK rfl (by kernel_rfl) (fun K hK => ?_); go_simp
      first | (refine hK _ _ ?_; clear hK K) | (apply Exists.intro; apply And.intro; (focus (intro wk hk; go_simp; exact ⟨rfl, rfl⟩)); refine hK _ _ ?_; clear hK K)
      refine stepK rfl (by kernel_rfl) (fun K hK => ?_); go_simp
      apply Exists.intro; apply And.intro; (focus (intro wk hk; go_simp; exact ⟨rfl, rfl⟩)); refine hK _ _ ?_; clear hK K
      refine stepK rfl (by kernel_rfl) (fun K hK => ?_); go_simp
      apply Exists.intro; apply And.intro; (focus (intro wk hk; go_simp; exact ⟨rfl, rfl⟩)); refine hK _ _ ?_; clear hK K
      refine stepS _ rfl (by kernel_rfl) (fun K hK => ?_); go_simp
      refine ⟨?_, ?_⟩
      · intro wk hk hg hu; go_simp; refine upon_enter ((lv.out _).mono ?_); rintro e w' ⟨rfl, hb⟩; exact ⟨_, rfl, left_V (p := fun u => u = .bool true) rfl (hb) rfl⟩
      rintro ⟨v25, lo25, hi25⟩ - - (rfl : v25 = _)
      refine hK _ _ ?_; clear hK K
      refine stepK rfl (by kernel_rfl) (fun K hK => ?_); go_simp
      apply Exists.intro; apply And.intro; (focus (intro wk hk; go_simp; exact ⟨rfl, rfl⟩)); refine hK _ _ ?_; clear hK K
      refine stepK rfl (by kernel_rfl) (fun K hK => ?_); go_simp
      apply Exists.intro; apply And.intro; (focus (intro wk hk; go_simp; exact ⟨rfl, rfl⟩)); refine hK _ _ ?_; clear hK K
      refine stepN ?_
      refine hQ _ _ ?_
      intro wF hT hG hF
      have hTb := hT.below
      have H9 := Lib.hid (hl.trans (hTb.mono hl.size))
      clear hT hG hF hQ QQ L hl r1 r2 kq hTb
      go_wp2_with fail
      go_ret
      exact ⟨by first | rfl | (simp; done), H9.out⟩
end Go.Proofs.Ytpdenhmkpiafiaa
