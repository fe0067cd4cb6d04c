/-
 What the statement rests on, part 13: TxParR.
-/
import Derived.Test.YtpdenhmkpiafiaaQTR8
import Derived.Test.YtpdenhmkpiafiaaQTR11
namespace Go.Proofs.Ytpdenhmkpiafiaa
open Go Go.RowKit K6
set_option maxRecDepth 100000 in
set_option maxHeartbeats 64000000 in
theorem rtxparse_at (u : Value) (xs : List Int) (qb : Option Nat) (w : World) (hv : SRv w qb u xs) (hqb : ∀ b, qb = some b → b < w.heap.size) (hby : By xs) (hL : xs.length ≤ 1000000) :
  Calls Try.prog 155 #[u] w (ParT w (prK xs) (prT xs)) := by
 obtain ⟨q, cu, rfl, -, -⟩ := hv.bs
 obtain ⟨n0, hn0⟩ : ∃ n, xs.length = n := ⟨_, rfl⟩
 rw [hn0] at hv ⊢
 have hA : Below w.heap.size w (w.alloc (.cells #[.int .i64 0, .int .i64 0, .slice none 0 0, .slice none 0 0, .slice none 0 0, .int .i64 0, .int .i64 0, .int .i64 0, .int .u8 0, .int .u8 0, .int .u8 0, .int .u8 0, .int .u8 0, .int .u8 0, .int .u8 0, .int .u8 0, .int .u8 0, .int .u8 0, .int .u8 0, .int .u8 0, .int .u8 0, .int .u8 0, .int .u8 0, .int .u8 0, .int .u8 0, .int .u8 0, .int .u8 0, .int .u8 0, .int .u8 0, .int .u8 0, .int .u8 0, .int .u8 0, .int .u8 0, .int .u8 0, .int .u8 0, .int .u8 0, .int .u8 0, .int .u8 0, .int .u8 0, .int .u8 0, .slice none 0 0, .slice none 0 0, .int .i64 0] 116)) := (Below.refl _ _).alloc (Nat.le_refl _) _
 have hz : #[.int .i64 0, .int .i64 0, .slice none 0 0, .slice none 0 0, .slice none 0 0, .int .i64 0, .int .i64 0, .int .i64 0, .int .u8 0, .int .u8 0, .int .u8 0, .int .u8 0, .int .u8 0, .int .u8 0, .int .u8 0, .int .u8 0, .int .u8 0, .int .u8 0, .int .u8 0, .int .u8 0, .int .u8 0, .int .u8 0, .int .u8 0, .int .u8 0, .int .u8 0, .int .u8 0, .int .u8 0, .int .u8 0, .int .u8 0, .int .u8 0, .int .u8 0, .int .u8 0, .int .u8 0, .int .u8 0, .int .u8 0, .int .u8 0, .int .u8 0, .int .u8 0, .int .u8 0, .int .u8 0, .slice none 0 0, .slice none 0 0, .int .i64 0] = tx0.cs.toArray := by kernel_rfl
 have r0 : Row (w.alloc (.cells #[.int .i64 0, .int .i64 0, .slice none 0 0, .slice none 0 0, .slice none 0 0, .int .i64 0, .int .i64 0, .int .i64 0, .int .u8 0, .int .u8 0, .int .u8 0, .int .u8 0, .int .u8 0, .int .u8 0, .int .u8 0, .int .u8 0, .int .u8 0, .int .u8 0, .int .u8 0, .int .u8 0, .int .u8 0, .int .u8 0, .int .u8 0, .int .u8 0, .int .u8 0, .int .u8 0, .int .u8 0, .int .u8 0, .int .u8 0, .int .u8 0, .int .u8 0, .int .u8 0, .int .u8 0, .int .u8 0, .int .u8 0, .int .u8 0, .int .u8 0, .int .u8 0, .int .u8 0, .int .u8 0, .slice none 0 0, .slice none 0 0, .int .i64 0] 116)) w.heap.size 116 tx0.cs.toArray := by rw [← hz]; exact Row.new_at rfl
 by_cases hlong : 4096 < n0
 ·obtain ⟨e1, e2⟩ := prT_long (xs := xs) (by omega)
  rw [e1, e2]
  have hli : (4096 : Int) < (n0 : Int) := by omega
  have H0 := Lib.hid (show _ ∧ _ from ⟨hA, r0⟩)
  clear hv hqb hby hL hn0 hlong e1 e2 hA r0 hz
  go_enter Try.func155, Try.ntmps155
  go_upto_region 2 with (fail)
  refine wp_abs (fun wx => Below w.heap.size w wx ∧ Row wx w.heap.size 116 tx0.cs.toArray) ⟨H0.out.1, H0.out.2⟩ ?_
  rintro w0 ⟨hl, r0⟩
  clear H0
  let L : List Sp := [sO 1 (w.heap.size) 116 [0] (fun g => aggOf g 0)]
  refine wp_region_six0 (shs L) (look6 L) (fun c => c = w.heap.size) (by kernel_rfl) (by kernel_rfl) (mk_St L [1] [1] (by kernel_rfl) (by kernel_rfl) ⟨ok_O aggOf_congr r0.lt (rfl), trivial⟩ (by simp)) ?_
  intro QQ hQ
  refine stepK rfl (by kernel_rfl) (fun K hK => ?_); go_simp
  apply Exists.intro; apply And.intro; (focus (intro wk hk; go_simp; exact ⟨rfl, rfl⟩)); refine hK _ _ ?_; clear hK K
  refine stepS _ rfl (by kernel_rfl) (fun K hK => ?_); go_simp
  refine ⟨?_, ?_⟩
  ·exact sStoreO rfl rfl rfl rfl rfl rfl r0 id (by kernel_rfl) (by rw [Txv.size rfl]; rfl) (by kernel_rfl) (by decide) aggOf_congr
  rintro ⟨v1, lo1, hi1⟩ - - (rfl : v1 = undef)
  refine hK _ _ ?_; clear hK K
  refine stepKz rfl (fun K hK => ?_); go_simp
  apply Exists.intro; apply And.intro; (focus (intro wk hk; go_simp; exact ⟨rfl, rfl⟩)); refine hK _ _ ?_; clear hK K
  refine stepN ?_
  refine hQ _ _ ?_
  intro w9 hT hG hF
  have hT' := hT
  have x0 : Row w9 (w.heap.size) 116 (#[.int .i64 0, .int .i64 0, .slice none 0 0, .slice none 0 0, .slice none 0 0, .int .i64 0, .int .i64 0, .int .i64 0, .int .u8 0, .int .u8 0, .int .u8 0, .int .u8 0, .int .u8 0, .int .u8 0, .int .u8 0, .int .u8 0, .int .u8 0, .int .u8 0, .int .u8 0, .int .u8 0, .int .u8 0, .int .u8 0, .int .u8 0, .int .u8 0, .int .u8 0, .int .u8 0, .int .u8 0, .int .u8 0, .int .u8 0, .int .u8 0, .int .u8 0, .int .u8 0, .int .u8 0, .int .u8 0, .int .u8 0, .int .u8 0, .int .u8 0, .int .u8 0, .int .u8 0, .int .u8 0, .slice none 0 0, .slice none 0 0, .int .i64 0]) := hF 1 _ rfl rfl (by decide)
  have H9 := Lib.hid (hl.trans (hT'.below_of hl.size (by intro c hc; have hc' : c = w.heap.size := hc; omega)))
  clear hT hT' hG hF hQ QQ L hl r0 
  go_wp2_with fail
  refine bodyPost_ret (results_ct rfl aggT116 rfl x0 rfl) rfl ?_
  exact ⟨tx0, rfl, by rw [tx0_csR]; first | done | rfl, tx0_ok _, H9.out, tx0_light⟩
 have hpt := prT_short (xs := xs) (by omega)
 rw [hpt]
 obtain ⟨k, ea1, xa1, hg1⟩ := tri (gV 28 (0, xs))
 obtain ⟨f, ea2, xa2, hg2⟩ := tri (gV 4294967295 (ea1, xa1))
 have hsn := shp_n (k : Int)
 have hsm := shp_moreR (k : Int)
 have kO := fun wx => rof15_at (k : Int) wx
 unfold OfP at kO
 obtain ⟨S, hS⟩ : ∃ S, shpOf (k : Int) = S := ⟨_, rfl⟩
 rw [hS] at kO hsn hsm
 obtain ⟨sn, st, sa, se, sh, sc⟩ := S
 simp only [Shp.cs] at kO hsn hsm
 obtain ⟨qn, rfl⟩ : ∃ q : Nat, sn = (q : Int) := ⟨sn.toNat, by omega⟩
 obtain ⟨qa, rfl⟩ : ∃ q : Nat, sa = (q : Int) := ⟨sa.toNat, by omega⟩
 obtain ⟨qh, rfl⟩ : ∃ q : Nat, sh = (q : Int) := ⟨sh.toNat, by omega⟩
 obtain ⟨ok, hok⟩ : ∃ b, okK (k : Int) = b := ⟨_, rfl⟩
 rw [hok] at kO
 have ik := gV_I64 28 (0, xs)
 rw [hg1] at ik
 have if_ := gV_I64 4294967295 (ea1, xa1)
 rw [hg2] at if_
 obtain ⟨N1, ea3, xa3, hg3⟩ := tri (gMany (gN 1099511627776) qn (ea2, xa2))
 have iN1 := gNs_I64 qn (ea2, xa2)
 have lN1 := gMany_len (gN 1099511627776) qn (ea2, xa2)
 rw [hg3] at iN1 lN1
 simp only at iN1 lN1 ik if_
 obtain ⟨tl, ea4, xa4, hg4, htl⟩ : ∃ (tl : Nat) (e4 : Int) (x4 : List Int), gTail st (ea3, xa3) = ((tl : Int), e4, x4) ∧ tl ≤ 8 := by
  cases st
  ·exact ⟨0, ea3, xa3, rfl, by omega⟩
  ·obtain ⟨a, b, c, h⟩ := tri (gV 8 (ea3, xa3))
   have h1 := gV_most (most := 8) (s := (ea3, xa3)) (by decide)
   rw [h] at h1
   simp only at h1
   exact ⟨a, b, c, by show gN 8 (ea3, xa3) = _; unfold gN; rw [h], by omega⟩
 obtain ⟨N2, ea5, xa5, hg5⟩ := tri (gMany (gN 1099511627776) tl (ea4, xa4))
 have iN2 := gNs_I64 tl (ea4, xa4)
 have lN2 := gMany_len (gN 1099511627776) tl (ea4, xa4)
 rw [hg5] at iN2 lN2
 simp only at iN2 lN2
 obtain ⟨am, ham⟩ : ∃ am : Nat, (if se = true then (tl : Int) else (qa : Int)) = (am : Int) := by cases se; exact ⟨qa, rfl⟩; exact ⟨tl, rfl⟩
 have ham10 : am ≤ 10 := by
  have h1 := hsm.1
  have h2 : (am : Int) = tl ∨ (am : Int) = qa := by rw [← ham]; cases se; exact .inr rfl; exact .inl rfl
  omega
 obtain ⟨LA, ea6, xa6, hg6⟩ := tri (gMany gA am (ea5, xa5))
 have lA := gMany_len gA am (ea5, xa5)
 rw [hg6] at lA
 obtain ⟨LH, ea7, xa7, hg7⟩ := tri (gMany gH qh (ea6, xa6))
 have lH := gMany_len gH qh (ea6, xa6)
 rw [hg7] at lH
 simp only at lA lH
 obtain ⟨CK, ea8, xa8, hg8⟩ := tri (gCo sc (ea7, xa7))
 have lens := gCo_lens sc (ea7, xa7)
 rw [hg8] at lens
 simp only at lens
 have hTX := Lib.hid (gTx_parts (xs := xs) (k := k) (f := f) (e1 := ea1) (x1 := xa1) (e2 := ea2) (x2 := xa2) (e3 := ea3) (x3 := xa3) (e4 := ea4) (x4 := xa4) (e5 := ea5) (x5 := xa5) (e6 := ea6) (x6 := xa6) (e7 := ea7) (x7 := xa7) (e8 := ea8) (x8 := xa8) (N1 := N1) (N2 := N2) (tl := (tl : Int)) (LA := LA) (LH := LH) (CK := CK)
  (h1 := hg1) (h2 := hg2) (h3 := by rw [hS]; exact hg3) (h4 := by rw [hS]; exact hg4) (h5 := hg5) (h6 := by rw [hS]; show gMany gA (if se = true then (tl : Int) else (qa : Int)).toNat _ = _; rw [ham]; exact hg6) (h7 := by rw [hS]; exact hg7) (h8 := by rw [hS]; exact hg8))
 obtain ⟨ER, hER⟩ : ∃ x, prE xs = x := ⟨_, rfl⟩
 obtain ⟨KR, hKR⟩ : ∃ x, prK xs = x := ⟨_, rfl⟩
 rw [hER, hKR]
 have HR := Lib.hid (show prE xs = ER ∧ prK xs = KR ∧ prT xs = prE xs from ⟨hER, hKR, hpt⟩)
 have hli : (n0 : Int) ≤ 4096 := by omega
 have hA2 : Below w.heap.size w ((w.alloc (.cells #[.int .i64 0, .int .i64 0, .slice none 0 0, .slice none 0 0, .slice none 0 0, .int .i64 0, .int .i64 0, .int .i64 0, .int .u8 0, .int .u8 0, .int .u8 0, .int .u8 0, .int .u8 0, .int .u8 0, .int .u8 0, .int .u8 0, .int .u8 0, .int .u8 0, .int .u8 0, .int .u8 0, .int .u8 0, .int .u8 0, .int .u8 0, .int .u8 0, .int .u8 0, .int .u8 0, .int .u8 0, .int .u8 0, .int .u8 0, .int .u8 0, .int .u8 0, .int .u8 0, .int .u8 0, .int .u8 0, .int .u8 0, .int .u8 0, .int .u8 0, .int .u8 0, .int .u8 0, .int .u8 0, .slice none 0 0, .slice none 0 0, .int .i64 0] 116)).alloc (.cells #[.slice q n0 cu, .int .i64 0] 66)) := hA.alloc (by simp) _
 have hs0 : SR ((w.alloc (.cells #[.int .i64 0, .int .i64 0, .slice none 0 0, .slice none 0 0, .slice none 0 0, .int .i64 0, .int .i64 0, .int .i64 0, .int .u8 0, .int .u8 0, .int .u8 0, .int .u8 0, .int .u8 0, .int .u8 0, .int .u8 0, .int .u8 0, .int .u8 0, .int .u8 0, .int .u8 0, .int .u8 0, .int .u8 0, .int .u8 0, .int .u8 0, .int .u8 0, .int .u8 0, .int .u8 0, .int .u8 0, .int .u8 0, .int .u8 0, .int .u8 0, .int .u8 0, .int .u8 0, .int .u8 0, .int .u8 0, .int .u8 0, .int .u8 0, .int .u8 0, .int .u8 0, .int .u8 0, .int .u8 0, .slice none 0 0, .slice none 0 0, .int .i64 0] 116)).alloc (.cells #[.slice q n0 cu, .int .i64 0] 66)) (w.heap.size + 1) qb 0 xs := ⟨fun h => absurd rfl h, hby, by omega, (fun e => by have := hqb _ e; omega), _, Row.new_at (by simp), hv.keep (X := None_) (Tr.of hA2) fun _ _ => id⟩
 have R0 := Lib.hid (show _ ∧ _ ∧ _ ∧ _ from ⟨hA2, hs0, r0.alloc (.cells #[.slice q n0 cu, .int .i64 0] 66), (show w.heap.size + 2 ≤ ((w.alloc (.cells #[.int .i64 0, .int .i64 0, .slice none 0 0, .slice none 0 0, .slice none 0 0, .int .i64 0, .int .i64 0, .int .i64 0, .int .u8 0, .int .u8 0, .int .u8 0, .int .u8 0, .int .u8 0, .int .u8 0, .int .u8 0, .int .u8 0, .int .u8 0, .int .u8 0, .int .u8 0, .int .u8 0, .int .u8 0, .int .u8 0, .int .u8 0, .int .u8 0, .int .u8 0, .int .u8 0, .int .u8 0, .int .u8 0, .int .u8 0, .int .u8 0, .int .u8 0, .int .u8 0, .int .u8 0, .int .u8 0, .int .u8 0, .int .u8 0, .int .u8 0, .int .u8 0, .int .u8 0, .int .u8 0, .slice none 0 0, .slice none 0 0, .int .i64 0] 116)).alloc (.cells #[.slice q n0 cu, .int .i64 0] 66)).heap.size from by simp)⟩)
 have HM := Lib.hid hsm
 have HG := Lib.hid (show _ ∧ _ ∧ _ ∧ _ ∧ _ ∧ _ ∧ _ ∧ _ from ⟨hg1, hg2, hg3, hg4, hg5, hg6, hg7, hg8⟩)
 have HP := Lib.hid (show I64 (k : Int) ∧ I64 (f : Int) ∧ (∀ x ∈ N1 ++ N2, I64 x) ∧ (N1 ++ N2).length ≤ 20 ∧ LA.length ≤ 10 ∧ LH.length ≤ 10 from ⟨ik, if_, fun x hx => (List.mem_append.1 hx).elim (iN1 x) (iN2 x), by rw [List.length_append]; omega, by omega, by have h1 := hsm.2.1; omega⟩)
 have HLn := Lib.hid lens
 have HN1 := Lib.hid (show N1.length ≤ 3 from by omega)
 have HAM := Lib.hid ham
 have hqn : qn ≤ 1000 := by omega
 have hqh : qh ≤ 10 := by have h1 := hsm.2.1; omega
 replace kO := Lib.hid kO
 clear hv hby hL hlong hA hz r0 hg1 hg2 hg3 hg4 hg5 hg6 hg7 hg8 hS hok ik if_ iN1 iN2 lN1 lN2 lA lH lens hER hKR hpt hA2 hs0 hsn hsm ham hn0
 go_enter Try.func155, Try.ntmps155
 go_upto_region 4 with (fail)
 refine wp_abs (fun wx => Below w.heap.size w wx ∧ SR wx (w.heap.size + 1) qb 0 xs ∧ Row wx w.heap.size 116 tx0.cs.toArray ∧ w.heap.size + 2 ≤ wx.heap.size) ⟨R0.out.1, R0.out.2.1, R0.out.2.2.1, R0.out.2.2.2⟩ ?_
 rintro w0 ⟨hl0, hr0, hrow0, hz0⟩
 have k1 := Lib.hid (rvar_V hr0 HG.out.1)
 have H0 := Lib.hid (show _ ∧ _ from ⟨hl0, hrow0⟩)
 clear R0 hr0 hl0 hrow0
 go_wp2_with fail
 refine k1.out.mono ?_
 rintro r w2 ⟨rfl, hs, ht⟩
 have k2 := Lib.hid (rvar_V hs HG.out.2.1)
 have hsz2 := ht.size
 have H2 := Lib.hid (show Below w.heap.size w w2 ∧ Row w2 w.heap.size 116 tx0.cs.toArray from ⟨H0.out.1.trans (ht.below_of H0.out.1.size (by intro c hc; have hc' : c = w.heap.size + 1 := hc; omega)), K6.Row.tr H0.out.2 ht (by intro hc; have hc' : w.heap.size = w.heap.size + 1 := hc; omega)⟩)
 clear k1 H0 hs ht
 go_wp2_with fail
 refine k2.out.mono ?_
 rintro r w4 ⟨rfl, hs, ht⟩
 have hsz4 : w.heap.size + 2 ≤ w4.heap.size := Nat.le_trans (Nat.le_trans hz0 hsz2) ht.size
 have hA4 : Below w4.heap.size w4 (w4.alloc (.cells #[.int .i64 0, .int .i64 0, .slice none 0 0, .slice none 0 0, .slice none 0 0, .int .i64 0, .int .i64 0, .int .i64 0, .int .u8 0, .int .u8 0, .int .u8 0, .int .u8 0, .int .u8 0, .int .u8 0, .int .u8 0, .int .u8 0, .int .u8 0, .int .u8 0, .int .u8 0, .int .u8 0, .int .u8 0, .int .u8 0, .int .u8 0, .int .u8 0, .int .u8 0, .int .u8 0, .int .u8 0, .int .u8 0, .int .u8 0, .int .u8 0, .int .u8 0, .int .u8 0, .int .u8 0, .int .u8 0, .int .u8 0, .int .u8 0, .int .u8 0, .int .u8 0, .int .u8 0, .int .u8 0, .slice none 0 0, .slice none 0 0, .int .i64 0] 116)) := (Below.refl _ _).alloc (Nat.le_refl _) _
 have H4 := Lib.hid (show Below w.heap.size w w4 ∧ Row w4 w.heap.size 116 tx0.cs.toArray ∧ SR w4 (w.heap.size + 1) qb ea2 xa2 ∧ Below w4.heap.size w4 (w4.alloc (.cells #[.int .i64 0, .int .i64 0, .slice none 0 0, .slice none 0 0, .slice none 0 0, .int .i64 0, .int .i64 0, .int .i64 0, .int .u8 0, .int .u8 0, .int .u8 0, .int .u8 0, .int .u8 0, .int .u8 0, .int .u8 0, .int .u8 0, .int .u8 0, .int .u8 0, .int .u8 0, .int .u8 0, .int .u8 0, .int .u8 0, .int .u8 0, .int .u8 0, .int .u8 0, .int .u8 0, .int .u8 0, .int .u8 0, .int .u8 0, .int .u8 0, .int .u8 0, .int .u8 0, .int .u8 0, .int .u8 0, .int .u8 0, .int .u8 0, .int .u8 0, .int .u8 0, .int .u8 0, .int .u8 0, .slice none 0 0, .slice none 0 0, .int .i64 0] 116)) from ⟨H2.out.1.trans (ht.below_of H2.out.1.size (by intro c hc; have hc' : c = w.heap.size + 1 := hc; omega)), K6.Row.tr H2.out.2 ht (by intro hc; have hc' : w.heap.size = w.heap.size + 1 := hc; omega), hs, hA4⟩)
 clear k2 H2 hs ht hA4 hz0 hsz2
 go_upto_region 5 with (refine wpList_storeA (b := w4.heap.size) (t := 116) (old := #[.int .i64 0, .int .i64 0, .slice none 0 0, .slice none 0 0, .slice none 0 0, .int .i64 0, .int .i64 0, .int .i64 0, .int .u8 0, .int .u8 0, .int .u8 0, .int .u8 0, .int .u8 0, .int .u8 0, .int .u8 0, .int .u8 0, .int .u8 0, .int .u8 0, .int .u8 0, .int .u8 0, .int .u8 0, .int .u8 0, .int .u8 0, .int .u8 0, .int .u8 0, .int .u8 0, .int .u8 0, .int .u8 0, .int .u8 0, .int .u8 0, .int .u8 0, .int .u8 0, .int .u8 0, .int .u8 0, .int .u8 0, .int .u8 0, .int .u8 0, .int .u8 0, .int .u8 0, .int .u8 0, .slice none 0 0, .slice none 0 0, .int .i64 0]) (cs := #[.int .i64 (k : Int), .int .i64 (f : Int), .slice none 0 0, .slice none 0 0, .slice none 0 0, .int .i64 0, .int .i64 0, .int .i64 0, .int .u8 0, .int .u8 0, .int .u8 0, .int .u8 0, .int .u8 0, .int .u8 0, .int .u8 0, .int .u8 0, .int .u8 0, .int .u8 0, .int .u8 0, .int .u8 0, .int .u8 0, .int .u8 0, .int .u8 0, .int .u8 0, .int .u8 0, .int .u8 0, .int .u8 0, .int .u8 0, .int .u8 0, .int .u8 0, .int .u8 0, .int .u8 0, .int .u8 0, .int .u8 0, .int .u8 0, .int .u8 0, .int .u8 0, .int .u8 0, .int .u8 0, .int .u8 0, .slice none 0 0, .slice none 0 0, .int .i64 0]) rfl rfl rfl rfl (Row.new_at rfl) (by kernel_rfl) rfl (by kernel_rfl) (fun wz rz tz => ?_))
 have hb4 := below_store H4.out.2.2.2 tz
 have c0 := (rz.cell 0).trans (show _ = some (Value.int .i64 (k : Int)) from rfl)
 have hrz : Row wz w4.heap.size 116 (⟨(k : Int), (f : Int), none, 0, [], none, 0, [], none, 0, [], cm0⟩ : Txv).cs.toArray := Row.congr rz (by rfl)
 have hwz := hb4.size
 have H5 := Lib.hid (show Below w.heap.size w wz ∧ Row wz w.heap.size 116 tx0.cs.toArray ∧ SR wz (w.heap.size + 1) qb ea2 xa2 ∧ Row wz w4.heap.size 116 (⟨(k : Int), (f : Int), none, 0, [], none, 0, [], none, 0, [], cm0⟩ : Txv).cs.toArray from ⟨H4.out.1.trans (hb4.mono H4.out.1.size), H4.out.2.1.below hb4 H4.out.2.1.lt, H4.out.2.2.1.below hb4, hrz⟩)
 clear H4 tz rz hb4 hrz
 go_wp2_with fail
 refine (kO.out _).mono ?_
 rintro r w5 ⟨rfl, hb5⟩
 have hs45 : w4.heap.size + 1 ≤ w5.heap.size := Nat.le_trans (Nat.succ_le_of_lt H5.out.2.2.2.lt) hb5.size
 have hA5 : Below w5.heap.size w5 (w5.alloc (.cells #[.int .i64 0, .bool false, .int .i64 0, .bool false, .int .i64 0, .bool false] 118)) := (Below.refl _ _).alloc (Nat.le_refl _) _
 have H6 := Lib.hid (show Below w.heap.size w w5 ∧ Row w5 w.heap.size 116 tx0.cs.toArray ∧ SR w5 (w.heap.size + 1) qb ea2 xa2 ∧ Row w5 w4.heap.size 116 (⟨(k : Int), (f : Int), none, 0, [], none, 0, [], none, 0, [], cm0⟩ : Txv).cs.toArray ∧ Below w5.heap.size w5 (w5.alloc (.cells #[.int .i64 0, .bool false, .int .i64 0, .bool false, .int .i64 0, .bool false] 118)) from ⟨H5.out.1.trans (hb5.mono H5.out.1.size), H5.out.2.1.below hb5 H5.out.2.1.lt, H5.out.2.2.1.below hb5, H5.out.2.2.2.below hb5 H5.out.2.2.2.lt, hA5⟩)
 clear H5 c0 hb5 kO hA5 hwz
 go_upto_region 6 with (refine wpList_storeA (b := w5.heap.size) (t := 118) (old := #[.int .i64 0, .bool false, .int .i64 0, .bool false, .int .i64 0, .bool false]) (cs := #[.int .i64 (qn : Int), .bool st, .int .i64 (qa : Int), .bool se, .int .i64 (qh : Int), .bool sc]) rfl rfl rfl rfl (Row.new_at rfl) (by kernel_rfl) rfl (by kernel_rfl) (fun w6 rx tz => ?_))
 have hb6 := below_store H6.out.2.2.2.2 tz
 obtain ⟨TA, hTA⟩ : ∃ A, (⟨(k : Int), (f : Int), none, 0, [], none, 0, [], none, 0, [], cm0⟩ : Txv).cs.toArray = A := ⟨_, rfl⟩
 have hTs : TA.size = 43 := by rw [← hTA]; exact Txv.size rfl
 have hst0 : TA.setIfInBounds 2 (.slice none 0 0) = TA := set_self' (by rw [← hTA]; exact tA2 (⟨(k : Int), (f : Int), none, 0, [], none, 0, [], none, 0, [], cm0⟩ : Txv))
 have dTA := Lib.hid (show 2 < TA.size by omega)
 have H7 := Lib.hid (show Below w.heap.size w w6 ∧ Row w6 w.heap.size 116 tx0.cs.toArray from ⟨H6.out.1.trans (hb6.mono H6.out.1.size), H6.out.2.1.below hb6 H6.out.2.1.lt⟩)
 have HL := Lib.hid (show LpR Oi w6 w6 (w.heap.size + 1) w4.heap.size w5.heap.size (w5.heap.size + 1) 2 qb (#[.int .i64 (qn : Int), .bool st, .int .i64 (qa : Int), .bool se, .int .i64 (qh : Int), .bool sc]) TA (.slice none 0 0) ea2 xa2 [] from ⟨Oi.nil _ _, H6.out.2.2.1.below hb6, by rw [hst0, ← hTA]; exact H6.out.2.2.2.1.below hb6 H6.out.2.2.2.1.lt, rx, Tr.refl _ _, Nat.succ_le_of_lt rx.lt⟩)
 have hTA2 := Lib.hid hTA
 have hgm := Lib.hid HG.out.2.2.1
 have hlen0 : ([] : List Int).length + qn ≤ 1000 := by show 0 + qn ≤ 1000; omega
 clear H6 tz rx hb6 hTA hTs hst0
 go_upto_block 0 with fail
 go_cut [8] (fun sl wx => ∃ (y : Int) (v : Value), sl = .int .i64 y ∧ Hid (LpR Oi w6 wx (w.heap.size + 1) w4.heap.size w5.heap.size (w5.heap.size + 1) 2 qb (#[.int .i64 (qn : Int), .bool st, .int .i64 (qa : Int), .bool se, .int .i64 (qh : Int), .bool sc]) TA v ea3 xa3 (([]) ++ N1)))
 case first =>
  go_wp2_with fail
  go_loopg [8] qn (fun gg sl wr => ∃ (i : Nat) (es : Int) (ys : List Int) (v : Value) (K : List Int), i + gg = qn ∧ sl = .int .i64 (i : Int) ∧ Hid (LpI (gN 1099511627776) Oi w6 wr (w.heap.size + 1) w4.heap.size w5.heap.size (w5.heap.size + 1) 2 qb (#[.int .i64 (qn : Int), .bool st, .int .i64 (qa : Int), .bool se, .int .i64 (qh : Int), .bool sc]) TA v gg ([]) N1 ea3 xa3 es ys K))
  case atStart => exact ⟨0, ea2, xa2, (.slice none 0 0), [], by omega, rfl, Lib.hid ⟨by rw [List.append_nil]; exact HL.out, MI.start hgm.out, by rw [List.append_nil]; exact hlen0⟩⟩
  case round =>
   clear HL hgm hlen0
   obtain ⟨i, es, ys, v, K, him, rfl, hinv⟩ := hrel
   have cE := hinv.out.lp.src.e1
   have e0 := hinv.out.lp.rx.cell 0
   by_cases hi' : i < qn
   ·obtain ⟨gn, rfl⟩ : ∃ gn, gk = gn + 1 := ⟨gk - 1, by omega⟩
    have hlt : (i : Int) < (qn : Int) := by omega
    by_cases hes : es = 0
    ·subst hes
     have hi0 : i ≤ 1000 := by omega
     go_upto_region 9 with (fail)
     obtain ⟨⟨own, src, r1, rx, tr, hsz⟩, mi, hlen⟩ := hinv.out
     clear hinv cE e0
     have hqw : ∀ b, qb = some b → b < wr.heap.size := fun b hb => by have := hqb b hb; omega
     obtain ⟨a, eb, yb, hg4⟩ := tri (gV 1099511627776 (0, ys))
     have hgo : (gN 1099511627776) (0, ys) = ((a : Int), eb, yb) := by unfold gN; rw [hg4]
     have ka := fun wk (hk : Tr None_ wr wk) => rvar_V (src.keep hk id (fun _ _ => id)) hg4
     replace ka := Lib.hid ka
     obtain ⟨KK, hKK⟩ : ∃ l, ([]) ++ K = l := ⟨_, rfl⟩
     rw [hKK] at own hlen
     obtain ⟨j, hj⟩ : ∃ j, KK.length = j := ⟨_, rfl⟩
     have hjl : j ≤ 1000 := by omega
     have own' : wr.ownsRow (w5.heap.size + 1) 3 1 v j (KK.flatMap icl) := by rw [← hj]; exact own
     have mi' := Lib.hid (mi.step hgo)
     obtain ⟨TB, hTB⟩ : ∃ A, TA.setIfInBounds 2 v = A := ⟨_, rfl⟩
     have d2 : TB[2]? = some v := by rw [← hTB]; exact Array.getElem?_setIfInBounds_self_of_lt dTA.out
     rw [hTB] at r1
     replace hTB := Lib.hid hTB
     replace hKK := Lib.hid hKK
     have HO := Lib.hid (show _ ∧ _ ∧ _ from ⟨rx, tr, hlen⟩)
     clear mi hgo hg4 own rx tr hlen hi' hlt
     let L : List Sp := [sW 3 [] [] [] (w.heap.size + 1) (fun b => b = w.heap.size + 1 ∨ qb = some b) (fun u => u = .int .i64 (a : Int)) (fun _ wv => SR wv (w.heap.size + 1) qb eb yb), sL 4 3 [] 1 #[.int .i64 (a : Int)], sPz 5 [4] [4] ((w5.heap.size + 1)) 3 1 v (j + 1) (KK.flatMap icl ++ [.int .i64 (a : Int)]), sO 7 (w4.heap.size) 116 [5, 4] (fun gh => TB.setIfInBounds 2 (gh 5).v)]
     refine wp_region_six (shs L) (look6 L) (fun c => c = w.heap.size + 1 ∨ c = w4.heap.size ∨ v.ownBlock = some c) (by kernel_rfl) (by kernel_rfl) (mk_St L [3, 5, 7] [3, 5, 7] (by kernel_rfl) (by kernel_rfl) ⟨ok_W ⟨_, rfl⟩ (fun _ w w' h hT => SR.loc' w w' h hT) src.lt (.inl rfl) (fun b hb => by rcases hb with rfl | hb; exact src.lt; exact hqw b hb), ok_L, ok_Pz (own_sl3 own') (fun b hb => ⟨.inr (.inr hb), (own_lt own' b hb).2⟩), ok_O (fun g g' h => by rw [h 5 (by simp)]) r1.lt (.inr (.inl rfl)), trivial⟩ (by intro i hi j hj hne b hb hx; simp only [List.mem_cons, List.not_mem_nil, or_false] at hi hj; rcases hi with rfl | rfl | rfl <;> rcases hj with rfl | rfl | rfl <;> first | exact absurd rfl hne | (have h1 : b = w.heap.size + 1 ∨ qb = some b := hb; have h2 : v.ownBlock = some b := hx; have h3 := (own_lt own' b h2).1; rcases h1 with h1 | h1; omega; have h4 := hqb b h1; omega) | (have h1 : b = w.heap.size + 1 ∨ qb = some b := hb; have h2 : b = w4.heap.size := hx; rcases h1 with h1 | h1; omega; have h4 := hqb b h1; omega) | (have h1 : v.ownBlock = some b := hb; have h2 : b = w.heap.size + 1 := hx; have h3 := (own_lt own' b h1).1; omega) | (have h1 : v.ownBlock = some b := hb; have h2 : b = w4.heap.size := hx; have h3 := (own_lt own' b h1).1; omega) | (have h1 : b = w4.heap.size := hb; have h2 : b = w.heap.size + 1 := hx; omega) | (have h1 : b = w4.heap.size := hb; have h2 : v.ownBlock = some b := hx; have h3 := (own_lt own' b h2).1; omega))) ?_
     intro QQ hQ
     refine stepKx [3] (fun c => c = (w.heap.size + 1)) rfl (by kernel_rfl) (by intro i hi b hb; simp only [List.mem_cons, List.not_mem_nil, or_false] at hi; subst hi; exact hb) (fun K hK => ?_); go_simp
     apply Exists.intro; apply And.intro; (focus (intro wk hk; go_simp; exact ⟨rfl, rfl⟩)); refine hK _ _ ?_; clear hK K
     refine stepKx [3] (fun c => c = (w.heap.size + 1)) rfl (by kernel_rfl) (by intro i hi b hb; simp only [List.mem_cons, List.not_mem_nil, or_false] at hi; subst hi; exact hb) (fun K hK => ?_); go_simp
     apply Exists.intro; apply And.intro; (focus (intro wk hk; have cc : wk.cell? ⟨w4.heap.size, 2, none⟩ = some v := ((K6.Row.tr r1 hk.undrew (by intro hc; have hc2 : w4.heap.size = w.heap.size + 1 := hc; omega)).cell 2).trans d2; go_simp; exact ⟨rfl, rfl⟩)); refine hK _ _ ?_; clear hK K
     refine stepK rfl (by kernel_rfl) (fun K hK => ?_); go_simp
     apply Exists.intro; apply And.intro; (focus (intro wk hk; go_simp; exact ⟨rfl, rfl⟩)); refine hK _ _ ?_; clear hK K
     refine stepS _ rfl (by kernel_rfl) (fun K hK => ?_); go_simp
     refine ⟨?_, ?_⟩
     ·intro wk hk hg hu; go_simp; refine upon_enter ((ka.out _ hk.undrew).mono ?_); rintro e w' ⟨rfl, hf, ht⟩; exact ⟨_, rfl, left_W (p := fun u => u = .int .i64 (a : Int)) (f := fun _ wv => SR wv (w.heap.size + 1) qb eb yb) rfl rfl rfl ht hf⟩
     rintro ⟨v3, lo3, hi3⟩ - - (rfl : v3 = _)
     refine hK _ _ ?_; clear hK K
     refine stepSz _ rfl (fun K hK => ?_); go_simp
     refine ⟨?_, ?_⟩
     ·intro wk hk hg hu; go_simp; exact left_L rfl rfl
     rintro ⟨v4, lo4, hi4⟩ hlo4 hhi4 ⟨e4, f4⟩
     replace e4 : v4 = .slice (some ⟨lo4, 0, none⟩) 1 1 := e4; replace f4 : hi4 = lo4 + 1 := f4; replace hlo4 : _ ≤ lo4 := hlo4; subst e4; subst f4
     refine hK _ _ ?_; clear hK K
     refine stepSx _ [3] (fun c => c = (w.heap.size + 1)) rfl (by kernel_rfl) (by intro i hi b hb; simp only [List.mem_cons, List.not_mem_nil, or_false] at hi; subst hi; exact hb) (fun K hK => ?_); go_simp
     refine ⟨?_, ?_⟩
     ·intro wk hk hg hu; have uL := hu 4 (show 4 ∈ [4] by decide); have rL : Row wk lo4 3 (#[.int .i64 (a : Int)]) := uL.2; have how := own_tr own' hk.undrew (fun b hb hc => by have hc2 : b = w.heap.size + 1 := hc; have h1 := (own_lt own' b hb).1; omega); obtain ⟨vz, wz, hrun, hoz, hgz, hwz⟩ := append1 appT22 how rL rfl (by kernel_rfl) (by omega) (by have h2 := hk.undrew.size; have h3 : wr.heap.size ≤ wk.heap.size := h2; omega); rw [run_append_op rfl rfl rfl hrun]; exact left_Pz rfl rfl hgz hoz (fun b hb => (own_lt hoz b hb).2) hwz
     rintro ⟨v5, lo5, hi5⟩ - - ⟨hG5, q5, m5, c5, rfl⟩
     refine hK _ _ ?_; clear hK K
     refine stepKx [3, 5] (fun c => c = (w.heap.size + 1) ∨ v.ownBlock = some c) rfl (by kernel_rfl) (by intro i hi b hb; simp only [List.mem_cons, List.not_mem_nil, or_false] at hi; rcases hi with rfl | rfl <;> first | exact Or.inl hb | exact Or.inr hb | exact Or.inr (Or.inl hb) | exact Or.inr (Or.inr hb) | exact Or.inr (Or.inr (Or.inl hb)) | exact Or.inr (Or.inr (Or.inr hb))) (fun K hK => ?_); go_simp
     apply Exists.intro; apply And.intro; (focus (intro wk hk; go_simp; exact ⟨rfl, rfl⟩)); refine hK _ _ ?_; clear hK K
     refine stepSx _ [3, 5] (fun c => c = (w.heap.size + 1) ∨ v.ownBlock = some c) rfl (by kernel_rfl) (by intro i hi b hb; simp only [List.mem_cons, List.not_mem_nil, or_false] at hi; rcases hi with rfl | rfl <;> first | exact Or.inl hb | exact Or.inr hb | exact Or.inr (Or.inl hb) | exact Or.inr (Or.inr hb) | exact Or.inr (Or.inr (Or.inl hb)) | exact Or.inr (Or.inr (Or.inr hb))) (fun K hK => ?_); go_simp
     refine ⟨?_, ?_⟩
     ·intro wk hk hg hu; have rk := K6.Row.tr r1 hk.undrew (by intro hc; rcases hc with hc | hc; (have hc2 : w4.heap.size = w.heap.size + 1 := hc; omega); (have h1 := (own_lt own' _ hc).1; omega)); have cc := (rk.cell 2).trans d2; have ff := rk.frozen 2; go_simp; exact left_O (l := L) (s := (sO 7 (w4.heap.size) 116 [5, 4] (fun gh => TB.setIfInBounds 2 (gh 5).v)).1) rfl rfl (by decide) (fun g g' h => by rw [h 5 (by simp)]) (fun c hc => Below.heap_setCell _ _ _ _ hc) rfl rfl rfl (by simp) (Row.congr (rk.set 2 _) rfl)
     rintro ⟨v7, lo7, hi7⟩ - - (rfl : v7 = undef)
     refine hK _ _ ?_; clear hK K
     refine stepN ?_
     refine hQ _ _ ?_
     intro w9 hT hG hF
     have hT9 := hT.undrew
     have src9 : SR w9 (w.heap.size + 1) qb eb yb := hF 3 _ rfl rfl (by decide)
     have hf5 : Grew v ⟨.slice q5 m5 c5, lo5, hi5⟩ ∧ w9.ownsRow (w5.heap.size + 1) 3 1 (.slice q5 m5 c5) (j + 1) (KK.flatMap icl ++ [.int .i64 (a : Int)]) := hF 5 _ rfl rfl (by decide)
     have r1' : Row w9 w4.heap.size 116 (TB.setIfInBounds 2 (.slice q5 m5 c5)) := hF 7 _ rfl rfl (by decide)
     have H := Lib.hid (show LpI (gN 1099511627776) Oi w6 w9 (w.heap.size + 1) w4.heap.size w5.heap.size (w5.heap.size + 1) 2 qb (#[.int .i64 (qn : Int), .bool st, .int .i64 (qa : Int), .bool se, .int .i64 (qh : Int), .bool sc]) TA (.slice q5 m5 c5) gn ([]) N1 ea3 xa3 eb yb (K ++ [(a : Int)]) from ⟨⟨by rw [← List.append_assoc, hKK.out]; exact (by show w9.ownsRow _ 3 1 _ (KK ++ [(a : Int)]).length ((KK ++ [(a : Int)]).flatMap icl); rw [List.length_append, flat_snoc, hj]; exact hf5.2), src9, Row.congr r1' (by rw [← hTB.out]; exact set_set'), K6.Row.tr HO.out.1 hT9 (by intro hc; rcases hc with hc | hc | hc; omega; omega; (have h1 := (own_lt own' _ hc).1; omega)), HO.out.2.1.trans_new hT9 (by intro b hc hlt; rcases hc with hc | hc | hc; exact .inl hc; exact .inr (.inl hc); exact .inr (.inr (own_lt own' b hc).1)), Nat.le_trans hsz hT9.size⟩, mi'.out, by rw [← List.append_assoc, hKK.out, List.length_append, hj]; show j + 1 + gn ≤ 1000; have := HO.out.2.2; omega⟩)
     clear hT hT9 hG hF hQ QQ L hf5 r1' src9 src own' r1 ka HO hG5 mi' hTB hKK d2 hsz
     go_wp2_with fail
     go_roundg gn
     case measure => omega
     case rel => exact ⟨i + 1, eb, yb, .slice q5 m5 c5, K ++ [(a : Int)], by omega, by go_num, H⟩
    ·have hq : (es == 0) = false := by rw [beq_eq_false_iff_ne]; exact hes
     have hst := Lib.hid (hinv.out.stop (.inl hes))
     clear hinv
     go_wp2_with fail
     go_meet
     exact ⟨(i : Int), v, rfl, hst⟩
   ·have hlt : ¬ (i : Int) < (qn : Int) := by omega
    have hlt' : (qn : Int) ≤ (i : Int) := by omega
    have hst := Lib.hid (hinv.out.stop (.inr (by omega)))
    clear hinv
    go_wp2_with fail
    go_meet
    exact ⟨(i : Int), v, rfl, hst⟩
 case rest =>
  obtain ⟨yy, v1, rfl, HL1⟩ := hcut
  obtain ⟨wA, hwx⟩ : ∃ x : World, x = wc := ⟨_, rfl⟩
  subst hwx
  clear HL hgm hlen0
  have e1_ := HL1.out.rx.cell 1
  rw [List.nil_append] at HL1
  go_upto_if 53 with (fail)
  go_cut [9] (fun sl wx => sl = .int .i64 (tl : Int) ∧ Hid (LpR Oi w6 wx (w.heap.size + 1) w4.heap.size w5.heap.size (w5.heap.size + 1) 2 qb (#[.int .i64 (qn : Int), .bool st, .int .i64 (qa : Int), .bool se, .int .i64 (qh : Int), .bool sc]) TA v1 ea4 xa4 N1))
  case first =>
   have hg4 := HG.out.2.2.2.1
   cases st
   ·replace hg4 : ((0 : Int), ea3, xa3) = ((tl : Int), ea4, xa4) := hg4
    simp only [Prod.mk.injEq] at hg4
    obtain ⟨h1, rfl, rfl⟩ := hg4
    have h1' := Lib.hid h1
    clear h1
    go_wp2_with fail
    go_meet
    exact ⟨by rw [← h1'.out], HL1⟩
   ·replace hg4 : gN 8 (ea3, xa3) = ((tl : Int), ea4, xa4) := hg4
    obtain ⟨a, b, c, h⟩ := tri (gV 8 (ea3, xa3))
    unfold gN at hg4
    rw [h] at hg4
    simp only [Prod.mk.injEq] at hg4
    obtain ⟨h1, rfl, rfl⟩ := hg4
    obtain rfl : a = tl := by omega
    have k4 := Lib.hid (rvar_V HL1.out.src h)
    clear h h1
    go_wp2_with fail
    refine k4.out.mono ?_
    rintro r w9 ⟨rfl, hs, ht⟩
    have hX := Lib.hid (HL1.out.callI hs ht (by omega) (by omega) (by omega))
    clear hs ht k4 e1_
    go_wp2_with fail
    go_meet
    exact ⟨rfl, hX⟩
  case rest =>
   obtain ⟨rfl, HL⟩ := hcut
   clear HL1 e1_
   have hgm := Lib.hid HG.out.2.2.2.2.1
   have hlen0 : N1.length + tl ≤ 1000 := by have := HN1.out; omega
   go_upto_block 2 with fail
   go_cut [10] (fun sl wx => ∃ (y : Int) (v : Value), sl = .int .i64 y ∧ Hid (LpR Oi w6 wx (w.heap.size + 1) w4.heap.size w5.heap.size (w5.heap.size + 1) 2 qb (#[.int .i64 (qn : Int), .bool st, .int .i64 (qa : Int), .bool se, .int .i64 (qh : Int), .bool sc]) TA v ea5 xa5 ((N1) ++ N2)))
   case first =>
    go_wp2_with fail
    go_loopg [10] tl (fun gg sl wr => ∃ (i : Nat) (es : Int) (ys : List Int) (v : Value) (K : List Int), i + gg = tl ∧ sl = .int .i64 (i : Int) ∧ Hid (LpI (gN 1099511627776) Oi w6 wr (w.heap.size + 1) w4.heap.size w5.heap.size (w5.heap.size + 1) 2 qb (#[.int .i64 (qn : Int), .bool st, .int .i64 (qa : Int), .bool se, .int .i64 (qh : Int), .bool sc]) TA v gg (N1) N2 ea5 xa5 es ys K))
    case atStart => exact ⟨0, ea4, xa4, v1, [], by omega, rfl, Lib.hid ⟨by rw [List.append_nil]; exact HL.out, MI.start hgm.out, by rw [List.append_nil]; exact hlen0⟩⟩
    case round =>
     clear HL hgm hlen0
     obtain ⟨i, es, ys, v, K, him, rfl, hinv⟩ := hrel
     have cE := hinv.out.lp.src.e1
     by_cases hi' : i < tl
     ·obtain ⟨gn, rfl⟩ : ∃ gn, gk = gn + 1 := ⟨gk - 1, by omega⟩
      have hlt : (i : Int) < (tl : Int) := by omega
      by_cases hes : es = 0
      ·subst hes
       have hi0 : i ≤ 1000 := by omega
       go_upto_region 16 with (fail)
       obtain ⟨⟨own, src, r1, rx, tr, hsz⟩, mi, hlen⟩ := hinv.out
       clear hinv cE
       have hqw : ∀ b, qb = some b → b < wr.heap.size := fun b hb => by have := hqb b hb; omega
       obtain ⟨a, eb, yb, hg4⟩ := tri (gV 1099511627776 (0, ys))
       have hgo : (gN 1099511627776) (0, ys) = ((a : Int), eb, yb) := by unfold gN; rw [hg4]
       have ka := fun wk (hk : Tr None_ wr wk) => rvar_V (src.keep hk id (fun _ _ => id)) hg4
       replace ka := Lib.hid ka
       obtain ⟨KK, hKK⟩ : ∃ l, (N1) ++ K = l := ⟨_, rfl⟩
       rw [hKK] at own hlen
       obtain ⟨j, hj⟩ : ∃ j, KK.length = j := ⟨_, rfl⟩
       have hjl : j ≤ 1000 := by omega
       have own' : wr.ownsRow (w5.heap.size + 1) 3 1 v j (KK.flatMap icl) := by rw [← hj]; exact own
       have mi' := Lib.hid (mi.step hgo)
       obtain ⟨TB, hTB⟩ : ∃ A, TA.setIfInBounds 2 v = A := ⟨_, rfl⟩
       have d2 : TB[2]? = some v := by rw [← hTB]; exact Array.getElem?_setIfInBounds_self_of_lt dTA.out
       rw [hTB] at r1
       replace hTB := Lib.hid hTB
       replace hKK := Lib.hid hKK
       have HO := Lib.hid (show _ ∧ _ ∧ _ from ⟨rx, tr, hlen⟩)
       clear mi hgo hg4 own rx tr hlen hi' hlt
       let L : List Sp := [sW 3 [] [] [] (w.heap.size + 1) (fun b => b = w.heap.size + 1 ∨ qb = some b) (fun u => u = .int .i64 (a : Int)) (fun _ wv => SR wv (w.heap.size + 1) qb eb yb), sL 4 3 [] 1 #[.int .i64 (a : Int)], sPz 5 [4] [4] ((w5.heap.size + 1)) 3 1 v (j + 1) (KK.flatMap icl ++ [.int .i64 (a : Int)]), sO 7 (w4.heap.size) 116 [5, 4] (fun gh => TB.setIfInBounds 2 (gh 5).v)]
       refine wp_region_six (shs L) (look6 L) (fun c => c = w.heap.size + 1 ∨ c = w4.heap.size ∨ v.ownBlock = some c) (by kernel_rfl) (by kernel_rfl) (mk_St L [3, 5, 7] [3, 5, 7] (by kernel_rfl) (by kernel_rfl) ⟨ok_W ⟨_, rfl⟩ (fun _ w w' h hT => SR.loc' w w' h hT) src.lt (.inl rfl) (fun b hb => by rcases hb with rfl | hb; exact src.lt; exact hqw b hb), ok_L, ok_Pz (own_sl3 own') (fun b hb => ⟨.inr (.inr hb), (own_lt own' b hb).2⟩), ok_O (fun g g' h => by rw [h 5 (by simp)]) r1.lt (.inr (.inl rfl)), trivial⟩ (by intro i hi j hj hne b hb hx; simp only [List.mem_cons, List.not_mem_nil, or_false] at hi hj; rcases hi with rfl | rfl | rfl <;> rcases hj with rfl | rfl | rfl <;> first | exact absurd rfl hne | (have h1 : b = w.heap.size + 1 ∨ qb = some b := hb; have h2 : v.ownBlock = some b := hx; have h3 := (own_lt own' b h2).1; rcases h1 with h1 | h1; omega; have h4 := hqb b h1; omega) | (have h1 : b = w.heap.size + 1 ∨ qb = some b := hb; have h2 : b = w4.heap.size := hx; rcases h1 with h1 | h1; omega; have h4 := hqb b h1; omega) | (have h1 : v.ownBlock = some b := hb; have h2 : b = w.heap.size + 1 := hx; have h3 := (own_lt own' b h1).1; omega) | (have h1 : v.ownBlock = some b := hb; have h2 : b = w4.heap.size := hx; have h3 := (own_lt own' b h1).1; omega) | (have h1 : b = w4.heap.size := hb; have h2 : b = w.heap.size + 1 := hx; omega) | (have h1 : b = w4.heap.size := hb; have h2 : v.ownBlock = some b := hx; have h3 := (own_lt own' b h2).1; omega))) ?_
       intro QQ hQ
       refine stepKx [3] (fun c => c = (w.heap.size + 1)) rfl (by kernel_rfl) (by intro i hi b hb; simp only [List.mem_cons, List.not_mem_nil, or_false] at hi; subst hi; exact hb) (fun K hK => ?_); go_simp
       apply Exists.intro; apply And.intro; (focus (intro wk hk; go_simp; exact ⟨rfl, rfl⟩)); refine hK _ _ ?_; clear hK K
       refine stepKx [3] (fun c => c = (w.heap.size + 1)) rfl (by kernel_rfl) (by intro i hi b hb; simp only [List.mem_cons, List.not_mem_nil, or_false] at hi; subst hi; exact hb) (fun K hK => ?_); go_simp
       apply Exists.intro; apply And.intro; (focus (intro wk hk; have cc : wk.cell? ⟨w4.heap.size, 2, none⟩ = some v := ((K6.Row.tr r1 hk.undrew (by intro hc; have hc2 : w4.heap.size = w.heap.size + 1 := hc; omega)).cell 2).trans d2; go_simp; exact ⟨rfl, rfl⟩)); refine hK _ _ ?_; clear hK K
       refine stepK rfl (by kernel_rfl) (fun K hK => ?_); go_simp
       apply Exists.intro; apply And.intro; (focus (intro wk hk; go_simp; exact ⟨rfl, rfl⟩)); refine hK _ _ ?_; clear hK K
       refine stepS _ rfl (by kernel_rfl) (fun K hK => ?_); go_simp
       refine ⟨?_, ?_⟩
       ·intro wk hk hg hu; go_simp; refine upon_enter ((ka.out _ hk.undrew).mono ?_); rintro e w' ⟨rfl, hf, ht⟩; exact ⟨_, rfl, left_W (p := fun u => u = .int .i64 (a : Int)) (f := fun _ wv => SR wv (w.heap.size + 1) qb eb yb) rfl rfl rfl ht hf⟩
       rintro ⟨v3, lo3, hi3⟩ - - (rfl : v3 = _)
       refine hK _ _ ?_; clear hK K
       refine stepSz _ rfl (fun K hK => ?_); go_simp
       refine ⟨?_, ?_⟩
       ·intro wk hk hg hu; go_simp; exact left_L rfl rfl
       rintro ⟨v4, lo4, hi4⟩ hlo4 hhi4 ⟨e4, f4⟩
       replace e4 : v4 = .slice (some ⟨lo4, 0, none⟩) 1 1 := e4; replace f4 : hi4 = lo4 + 1 := f4; replace hlo4 : _ ≤ lo4 := hlo4; subst e4; subst f4
       refine hK _ _ ?_; clear hK K
       refine stepSx _ [3] (fun c => c = (w.heap.size + 1)) rfl (by kernel_rfl) (by intro i hi b hb; simp only [List.mem_cons, List.not_mem_nil, or_false] at hi; subst hi; exact hb) (fun K hK => ?_); go_simp
       refine ⟨?_, ?_⟩
       ·intro wk hk hg hu; have uL := hu 4 (show 4 ∈ [4] by decide); have rL : Row wk lo4 3 (#[.int .i64 (a : Int)]) := uL.2; have how := own_tr own' hk.undrew (fun b hb hc => by have hc2 : b = w.heap.size + 1 := hc; have h1 := (own_lt own' b hb).1; omega); obtain ⟨vz, wz, hrun, hoz, hgz, hwz⟩ := append1 appT22 how rL rfl (by kernel_rfl) (by omega) (by have h2 := hk.undrew.size; have h3 : wr.heap.size ≤ wk.heap.size := h2; omega); rw [run_append_op rfl rfl rfl hrun]; exact left_Pz rfl rfl hgz hoz (fun b hb => (own_lt hoz b hb).2) hwz
       rintro ⟨v5, lo5, hi5⟩ - - ⟨hG5, q5, m5, c5, rfl⟩
       refine hK _ _ ?_; clear hK K
       refine stepKx [3, 5] (fun c => c = (w.heap.size + 1) ∨ v.ownBlock = some c) rfl (by kernel_rfl) (by intro i hi b hb; simp only [List.mem_cons, List.not_mem_nil, or_false] at hi; rcases hi with rfl | rfl <;> first | exact Or.inl hb | exact Or.inr hb | exact Or.inr (Or.inl hb) | exact Or.inr (Or.inr hb) | exact Or.inr (Or.inr (Or.inl hb)) | exact Or.inr (Or.inr (Or.inr hb))) (fun K hK => ?_); go_simp
       apply Exists.intro; apply And.intro; (focus (intro wk hk; go_simp; exact ⟨rfl, rfl⟩)); refine hK _ _ ?_; clear hK K
       refine stepSx _ [3, 5] (fun c => c = (w.heap.size + 1) ∨ v.ownBlock = some c) rfl (by kernel_rfl) (by intro i hi b hb; simp only [List.mem_cons, List.not_mem_nil, or_false] at hi; rcases hi with rfl | rfl <;> first | exact Or.inl hb | exact Or.inr hb | exact Or.inr (Or.inl hb) | exact Or.inr (Or.inr hb) | exact Or.inr (Or.inr (Or.inl hb)) | exact Or.inr (Or.inr (Or.inr hb))) (fun K hK => ?_); go_simp
       refine ⟨?_, ?_⟩
       ·intro wk hk hg hu; have rk := K6.Row.tr r1 hk.undrew (by intro hc; rcases hc with hc | hc; (have hc2 : w4.heap.size = w.heap.size + 1 := hc; omega); (have h1 := (own_lt own' _ hc).1; omega)); have cc := (rk.cell 2).trans d2; have ff := rk.frozen 2; go_simp; exact left_O (l := L) (s := (sO 7 (w4.heap.size) 116 [5, 4] (fun gh => TB.setIfInBounds 2 (gh 5).v)).1) rfl rfl (by decide) (fun g g' h => by rw [h 5 (by simp)]) (fun c hc => Below.heap_setCell _ _ _ _ hc) rfl rfl rfl (by simp) (Row.congr (rk.set 2 _) rfl)
       rintro ⟨v7, lo7, hi7⟩ - - (rfl : v7 = undef)
       refine hK _ _ ?_; clear hK K
       refine stepN ?_
       refine hQ _ _ ?_
       intro w9 hT hG hF
       have hT9 := hT.undrew
       have src9 : SR w9 (w.heap.size + 1) qb eb yb := hF 3 _ rfl rfl (by decide)
       have hf5 : Grew v ⟨.slice q5 m5 c5, lo5, hi5⟩ ∧ w9.ownsRow (w5.heap.size + 1) 3 1 (.slice q5 m5 c5) (j + 1) (KK.flatMap icl ++ [.int .i64 (a : Int)]) := hF 5 _ rfl rfl (by decide)
       have r1' : Row w9 w4.heap.size 116 (TB.setIfInBounds 2 (.slice q5 m5 c5)) := hF 7 _ rfl rfl (by decide)
       have H := Lib.hid (show LpI (gN 1099511627776) Oi w6 w9 (w.heap.size + 1) w4.heap.size w5.heap.size (w5.heap.size + 1) 2 qb (#[.int .i64 (qn : Int), .bool st, .int .i64 (qa : Int), .bool se, .int .i64 (qh : Int), .bool sc]) TA (.slice q5 m5 c5) gn (N1) N2 ea5 xa5 eb yb (K ++ [(a : Int)]) from ⟨⟨by rw [← List.append_assoc, hKK.out]; exact (by show w9.ownsRow _ 3 1 _ (KK ++ [(a : Int)]).length ((KK ++ [(a : Int)]).flatMap icl); rw [List.length_append, flat_snoc, hj]; exact hf5.2), src9, Row.congr r1' (by rw [← hTB.out]; exact set_set'), K6.Row.tr HO.out.1 hT9 (by intro hc; rcases hc with hc | hc | hc; omega; omega; (have h1 := (own_lt own' _ hc).1; omega)), HO.out.2.1.trans_new hT9 (by intro b hc hlt; rcases hc with hc | hc | hc; exact .inl hc; exact .inr (.inl hc); exact .inr (.inr (own_lt own' b hc).1)), Nat.le_trans hsz hT9.size⟩, mi'.out, by rw [← List.append_assoc, hKK.out, List.length_append, hj]; show j + 1 + gn ≤ 1000; have := HO.out.2.2; omega⟩)
       clear hT hT9 hG hF hQ QQ L hf5 r1' src9 src own' r1 ka HO hG5 mi' hTB hKK d2 hsz
       go_wp2_with fail
       go_roundg gn
       case measure => omega
       case rel => exact ⟨i + 1, eb, yb, .slice q5 m5 c5, K ++ [(a : Int)], by omega, by go_num, H⟩
      ·have hq : (es == 0) = false := by rw [beq_eq_false_iff_ne]; exact hes
       have hst := Lib.hid (hinv.out.stop (.inl hes))
       clear hinv
       go_wp2_with fail
       go_meet
       exact ⟨(i : Int), v, rfl, hst⟩
     ·have hlt : ¬ (i : Int) < (tl : Int) := by omega
      have hlt' : (tl : Int) ≤ (i : Int) := by omega
      have hst := Lib.hid (hinv.out.stop (.inr (by omega)))
      clear hinv
      go_wp2_with fail
      go_meet
      exact ⟨(i : Int), v, rfl, hst⟩
   case rest =>
    obtain ⟨yy, v2, rfl, HL2⟩ := hcut
    obtain ⟨wM, hwx⟩ : ∃ x : World, x = wc := ⟨_, rfl⟩
    subst hwx
    clear HL hgm hlen0
    have hv := own_sl HL2.out.own
    obtain ⟨nq, nc, hv⟩ := hv
    subst hv
    have hsM : w5.heap.size + 1 ≤ wM.heap.size := HL2.out.sz
    have H8 := Lib.hid (show Below w.heap.size w wM ∧ Row wM w.heap.size 116 tx0.cs.toArray ∧ Oi wM (w5.heap.size + 1) (.slice nq (N1 ++ N2).length nc) (N1 ++ N2) ∧ SR wM (w.heap.size + 1) qb ea5 xa5 ∧ Row wM w4.heap.size 116 (⟨(k : Int), (f : Int), nq, nc, (N1 ++ N2), none, 0, [], none, 0, [], cm0⟩ : Txv).cs.toArray ∧ Row wM w5.heap.size 118 (#[.int .i64 (qn : Int), .bool st, .int .i64 (qa : Int), .bool se, .int .i64 (qh : Int), .bool sc]) from ⟨H7.out.1.trans (HL2.out.tr.below_of H7.out.1.size (by intro c hc; rcases hc with hc | hc | hc; (have hc' : c = w.heap.size + 1 := hc; omega); (have hc' : c = w4.heap.size := hc; omega); (have hc' : (w5.heap.size + 1) ≤ c := hc; omega))), K6.Row.tr H7.out.2 HL2.out.tr (by intro hc; rcases hc with hc | hc | hc; (have hc' : w.heap.size = w.heap.size + 1 := hc; omega); (have hc' : w.heap.size = w4.heap.size := hc; omega); (have hc' : (w5.heap.size + 1) ≤ w.heap.size := hc; omega)), HL2.out.own, HL2.out.src, Row.congr HL2.out.row (by rw [← hTA2.out]; exact (Txv.setLow (t := (⟨(k : Int), (f : Int), none, 0, [], none, 0, [], none, 0, [], cm0⟩ : Txv)) (u := (⟨(k : Int), (f : Int), nq, nc, (N1 ++ N2), none, 0, [], none, 0, [], cm0⟩ : Txv)) rfl rfl (o := 2) (by decide) rfl (fun j h1 h2 => by match j, h1, h2 with | 0, _, h2 => (first | rfl | exact absurd rfl h2) | 1, _, h2 => (first | rfl | exact absurd rfl h2) | 2, _, h2 => (first | rfl | exact absurd rfl h2) | 3, _, h2 => (first | rfl | exact absurd rfl h2) | 4, _, h2 => (first | rfl | exact absurd rfl h2) | j + 5, h1, _ => exact absurd h1 (by omega)))), HL2.out.rx⟩)
    have e2_ := HL2.out.rx.cell 2
    have e3_ := HL2.out.rx.cell 3
    clear HL2 H7 hTA2 dTA
    go_upto_if 78 with (fail)
    go_cut [11] (fun sl wx => sl = .int .i64 (am : Int) ∧ wM = wx)
    case first =>
     have h := HAM.out
     cases se
     ·have h1 : (qa : Int) = (am : Int) := h
      have h2 := Lib.hid h1
      clear h h1
      go_wp2_with fail
      go_meet
      exact ⟨by rw [← h2.out], rfl⟩
     ·have h1 : (tl : Int) = (am : Int) := h
      have h2 := Lib.hid h1
      clear h h1
      go_wp2_with fail
      go_meet
      exact ⟨by rw [← h2.out], rfl⟩
    case rest =>
     obtain ⟨rfl, rfl⟩ := hcut
     clear e2_ e3_
     clear TA
     obtain ⟨TA, hTA⟩ : ∃ A, (⟨(k : Int), (f : Int), nq, nc, (N1 ++ N2), none, 0, [], none, 0, [], cm0⟩ : Txv).cs.toArray = A := ⟨_, rfl⟩
     have hTs : TA.size = 43 := by rw [← hTA]; exact Txv.size rfl
     have hst0 : TA.setIfInBounds 3 (.slice none 0 0) = TA := set_self' (by rw [← hTA]; exact tA3 (⟨(k : Int), (f : Int), nq, nc, (N1 ++ N2), none, 0, [], none, 0, [], cm0⟩ : Txv))
     have dTA := Lib.hid (show 3 < TA.size by omega)
     have HL := Lib.hid (show LpR Oe wM wM (w.heap.size + 1) w4.heap.size w5.heap.size wM.heap.size 3 qb (#[.int .i64 (qn : Int), .bool st, .int .i64 (qa : Int), .bool se, .int .i64 (qh : Int), .bool sc]) TA (.slice none 0 0) ea5 xa5 [] from ⟨Oe.nil _ _, H8.out.2.2.2.1, by rw [hst0, ← hTA]; exact H8.out.2.2.2.2.1, H8.out.2.2.2.2.2, Tr.refl _ _, Nat.le_refl _⟩)
     have HBA := Lib.hid (show ∀ a ∈ LA, a < M from by have h := gAs_ltM am (s := (ea5, xa5)) H8.out.2.2.2.1.2.1; rw [HG.out.2.2.2.2.2.1] at h; exact h)
     have hTA2 := Lib.hid hTA
     have hgm := Lib.hid HG.out.2.2.2.2.2.1
     have hlen0 : ([] : List Nat).length + am ≤ 1000 := by show 0 + am ≤ 1000; omega
     clear hTA hTs hst0
     go_upto_block 4 with fail
     go_cut [12] (fun sl wx => ∃ (y : Int) (v : Value), sl = .int .i64 y ∧ Hid (LpR Oe wM wx (w.heap.size + 1) w4.heap.size w5.heap.size wM.heap.size 3 qb (#[.int .i64 (qn : Int), .bool st, .int .i64 (qa : Int), .bool se, .int .i64 (qh : Int), .bool sc]) TA v ea6 xa6 (([]) ++ LA)))
     case first =>
      go_wp2_with fail
      go_loopg [12] am (fun gg sl wr => ∃ (i : Nat) (es : Int) (ys : List Int) (v : Value) (K : List Nat), i + gg = am ∧ sl = .int .i64 (i : Int) ∧ Hid (LpI gA Oe wM wr (w.heap.size + 1) w4.heap.size w5.heap.size wM.heap.size 3 qb (#[.int .i64 (qn : Int), .bool st, .int .i64 (qa : Int), .bool se, .int .i64 (qh : Int), .bool sc]) TA v gg ([]) LA ea6 xa6 es ys K))
      case atStart => exact ⟨0, ea5, xa5, (.slice none 0 0), [], by omega, rfl, Lib.hid ⟨by rw [List.append_nil]; exact HL.out, MI.start hgm.out, by rw [List.append_nil]; exact hlen0⟩⟩
      case round =>
       clear HL hgm hlen0
       obtain ⟨i, es, ys, v, K, him, rfl, hinv⟩ := hrel
       have cE := hinv.out.lp.src.e1
       by_cases hi' : i < am
       ·obtain ⟨gn, rfl⟩ : ∃ gn, gk = gn + 1 := ⟨gk - 1, by omega⟩
        have hlt : (i : Int) < (am : Int) := by omega
        by_cases hes : es = 0
        ·subst hes
         have hi0 : i ≤ 1000 := by omega
         go_upto_region 23 with (fail)
         obtain ⟨⟨own, src, r1, rx, tr, hsz⟩, mi, hlen⟩ := hinv.out
         clear hinv cE
         have hqw : ∀ b, qb = some b → b < wr.heap.size := fun b hb => by have := hqb b hb; omega
         obtain ⟨a, eb, yb, hg4⟩ := tri (gA (0, ys))
         have hgo := hg4
         have ka := fun wk (hk : Tr None_ wr wk) => ramt_V (src.keep hk id (fun _ _ => id)) (fun b hb => Nat.lt_of_lt_of_le (hqw b hb) hk.size) hg4
         obtain ⟨y0, y1, y2, y3, hW⟩ : ∃ y0 y1 y2 y3 : Int, W4 a = #[.int .u64 y0, .int .u64 y1, .int .u64 y2, .int .u64 y3] := ⟨_, _, _, _, rfl⟩
         simp only [hW] at ka
         replace ka := Lib.hid ka
         replace hW := Lib.hid hW
         obtain ⟨KK, hKK⟩ : ∃ l, ([]) ++ K = l := ⟨_, rfl⟩
         rw [hKK] at own hlen
         obtain ⟨j, hj⟩ : ∃ j, KK.length = j := ⟨_, rfl⟩
         have hjl : j ≤ 1000 := by omega
         have own' : wr.ownsRow wM.heap.size 31 4 v j (uw KK) := by rw [← hj]; exact own
         have mi' := Lib.hid (mi.step hgo)
         obtain ⟨TB, hTB⟩ : ∃ A, TA.setIfInBounds 3 v = A := ⟨_, rfl⟩
         have d2 : TB[3]? = some v := by rw [← hTB]; exact Array.getElem?_setIfInBounds_self_of_lt dTA.out
         rw [hTB] at r1
         replace hTB := Lib.hid hTB
         replace hKK := Lib.hid hKK
         have HO := Lib.hid (show _ ∧ _ ∧ _ from ⟨rx, tr, hlen⟩)
         clear mi hgo hg4 own rx tr hlen hi' hlt
         let L : List Sp := [sW 3 [] [] [] (w.heap.size + 1) (fun b => b = w.heap.size + 1 ∨ qb = some b) (fun u => u = .agg #[.int .u64 y0, .int .u64 y1, .int .u64 y2, .int .u64 y3]) (fun _ wv => SR wv (w.heap.size + 1) qb eb yb), sL 4 31 [] 1 #[.int .u64 y0, .int .u64 y1, .int .u64 y2, .int .u64 y3], sPz 5 [4] [4] (wM.heap.size) 31 4 v (j + 1) (uw KK ++ (#[.int .u64 y0, .int .u64 y1, .int .u64 y2, .int .u64 y3] : Array Value).toList), sO 7 (w4.heap.size) 116 [5, 4] (fun gh => TB.setIfInBounds 3 (gh 5).v)]
         refine wp_region_six (shs L) (look6 L) (fun c => c = w.heap.size + 1 ∨ c = w4.heap.size ∨ v.ownBlock = some c) (by kernel_rfl) (by kernel_rfl) (mk_St L [3, 5, 7] [3, 5, 7] (by kernel_rfl) (by kernel_rfl) ⟨ok_W ⟨_, rfl⟩ (fun _ w w' h hT => SR.loc' w w' h hT) src.lt (.inl rfl) (fun b hb => by rcases hb with rfl | hb; exact src.lt; exact hqw b hb), ok_L, ok_Pz (own_sl3 own') (fun b hb => ⟨.inr (.inr hb), (own_lt own' b hb).2⟩), ok_O (fun g g' h => by rw [h 5 (by simp)]) r1.lt (.inr (.inl rfl)), trivial⟩ (by intro i hi j hj hne b hb hx; simp only [List.mem_cons, List.not_mem_nil, or_false] at hi hj; rcases hi with rfl | rfl | rfl <;> rcases hj with rfl | rfl | rfl <;> first | exact absurd rfl hne | (have h1 : b = w.heap.size + 1 ∨ qb = some b := hb; have h2 : v.ownBlock = some b := hx; have h3 := (own_lt own' b h2).1; rcases h1 with h1 | h1; omega; have h4 := hqb b h1; omega) | (have h1 : b = w.heap.size + 1 ∨ qb = some b := hb; have h2 : b = w4.heap.size := hx; rcases h1 with h1 | h1; omega; have h4 := hqb b h1; omega) | (have h1 : v.ownBlock = some b := hb; have h2 : b = w.heap.size + 1 := hx; have h3 := (own_lt own' b h1).1; omega) | (have h1 : v.ownBlock = some b := hb; have h2 : b = w4.heap.size := hx; have h3 := (own_lt own' b h1).1; omega) | (have h1 : b = w4.heap.size := hb; have h2 : b = w.heap.size + 1 := hx; omega) | (have h1 : b = w4.heap.size := hb; have h2 : v.ownBlock = some b := hx; have h3 := (own_lt own' b h2).1; omega))) ?_
         intro QQ hQ
         refine stepKx [3] (fun c => c = (w.heap.size + 1)) rfl (by kernel_rfl) (by intro i hi b hb; simp only [List.mem_cons, List.not_mem_nil, or_false] at hi; subst hi; exact hb) (fun K hK => ?_); go_simp
         apply Exists.intro; apply And.intro; (focus (intro wk hk; go_simp; exact ⟨rfl, rfl⟩)); refine hK _ _ ?_; clear hK K
         refine stepKx [3] (fun c => c = (w.heap.size + 1)) rfl (by kernel_rfl) (by intro i hi b hb; simp only [List.mem_cons, List.not_mem_nil, or_false] at hi; subst hi; exact hb) (fun K hK => ?_); go_simp
         apply Exists.intro; apply And.intro; (focus (intro wk hk; have cc : wk.cell? ⟨w4.heap.size, 3, none⟩ = some v := ((K6.Row.tr r1 hk.undrew (by intro hc; have hc2 : w4.heap.size = w.heap.size + 1 := hc; omega)).cell 3).trans d2; go_simp; exact ⟨rfl, rfl⟩)); refine hK _ _ ?_; clear hK K
         refine stepK rfl (by kernel_rfl) (fun K hK => ?_); go_simp
         apply Exists.intro; apply And.intro; (focus (intro wk hk; go_simp; exact ⟨rfl, rfl⟩)); refine hK _ _ ?_; clear hK K
         refine stepS _ rfl (by kernel_rfl) (fun K hK => ?_); go_simp
         refine ⟨?_, ?_⟩
         ·intro wk hk hg hu; go_simp; refine upon_enter ((ka.out _ hk.undrew).mono ?_); rintro e w' ⟨rfl, hf, ht⟩; exact ⟨_, rfl, left_W (p := fun u => u = .agg #[.int .u64 y0, .int .u64 y1, .int .u64 y2, .int .u64 y3]) (f := fun _ wv => SR wv (w.heap.size + 1) qb eb yb) rfl rfl rfl ht hf⟩
         rintro ⟨v3, lo3, hi3⟩ - - (rfl : v3 = _)
         refine hK _ _ ?_; clear hK K
         refine stepSz _ rfl (fun K hK => ?_); go_simp
         refine ⟨?_, ?_⟩
         ·intro wk hk hg hu; go_simp; exact left_L rfl rfl
         rintro ⟨v4, lo4, hi4⟩ hlo4 hhi4 ⟨e4, f4⟩
         replace e4 : v4 = .slice (some ⟨lo4, 0, none⟩) 1 1 := e4; replace f4 : hi4 = lo4 + 1 := f4; replace hlo4 : _ ≤ lo4 := hlo4; subst e4; subst f4
         refine hK _ _ ?_; clear hK K
         refine stepSx _ [3] (fun c => c = (w.heap.size + 1)) rfl (by kernel_rfl) (by intro i hi b hb; simp only [List.mem_cons, List.not_mem_nil, or_false] at hi; subst hi; exact hb) (fun K hK => ?_); go_simp
         refine ⟨?_, ?_⟩
         ·intro wk hk hg hu; have uL := hu 4 (show 4 ∈ [4] by decide); have rL : Row wk lo4 31 (#[.int .u64 y0, .int .u64 y1, .int .u64 y2, .int .u64 y3]) := uL.2; have how := own_tr own' hk.undrew (fun b hb hc => by have hc2 : b = w.heap.size + 1 := hc; have h1 := (own_lt own' b hb).1; omega); obtain ⟨vz, wz, hrun, hoz, hgz, hwz⟩ := append1 appT23 how rL rfl (by kernel_rfl) (by omega) (by have h2 := hk.undrew.size; have h3 : wr.heap.size ≤ wk.heap.size := h2; omega); rw [run_append_op rfl rfl rfl hrun]; exact left_Pz rfl rfl hgz hoz (fun b hb => (own_lt hoz b hb).2) hwz
         rintro ⟨v5, lo5, hi5⟩ - - ⟨hG5, q5, m5, c5, rfl⟩
         refine hK _ _ ?_; clear hK K
         refine stepKx [3, 5] (fun c => c = (w.heap.size + 1) ∨ v.ownBlock = some c) rfl (by kernel_rfl) (by intro i hi b hb; simp only [List.mem_cons, List.not_mem_nil, or_false] at hi; rcases hi with rfl | rfl <;> first | exact Or.inl hb | exact Or.inr hb | exact Or.inr (Or.inl hb) | exact Or.inr (Or.inr hb) | exact Or.inr (Or.inr (Or.inl hb)) | exact Or.inr (Or.inr (Or.inr hb))) (fun K hK => ?_); go_simp
         apply Exists.intro; apply And.intro; (focus (intro wk hk; go_simp; exact ⟨rfl, rfl⟩)); refine hK _ _ ?_; clear hK K
         refine stepSx _ [3, 5] (fun c => c = (w.heap.size + 1) ∨ v.ownBlock = some c) rfl (by kernel_rfl) (by intro i hi b hb; simp only [List.mem_cons, List.not_mem_nil, or_false] at hi; rcases hi with rfl | rfl <;> first | exact Or.inl hb | exact Or.inr hb | exact Or.inr (Or.inl hb) | exact Or.inr (Or.inr hb) | exact Or.inr (Or.inr (Or.inl hb)) | exact Or.inr (Or.inr (Or.inr hb))) (fun K hK => ?_); go_simp
         refine ⟨?_, ?_⟩
         ·intro wk hk hg hu; have rk := K6.Row.tr r1 hk.undrew (by intro hc; rcases hc with hc | hc; (have hc2 : w4.heap.size = w.heap.size + 1 := hc; omega); (have h1 := (own_lt own' _ hc).1; omega)); have cc := (rk.cell 3).trans d2; have ff := rk.frozen 3; go_simp; exact left_O (l := L) (s := (sO 7 (w4.heap.size) 116 [5, 4] (fun gh => TB.setIfInBounds 3 (gh 5).v)).1) rfl rfl (by decide) (fun g g' h => by rw [h 5 (by simp)]) (fun c hc => Below.heap_setCell _ _ _ _ hc) rfl rfl rfl (by simp) (Row.congr (rk.set 3 _) rfl)
         rintro ⟨v7, lo7, hi7⟩ - - (rfl : v7 = undef)
         refine hK _ _ ?_; clear hK K
         refine stepN ?_
         refine hQ _ _ ?_
         intro w9 hT hG hF
         have hT9 := hT.undrew
         have src9 : SR w9 (w.heap.size + 1) qb eb yb := hF 3 _ rfl rfl (by decide)
         have hf5 : Grew v ⟨.slice q5 m5 c5, lo5, hi5⟩ ∧ w9.ownsRow wM.heap.size 31 4 (.slice q5 m5 c5) (j + 1) (uw KK ++ (#[.int .u64 y0, .int .u64 y1, .int .u64 y2, .int .u64 y3] : Array Value).toList) := hF 5 _ rfl rfl (by decide)
         have r1' : Row w9 w4.heap.size 116 (TB.setIfInBounds 3 (.slice q5 m5 c5)) := hF 7 _ rfl rfl (by decide)
         have H := Lib.hid (show LpI gA Oe wM w9 (w.heap.size + 1) w4.heap.size w5.heap.size wM.heap.size 3 qb (#[.int .i64 (qn : Int), .bool st, .int .i64 (qa : Int), .bool se, .int .i64 (qh : Int), .bool sc]) TA (.slice q5 m5 c5) gn ([]) LA ea6 xa6 eb yb (K ++ [a]) from ⟨⟨by rw [← List.append_assoc, hKK.out]; exact (by show w9.ownsRow _ 31 4 _ (KK ++ [a]).length (uw (KK ++ [a])); rw [List.length_append, uw_snoc, hW.out, hj]; exact hf5.2), src9, Row.congr r1' (by rw [← hTB.out]; exact set_set'), K6.Row.tr HO.out.1 hT9 (by intro hc; rcases hc with hc | hc | hc; omega; omega; (have h1 := (own_lt own' _ hc).1; omega)), HO.out.2.1.trans_new hT9 (by intro b hc hlt; rcases hc with hc | hc | hc; exact .inl hc; exact .inr (.inl hc); exact .inr (.inr (own_lt own' b hc).1)), Nat.le_trans hsz hT9.size⟩, mi'.out, by rw [← List.append_assoc, hKK.out, List.length_append, hj]; show j + 1 + gn ≤ 1000; have := HO.out.2.2; omega⟩)
         clear hT hT9 hG hF hQ QQ L hf5 r1' src9 src own' r1 ka HO hG5 mi' hTB hKK d2 hsz
         go_wp2_with fail
         go_roundg gn
         case measure => omega
         case rel => exact ⟨i + 1, eb, yb, .slice q5 m5 c5, K ++ [a], by omega, by go_num, H⟩
        ·have hq : (es == 0) = false := by rw [beq_eq_false_iff_ne]; exact hes
         have hst := Lib.hid (hinv.out.stop (.inl hes))
         clear hinv
         go_wp2_with fail
         go_meet
         exact ⟨(i : Int), v, rfl, hst⟩
       ·have hlt : ¬ (i : Int) < (am : Int) := by omega
        have hlt' : (am : Int) ≤ (i : Int) := by omega
        have hst := Lib.hid (hinv.out.stop (.inr (by omega)))
        clear hinv
        go_wp2_with fail
        go_meet
        exact ⟨(i : Int), v, rfl, hst⟩
     case rest =>
      obtain ⟨yy, v3, rfl, HL3⟩ := hcut
      obtain ⟨wH, hwx⟩ : ∃ x : World, x = wc := ⟨_, rfl⟩
      subst hwx
      clear HL hgm hlen0
      have hv := own_sl HL3.out.own
      obtain ⟨aq, ac, hv⟩ := hv
      subst hv
      rw [List.nil_append] at HL3
      have hsH : wM.heap.size ≤ wH.heap.size := HL3.out.sz
      have H9 := Lib.hid (show Below w.heap.size w wH ∧ Row wH w.heap.size 116 tx0.cs.toArray ∧ Oi wH (w5.heap.size + 1) (.slice nq (N1 ++ N2).length nc) (N1 ++ N2) ∧ Oe wH wM.heap.size (.slice aq LA.length ac) LA ∧ SR wH (w.heap.size + 1) qb ea6 xa6 ∧ Row wH w4.heap.size 116 (⟨(k : Int), (f : Int), nq, nc, (N1 ++ N2), aq, ac, LA, none, 0, [], cm0⟩ : Txv).cs.toArray ∧ Row wH w5.heap.size 118 (#[.int .i64 (qn : Int), .bool st, .int .i64 (qa : Int), .bool se, .int .i64 (qh : Int), .bool sc]) from ⟨H8.out.1.trans (HL3.out.tr.below_of H8.out.1.size (by intro c hc; rcases hc with hc | hc | hc; (have hc' : c = w.heap.size + 1 := hc; omega); (have hc' : c = w4.heap.size := hc; omega); (have hc' : wM.heap.size ≤ c := hc; omega))), K6.Row.tr H8.out.2.1 HL3.out.tr (by intro hc; rcases hc with hc | hc | hc; (have hc' : w.heap.size = w.heap.size + 1 := hc; omega); (have hc' : w.heap.size = w4.heap.size := hc; omega); (have hc' : wM.heap.size ≤ w.heap.size := hc; omega)), own_tr H8.out.2.2.1 HL3.out.tr (by intro b hb hc; have h1 := own_lt H8.out.2.2.1 b hb; rcases hc with hc | hc | hc; (have hc' : b = w.heap.size + 1 := hc; omega); (have hc' : b = w4.heap.size := hc; omega); (have hc' : wM.heap.size ≤ b := hc; omega)), HL3.out.own, HL3.out.src, Row.congr HL3.out.row (by rw [← hTA2.out]; exact (Txv.setLow (t := (⟨(k : Int), (f : Int), nq, nc, (N1 ++ N2), none, 0, [], none, 0, [], cm0⟩ : Txv)) (u := (⟨(k : Int), (f : Int), nq, nc, (N1 ++ N2), aq, ac, LA, none, 0, [], cm0⟩ : Txv)) rfl rfl (o := 3) (by decide) rfl (fun j h1 h2 => by match j, h1, h2 with | 0, _, h2 => (first | rfl | exact absurd rfl h2) | 1, _, h2 => (first | rfl | exact absurd rfl h2) | 2, _, h2 => (first | rfl | exact absurd rfl h2) | 3, _, h2 => (first | rfl | exact absurd rfl h2) | 4, _, h2 => (first | rfl | exact absurd rfl h2) | j + 5, h1, _ => exact absurd h1 (by omega)))), HL3.out.rx⟩)
      clear HL3 H8 hTA2 dTA
      clear TA
      obtain ⟨TA, hTA⟩ : ∃ A, (⟨(k : Int), (f : Int), nq, nc, (N1 ++ N2), aq, ac, LA, none, 0, [], cm0⟩ : Txv).cs.toArray = A := ⟨_, rfl⟩
      have hTs : TA.size = 43 := by rw [← hTA]; exact Txv.size rfl
      have hst0 : TA.setIfInBounds 4 (.slice none 0 0) = TA := set_self' (by rw [← hTA]; exact tA4 (⟨(k : Int), (f : Int), nq, nc, (N1 ++ N2), aq, ac, LA, none, 0, [], cm0⟩ : Txv))
      have dTA := Lib.hid (show 4 < TA.size by omega)
      have HL := Lib.hid (show LpR Oh wH wH (w.heap.size + 1) w4.heap.size w5.heap.size wH.heap.size 4 qb (#[.int .i64 (qn : Int), .bool st, .int .i64 (qa : Int), .bool se, .int .i64 (qh : Int), .bool sc]) TA (.slice none 0 0) ea6 xa6 [] from ⟨Oh.nil _ _, H9.out.2.2.2.2.1, by rw [hst0, ← hTA]; exact H9.out.2.2.2.2.2.1, H9.out.2.2.2.2.2.2, Tr.refl _ _, Nat.le_refl _⟩)
      have HBH := Lib.hid (show HsOk LH from by have h := gHs_ok qh (s := (ea6, xa6)) H9.out.2.2.2.2.1.2.1; rw [HG.out.2.2.2.2.2.2.1] at h; exact h)
      have hTA2 := Lib.hid hTA
      have hgm := Lib.hid HG.out.2.2.2.2.2.2.1
      have hlen0 : ([] : List (List Int)).length + qh ≤ 1000 := by show 0 + qh ≤ 1000; omega
      clear hTA hTs hst0
      go_upto_block 6 with fail
      go_cut [13] (fun sl wx => ∃ (y : Int) (v : Value), sl = .int .i64 y ∧ Hid (LpR Oh wH wx (w.heap.size + 1) w4.heap.size w5.heap.size wH.heap.size 4 qb (#[.int .i64 (qn : Int), .bool st, .int .i64 (qa : Int), .bool se, .int .i64 (qh : Int), .bool sc]) TA v ea7 xa7 (([]) ++ LH)))
      case first =>
       go_wp2_with fail
       go_loopg [13] qh (fun gg sl wr => ∃ (i : Nat) (es : Int) (ys : List Int) (v : Value) (K : List (List Int)), i + gg = qh ∧ sl = .int .i64 (i : Int) ∧ Hid (LpI gH Oh wH wr (w.heap.size + 1) w4.heap.size w5.heap.size wH.heap.size 4 qb (#[.int .i64 (qn : Int), .bool st, .int .i64 (qa : Int), .bool se, .int .i64 (qh : Int), .bool sc]) TA v gg ([]) LH ea7 xa7 es ys K))
       case atStart => exact ⟨0, ea6, xa6, (.slice none 0 0), [], by omega, rfl, Lib.hid ⟨by rw [List.append_nil]; exact HL.out, MI.start hgm.out, by rw [List.append_nil]; exact hlen0⟩⟩
       case round =>
        clear HL hgm hlen0
        obtain ⟨i, es, ys, v, K, him, rfl, hinv⟩ := hrel
        have cE := hinv.out.lp.src.e1
        have e0 := hinv.out.lp.rx.cell 4
        by_cases hi' : i < qh
        ·obtain ⟨gn, rfl⟩ : ∃ gn, gk = gn + 1 := ⟨gk - 1, by omega⟩
         have hlt : (i : Int) < (qh : Int) := by omega
         by_cases hes : es = 0
         ·subst hes
          have hi0 : i ≤ 1000 := by omega
          go_upto_region 27 with (fail)
          obtain ⟨⟨own, src, r1, rx, tr, hsz⟩, mi, hlen⟩ := hinv.out
          clear hinv cE e0
          have hqw : ∀ b, qb = some b → b < wr.heap.size := fun b hb => by have := hqb b hb; omega
          obtain ⟨a, eb, yb, hg4⟩ := tri (gH (0, ys))
          have ha32 : a.length = 32 := by have h := gH_len (0, ys); rw [hg4] at h; exact h
          obtain ⟨z0, z1, z2, z3, z4, z5, z6, z7, z8, z9, z10, z11, z12, z13, z14, z15, z16, z17, z18, z19, z20, z21, z22, z23, z24, z25, z26, z27, z28, z29, z30, z31, rfl⟩ := list32 ha32
          have hgo := hg4
          have ka : ∀ wk, Tr None_ wr wk → Calls Try.prog 180 #[.pointer (some ⟨w.heap.size + 1, 0, none⟩)] wk (RGotV wk (w.heap.size + 1) qb (.agg #[.int .u8 z0, .int .u8 z1, .int .u8 z2, .int .u8 z3, .int .u8 z4, .int .u8 z5, .int .u8 z6, .int .u8 z7, .int .u8 z8, .int .u8 z9, .int .u8 z10, .int .u8 z11, .int .u8 z12, .int .u8 z13, .int .u8 z14, .int .u8 z15, .int .u8 z16, .int .u8 z17, .int .u8 z18, .int .u8 z19, .int .u8 z20, .int .u8 z21, .int .u8 z22, .int .u8 z23, .int .u8 z24, .int .u8 z25, .int .u8 z26, .int .u8 z27, .int .u8 z28, .int .u8 z29, .int .u8 z30, .int .u8 z31]) eb yb) := fun wk hk => rhash_V (src.keep hk id (fun _ _ => id)) (fun b hb => Nat.lt_of_lt_of_le (hqw b hb) hk.size) hg4
          replace ka := Lib.hid ka
          obtain ⟨KK, hKK⟩ : ∃ l, ([]) ++ K = l := ⟨_, rfl⟩
          rw [hKK] at own hlen
          obtain ⟨j, hj⟩ : ∃ j, KK.length = j := ⟨_, rfl⟩
          have hjl : j ≤ 1000 := by omega
          have own' : wr.ownsRow wH.heap.size 35 32 v j (KK.flatMap bv) := by rw [← hj]; exact own
          have mi' := Lib.hid (mi.step hgo)
          obtain ⟨TB, hTB⟩ : ∃ A, TA.setIfInBounds 4 v = A := ⟨_, rfl⟩
          have d2 : TB[4]? = some v := by rw [← hTB]; exact Array.getElem?_setIfInBounds_self_of_lt dTA.out
          rw [hTB] at r1
          replace hTB := Lib.hid hTB
          replace hKK := Lib.hid hKK
          have HO := Lib.hid (show _ ∧ _ ∧ _ from ⟨rx, tr, hlen⟩)
          clear mi hgo hg4 own rx tr hlen hi' hlt
          let L : List Sp := [sW 3 [] [] [] (w.heap.size + 1) (fun b => b = w.heap.size + 1 ∨ qb = some b) (fun u => u = .agg #[.int .u8 z0, .int .u8 z1, .int .u8 z2, .int .u8 z3, .int .u8 z4, .int .u8 z5, .int .u8 z6, .int .u8 z7, .int .u8 z8, .int .u8 z9, .int .u8 z10, .int .u8 z11, .int .u8 z12, .int .u8 z13, .int .u8 z14, .int .u8 z15, .int .u8 z16, .int .u8 z17, .int .u8 z18, .int .u8 z19, .int .u8 z20, .int .u8 z21, .int .u8 z22, .int .u8 z23, .int .u8 z24, .int .u8 z25, .int .u8 z26, .int .u8 z27, .int .u8 z28, .int .u8 z29, .int .u8 z30, .int .u8 z31]) (fun _ wv => SR wv (w.heap.size + 1) qb eb yb), sL 4 35 [] 1 #[.int .u8 z0, .int .u8 z1, .int .u8 z2, .int .u8 z3, .int .u8 z4, .int .u8 z5, .int .u8 z6, .int .u8 z7, .int .u8 z8, .int .u8 z9, .int .u8 z10, .int .u8 z11, .int .u8 z12, .int .u8 z13, .int .u8 z14, .int .u8 z15, .int .u8 z16, .int .u8 z17, .int .u8 z18, .int .u8 z19, .int .u8 z20, .int .u8 z21, .int .u8 z22, .int .u8 z23, .int .u8 z24, .int .u8 z25, .int .u8 z26, .int .u8 z27, .int .u8 z28, .int .u8 z29, .int .u8 z30, .int .u8 z31], sPz 5 [4] [4] (wH.heap.size) 35 32 v (j + 1) (KK.flatMap bv ++ (#[.int .u8 z0, .int .u8 z1, .int .u8 z2, .int .u8 z3, .int .u8 z4, .int .u8 z5, .int .u8 z6, .int .u8 z7, .int .u8 z8, .int .u8 z9, .int .u8 z10, .int .u8 z11, .int .u8 z12, .int .u8 z13, .int .u8 z14, .int .u8 z15, .int .u8 z16, .int .u8 z17, .int .u8 z18, .int .u8 z19, .int .u8 z20, .int .u8 z21, .int .u8 z22, .int .u8 z23, .int .u8 z24, .int .u8 z25, .int .u8 z26, .int .u8 z27, .int .u8 z28, .int .u8 z29, .int .u8 z30, .int .u8 z31] : Array Value).toList), sO 7 (w4.heap.size) 116 [5, 4] (fun gh => TB.setIfInBounds 4 (gh 5).v)]
          refine wp_region_six (shs L) (look6 L) (fun c => c = w.heap.size + 1 ∨ c = w4.heap.size ∨ v.ownBlock = some c) (by kernel_rfl) (by kernel_rfl) (mk_St L [3, 5, 7] [3, 5, 7] (by kernel_rfl) (by kernel_rfl) ⟨ok_W ⟨_, rfl⟩ (fun _ w w' h hT => SR.loc' w w' h hT) src.lt (.inl rfl) (fun b hb => by rcases hb with rfl | hb; exact src.lt; exact hqw b hb), ok_L, ok_Pz (own_sl3 own') (fun b hb => ⟨.inr (.inr hb), (own_lt own' b hb).2⟩), ok_O (fun g g' h => by rw [h 5 (by simp)]) r1.lt (.inr (.inl rfl)), trivial⟩ (by intro i hi j hj hne b hb hx; simp only [List.mem_cons, List.not_mem_nil, or_false] at hi hj; rcases hi with rfl | rfl | rfl <;> rcases hj with rfl | rfl | rfl <;> first | exact absurd rfl hne | (have h1 : b = w.heap.size + 1 ∨ qb = some b := hb; have h2 : v.ownBlock = some b := hx; have h3 := (own_lt own' b h2).1; rcases h1 with h1 | h1; omega; have h4 := hqb b h1; omega) | (have h1 : b = w.heap.size + 1 ∨ qb = some b := hb; have h2 : b = w4.heap.size := hx; rcases h1 with h1 | h1; omega; have h4 := hqb b h1; omega) | (have h1 : v.ownBlock = some b := hb; have h2 : b = w.heap.size + 1 := hx; have h3 := (own_lt own' b h1).1; omega) | (have h1 : v.ownBlock = some b := hb; have h2 : b = w4.heap.size := hx; have h3 := (own_lt own' b h1).1; omega) | (have h1 : b = w4.heap.size := hb; have h2 : b = w.heap.size + 1 := hx; omega) | (have h1 : b = w4.heap.size := hb; have h2 : v.ownBlock = some b := hx; have h3 := (own_lt own' b h2).1; omega))) ?_
          intro QQ hQ
          refine stepKx [3] (fun c => c = (w.heap.size + 1)) rfl (by kernel_rfl) (by intro i hi b hb; simp only [List.mem_cons, List.not_mem_nil, or_false] at hi; subst hi; exact hb) (fun K hK => ?_); go_simp
          apply Exists.intro; apply And.intro; (focus (intro wk hk; go_simp; exact ⟨rfl, rfl⟩)); refine hK _ _ ?_; clear hK K
          refine stepKx [3] (fun c => c = (w.heap.size + 1)) rfl (by kernel_rfl) (by intro i hi b hb; simp only [List.mem_cons, List.not_mem_nil, or_false] at hi; subst hi; exact hb) (fun K hK => ?_); go_simp
          apply Exists.intro; apply And.intro; (focus (intro wk hk; have cc : wk.cell? ⟨w4.heap.size, 4, none⟩ = some v := ((K6.Row.tr r1 hk.undrew (by intro hc; have hc2 : w4.heap.size = w.heap.size + 1 := hc; omega)).cell 4).trans d2; go_simp; exact ⟨rfl, rfl⟩)); refine hK _ _ ?_; clear hK K
          refine stepK rfl (by kernel_rfl) (fun K hK => ?_); go_simp
          apply Exists.intro; apply And.intro; (focus (intro wk hk; go_simp; exact ⟨rfl, rfl⟩)); refine hK _ _ ?_; clear hK K
          refine stepS _ rfl (by kernel_rfl) (fun K hK => ?_); go_simp
          refine ⟨?_, ?_⟩
          ·intro wk hk hg hu; go_simp; refine upon_enter ((ka.out _ hk.undrew).mono ?_); rintro e w' ⟨rfl, hf, ht⟩; exact ⟨_, rfl, left_W (p := fun u => u = .agg #[.int .u8 z0, .int .u8 z1, .int .u8 z2, .int .u8 z3, .int .u8 z4, .int .u8 z5, .int .u8 z6, .int .u8 z7, .int .u8 z8, .int .u8 z9, .int .u8 z10, .int .u8 z11, .int .u8 z12, .int .u8 z13, .int .u8 z14, .int .u8 z15, .int .u8 z16, .int .u8 z17, .int .u8 z18, .int .u8 z19, .int .u8 z20, .int .u8 z21, .int .u8 z22, .int .u8 z23, .int .u8 z24, .int .u8 z25, .int .u8 z26, .int .u8 z27, .int .u8 z28, .int .u8 z29, .int .u8 z30, .int .u8 z31]) (f := fun _ wv => SR wv (w.heap.size + 1) qb eb yb) rfl rfl rfl ht hf⟩
          rintro ⟨v3, lo3, hi3⟩ - - (rfl : v3 = _)
          refine hK _ _ ?_; clear hK K
          refine stepSz _ rfl (fun K hK => ?_); go_simp
          refine ⟨?_, ?_⟩
          ·intro wk hk hg hu; go_simp; exact left_L rfl rfl
          rintro ⟨v4, lo4, hi4⟩ hlo4 hhi4 ⟨e4, f4⟩
          replace e4 : v4 = .slice (some ⟨lo4, 0, none⟩) 1 1 := e4; replace f4 : hi4 = lo4 + 1 := f4; replace hlo4 : _ ≤ lo4 := hlo4; subst e4; subst f4
          refine hK _ _ ?_; clear hK K
          refine stepSx _ [3] (fun c => c = (w.heap.size + 1)) rfl (by kernel_rfl) (by intro i hi b hb; simp only [List.mem_cons, List.not_mem_nil, or_false] at hi; subst hi; exact hb) (fun K hK => ?_); go_simp
          refine ⟨?_, ?_⟩
          ·intro wk hk hg hu; have uL := hu 4 (show 4 ∈ [4] by decide); have rL : Row wk lo4 35 (#[.int .u8 z0, .int .u8 z1, .int .u8 z2, .int .u8 z3, .int .u8 z4, .int .u8 z5, .int .u8 z6, .int .u8 z7, .int .u8 z8, .int .u8 z9, .int .u8 z10, .int .u8 z11, .int .u8 z12, .int .u8 z13, .int .u8 z14, .int .u8 z15, .int .u8 z16, .int .u8 z17, .int .u8 z18, .int .u8 z19, .int .u8 z20, .int .u8 z21, .int .u8 z22, .int .u8 z23, .int .u8 z24, .int .u8 z25, .int .u8 z26, .int .u8 z27, .int .u8 z28, .int .u8 z29, .int .u8 z30, .int .u8 z31]) := uL.2; have how := own_tr own' hk.undrew (fun b hb hc => by have hc2 : b = w.heap.size + 1 := hc; have h1 := (own_lt own' b hb).1; omega); obtain ⟨vz, wz, hrun, hoz, hgz, hwz⟩ := append1 appT111 how rL rfl (by kernel_rfl) (by omega) (by have h2 := hk.undrew.size; have h3 : wr.heap.size ≤ wk.heap.size := h2; omega); rw [run_append_op rfl rfl rfl hrun]; exact left_Pz rfl rfl hgz hoz (fun b hb => (own_lt hoz b hb).2) hwz
          rintro ⟨v5, lo5, hi5⟩ - - ⟨hG5, q5, m5, c5, rfl⟩
          refine hK _ _ ?_; clear hK K
          refine stepKx [3, 5] (fun c => c = (w.heap.size + 1) ∨ v.ownBlock = some c) rfl (by kernel_rfl) (by intro i hi b hb; simp only [List.mem_cons, List.not_mem_nil, or_false] at hi; rcases hi with rfl | rfl <;> first | exact Or.inl hb | exact Or.inr hb | exact Or.inr (Or.inl hb) | exact Or.inr (Or.inr hb) | exact Or.inr (Or.inr (Or.inl hb)) | exact Or.inr (Or.inr (Or.inr hb))) (fun K hK => ?_); go_simp
          apply Exists.intro; apply And.intro; (focus (intro wk hk; go_simp; exact ⟨rfl, rfl⟩)); refine hK _ _ ?_; clear hK K
          refine stepSx _ [3, 5] (fun c => c = (w.heap.size + 1) ∨ v.ownBlock = some c) rfl (by kernel_rfl) (by intro i hi b hb; simp only [List.mem_cons, List.not_mem_nil, or_false] at hi; rcases hi with rfl | rfl <;> first | exact Or.inl hb | exact Or.inr hb | exact Or.inr (Or.inl hb) | exact Or.inr (Or.inr hb) | exact Or.inr (Or.inr (Or.inl hb)) | exact Or.inr (Or.inr (Or.inr hb))) (fun K hK => ?_); go_simp
          refine ⟨?_, ?_⟩
          ·intro wk hk hg hu; have rk := K6.Row.tr r1 hk.undrew (by intro hc; rcases hc with hc | hc; (have hc2 : w4.heap.size = w.heap.size + 1 := hc; omega); (have h1 := (own_lt own' _ hc).1; omega)); have cc := (rk.cell 4).trans d2; have ff := rk.frozen 4; go_simp; exact left_O (l := L) (s := (sO 7 (w4.heap.size) 116 [5, 4] (fun gh => TB.setIfInBounds 4 (gh 5).v)).1) rfl rfl (by decide) (fun g g' h => by rw [h 5 (by simp)]) (fun c hc => Below.heap_setCell _ _ _ _ hc) rfl rfl rfl (by simp) (Row.congr (rk.set 4 _) rfl)
          rintro ⟨v7, lo7, hi7⟩ - - (rfl : v7 = undef)
          refine hK _ _ ?_; clear hK K
          refine stepN ?_
          refine hQ _ _ ?_
          intro w9 hT hG hF
          have hT9 := hT.undrew
          have src9 : SR w9 (w.heap.size + 1) qb eb yb := hF 3 _ rfl rfl (by decide)
          have hf5 : Grew v ⟨.slice q5 m5 c5, lo5, hi5⟩ ∧ w9.ownsRow wH.heap.size 35 32 (.slice q5 m5 c5) (j + 1) (KK.flatMap bv ++ (#[.int .u8 z0, .int .u8 z1, .int .u8 z2, .int .u8 z3, .int .u8 z4, .int .u8 z5, .int .u8 z6, .int .u8 z7, .int .u8 z8, .int .u8 z9, .int .u8 z10, .int .u8 z11, .int .u8 z12, .int .u8 z13, .int .u8 z14, .int .u8 z15, .int .u8 z16, .int .u8 z17, .int .u8 z18, .int .u8 z19, .int .u8 z20, .int .u8 z21, .int .u8 z22, .int .u8 z23, .int .u8 z24, .int .u8 z25, .int .u8 z26, .int .u8 z27, .int .u8 z28, .int .u8 z29, .int .u8 z30, .int .u8 z31] : Array Value).toList) := hF 5 _ rfl rfl (by decide)
          have r1' : Row w9 w4.heap.size 116 (TB.setIfInBounds 4 (.slice q5 m5 c5)) := hF 7 _ rfl rfl (by decide)
          have H := Lib.hid (show LpI gH Oh wH w9 (w.heap.size + 1) w4.heap.size w5.heap.size wH.heap.size 4 qb (#[.int .i64 (qn : Int), .bool st, .int .i64 (qa : Int), .bool se, .int .i64 (qh : Int), .bool sc]) TA (.slice q5 m5 c5) gn ([]) LH ea7 xa7 eb yb (K ++ [[z0, z1, z2, z3, z4, z5, z6, z7, z8, z9, z10, z11, z12, z13, z14, z15, z16, z17, z18, z19, z20, z21, z22, z23, z24, z25, z26, z27, z28, z29, z30, z31]]) from ⟨⟨by rw [← List.append_assoc, hKK.out]; exact (by show w9.ownsRow _ 35 32 _ (KK ++ [[z0, z1, z2, z3, z4, z5, z6, z7, z8, z9, z10, z11, z12, z13, z14, z15, z16, z17, z18, z19, z20, z21, z22, z23, z24, z25, z26, z27, z28, z29, z30, z31]]).length ((KK ++ [[z0, z1, z2, z3, z4, z5, z6, z7, z8, z9, z10, z11, z12, z13, z14, z15, z16, z17, z18, z19, z20, z21, z22, z23, z24, z25, z26, z27, z28, z29, z30, z31]]).flatMap bv); rw [List.length_append, flat_snoc, hj]; exact hf5.2), src9, Row.congr r1' (by rw [← hTB.out]; exact set_set'), K6.Row.tr HO.out.1 hT9 (by intro hc; rcases hc with hc | hc | hc; omega; omega; (have h1 := (own_lt own' _ hc).1; omega)), HO.out.2.1.trans_new hT9 (by intro b hc hlt; rcases hc with hc | hc | hc; exact .inl hc; exact .inr (.inl hc); exact .inr (.inr (own_lt own' b hc).1)), Nat.le_trans hsz hT9.size⟩, mi'.out, by rw [← List.append_assoc, hKK.out, List.length_append, hj]; show j + 1 + gn ≤ 1000; have := HO.out.2.2; omega⟩)
          clear hT hT9 hG hF hQ QQ L hf5 r1' src9 src own' r1 ka HO hG5 mi' hTB hKK d2 hsz
          go_wp2_with fail
          go_roundg gn
          case measure => omega
          case rel => exact ⟨i + 1, eb, yb, .slice q5 m5 c5, K ++ [[z0, z1, z2, z3, z4, z5, z6, z7, z8, z9, z10, z11, z12, z13, z14, z15, z16, z17, z18, z19, z20, z21, z22, z23, z24, z25, z26, z27, z28, z29, z30, z31]], by omega, by go_num, H⟩
         ·have hq : (es == 0) = false := by rw [beq_eq_false_iff_ne]; exact hes
          have hst := Lib.hid (hinv.out.stop (.inl hes))
          clear hinv
          go_wp2_with fail
          go_meet
          exact ⟨(i : Int), v, rfl, hst⟩
        ·have hlt : ¬ (i : Int) < (qh : Int) := by omega
         have hlt' : (qh : Int) ≤ (i : Int) := by omega
         have hst := Lib.hid (hinv.out.stop (.inr (by omega)))
         clear hinv
         go_wp2_with fail
         go_meet
         exact ⟨(i : Int), v, rfl, hst⟩
      case rest =>
       obtain ⟨yy, v4, rfl, HL4⟩ := hcut
       obtain ⟨wJ, hwx⟩ : ∃ x : World, x = wc := ⟨_, rfl⟩
       subst hwx
       clear HL hgm hlen0
       have hv := own_sl HL4.out.own
       obtain ⟨hq, hc, hv⟩ := hv
       subst hv
       rw [List.nil_append] at HL4
       have hsJ : wH.heap.size ≤ wJ.heap.size := HL4.out.sz
       have HA_ := Lib.hid (show Below w.heap.size w wJ ∧ Row wJ w.heap.size 116 tx0.cs.toArray ∧ GO wJ (w5.heap.size + 1) (⟨(k : Int), (f : Int), nq, nc, (N1 ++ N2), aq, ac, LA, hq, hc, LH, cm0⟩ : Txv) ∧ SR wJ (w.heap.size + 1) qb ea7 xa7 ∧ Row wJ w4.heap.size 116 (⟨(k : Int), (f : Int), nq, nc, (N1 ++ N2), aq, ac, LA, hq, hc, LH, cm0⟩ : Txv).cs.toArray from ⟨H9.out.1.trans (HL4.out.tr.below_of H9.out.1.size (by intro c hc; rcases hc with hc | hc | hc; (have hc' : c = w.heap.size + 1 := hc; omega); (have hc' : c = w4.heap.size := hc; omega); (have hc' : wH.heap.size ≤ c := hc; omega))), K6.Row.tr H9.out.2.1 HL4.out.tr (by intro hc; rcases hc with hc | hc | hc; (have hc' : w.heap.size = w.heap.size + 1 := hc; omega); (have hc' : w.heap.size = w4.heap.size := hc; omega); (have hc' : wH.heap.size ≤ w.heap.size := hc; omega)), ⟨own_tr H9.out.2.2.1 HL4.out.tr (by intro b hb hc; have h1 := own_lt H9.out.2.2.1 b hb; rcases hc with hc | hc | hc; (have hc' : b = w.heap.size + 1 := hc; omega); (have hc' : b = w4.heap.size := hc; omega); (have hc' : wH.heap.size ≤ b := hc; omega)), own_base (own_tr H9.out.2.2.2.1 HL4.out.tr (by intro b hb hc; have h1 := own_lt H9.out.2.2.2.1 b hb; rcases hc with hc | hc | hc; (have hc' : b = w.heap.size + 1 := hc; omega); (have hc' : b = w4.heap.size := hc; omega); (have hc' : wH.heap.size ≤ b := hc; omega))) (by omega), own_base HL4.out.own (by omega), CmIn.zero _ _⟩, HL4.out.src, Row.congr HL4.out.row (by rw [← hTA2.out]; exact (Txv.setLow (t := (⟨(k : Int), (f : Int), nq, nc, (N1 ++ N2), aq, ac, LA, none, 0, [], cm0⟩ : Txv)) (u := (⟨(k : Int), (f : Int), nq, nc, (N1 ++ N2), aq, ac, LA, hq, hc, LH, cm0⟩ : Txv)) rfl rfl (o := 4) (by decide) rfl (fun j h1 h2 => by match j, h1, h2 with | 0, _, h2 => (first | rfl | exact absurd rfl h2) | 1, _, h2 => (first | rfl | exact absurd rfl h2) | 2, _, h2 => (first | rfl | exact absurd rfl h2) | 3, _, h2 => (first | rfl | exact absurd rfl h2) | 4, _, h2 => (first | rfl | exact absurd rfl h2) | j + 5, h1, _ => exact absurd h1 (by omega))))⟩)
       have e5_ := HL4.out.rx.cell 5
       clear HL4 H9 hTA2 dTA
       clear TA
       go_upto_if 120 with (fail)
       go_cut [] (fun wx => ∃ CC : Cm, CC.key = CK ∧ CC.tok.length = 32 ∧ Hid (SR wx (w.heap.size + 1) qb ea8 xa8 ∧ Row wx w4.heap.size 116 (⟨(k : Int), (f : Int), nq, nc, (N1 ++ N2), aq, ac, LA, hq, hc, LH, CC⟩ : Txv).cs.toArray ∧ Row wx w.heap.size 116 tx0.cs.toArray ∧ Below w.heap.size w wx ∧ GO wx (w5.heap.size + 1) (⟨(k : Int), (f : Int), nq, nc, (N1 ++ N2), aq, ac, LA, hq, hc, LH, CC⟩ : Txv)))
       case first =>
        have hg8 := HG.out.2.2.2.2.2.2.2
        cases sc
        ·replace hg8 : (cm0.key, ea7, xa7) = (CK, ea8, xa8) := hg8
         simp only [Prod.mk.injEq] at hg8
         obtain ⟨h1, rfl, rfl⟩ := hg8
         have h1' := Lib.hid h1
         clear h1
         go_wp2_with fail
         go_meet
         exact ⟨cm0, h1'.out, rfl, Lib.hid ⟨HA_.out.2.2.2.1, HA_.out.2.2.2.2, HA_.out.2.1, HA_.out.1, HA_.out.2.2.1⟩⟩
        ·replace hg8 : gCl (ea7, xa7) = (CK, ea8, xa8) := hg8
         have k6 := Lib.hid (rclaim_at HA_.out.2.2.2.1 (fun b hb => Nat.lt_of_lt_of_le (hqb b hb) HA_.out.1.size) hg8)
         clear hg8
         go_wp2_with fail
         refine k6.out.mono ?_
         rintro r wK ⟨CC, hck, rfl, hci, hs, ht⟩
         have r1 := K6.Row.tr HA_.out.2.2.2.2 ht (by intro hc; have hc' : w4.heap.size = w.heap.size + 1 := hc; omega)
         have r0 := K6.Row.tr HA_.out.2.1 ht (by intro hc; have hc' : w.heap.size = w.heap.size + 1 := hc; omega)
         have go := HA_.out.2.2.1.keep ht (fun b hb hx => by have hx' : b = w.heap.size + 1 := hx; omega)
         have hl := HA_.out.1.trans (ht.below_of HA_.out.1.size (by intro c hc; have hc' : c = w.heap.size + 1 := hc; omega))
         have ht32 := hci.ok.tok
         have hCs := Cm.size ht32
         have hCo := CC.one
         have hci' := hci.base (b' := (w5.heap.size + 1)) (by omega)
         have hkk := Lib.hid (show CC.key = CK ∧ CC.tok.length = 32 ∧ CmIn wK (w5.heap.size + 1) CC ∧ _ ∧ _ ∧ _ ∧ SR wK (w.heap.size + 1) qb ea8 xa8 from ⟨hck, ht32, hci', r0, go, hl, hs⟩)
         obtain ⟨TA, hTA⟩ : ∃ A, (⟨(k : Int), (f : Int), nq, nc, (N1 ++ N2), aq, ac, LA, hq, hc, LH, cm0⟩ : Txv).cs.toArray = A := ⟨_, rfl⟩
         have hTs : TA.size = 43 := by rw [← hTA]; exact Txv.size rfl
         rw [hTA] at r1
         obtain ⟨CA, hCA⟩ : ∃ A, CC.cs.toArray = A := ⟨_, rfl⟩
         rw [hCA] at hCs hCo ⊢
         have hinf := info114' hCs
         have hTC := Lib.hid (show (⟨(k : Int), (f : Int), nq, nc, (N1 ++ N2), aq, ac, LA, hq, hc, LH, cm0⟩ : Txv).cs.toArray = TA ∧ CC.cs.toArray = CA from ⟨hTA, hCA⟩)
         clear k6 hs ht r0 go hl ht32 hci hci' hck hTA hCA HA_ e5_
         go_wp2_with (refine wpList_storeM (b := w4.heap.size) (t := 116) (off := 5) (old := TA) (vs := CA) rfl rfl rfl rfl r1 (by rw [hCs, hTs]; decide) hinf hCo (fun wz rz tz => ?_))
         go_meet
         have ng : ∀ b, b = w4.heap.size → b ≠ w.heap.size + 1 := fun b hb hx => by omega
         have rz' := rz
         rw [← hTC.out.1, ← hTC.out.2, Txv.setC (t := (⟨(k : Int), (f : Int), nq, nc, (N1 ++ N2), aq, ac, LA, hq, hc, LH, cm0⟩ : Txv)) (u := (⟨(k : Int), (f : Int), nq, nc, (N1 ++ N2), aq, ac, LA, hq, hc, LH, CC⟩ : Txv)) rfl hkk.out.2.1 rfl rfl rfl rfl rfl] at rz'
         have g2 := hkk.out.2.2.2.2.1.keep tz (fun b hb hx => by have hx' : b = w4.heap.size := hx; omega)
         exact ⟨CC, hkk.out.1, hkk.out.2.1, Lib.hid ⟨hkk.out.2.2.2.2.2.2.keep tz (fun hx => by have hx' : w.heap.size + 1 = w4.heap.size := hx; omega) (fun b hb hx => by have hx' : b = w4.heap.size := hx; have := hqb b hb; omega), rz', K6.Row.tr hkk.out.2.2.2.1 tz (by intro hc; have hc' : w.heap.size = w4.heap.size := hc; omega), hkk.out.2.2.2.2.2.1.trans (tz.below_of hkk.out.2.2.2.2.2.1.size (by intro c hc; have hc' : c = w4.heap.size := hc; omega)), ⟨g2.n, g2.a, g2.h, hkk.out.2.2.1.keep tz (fun b hb hx => by have hx' : b = w4.heap.size := hx; omega)⟩⟩⟩
       case rest =>
        obtain ⟨CC, hCK, ht32, HX⟩ := hcut
        obtain ⟨wE, hwx⟩ : ∃ x : World, x = wc := ⟨_, rfl⟩
        subst hwx
        clear HA_ e5_
        have hKC := Lib.hid hCK
        clear hCK
        obtain ⟨er, her⟩ : ∃ er, edE ea8 xa8 = er := ⟨_, rfl⟩
        have ke := rend_at HX.out.1
        rw [her] at ke
        replace ke := Lib.hid ke
        obtain ⟨KT, hKT⟩ : ∃ K, (⟨(k : Int), (f : Int), nq, nc, (N1 ++ N2), aq, ac, LA, hq, hc, LH, CC⟩ : Txv).key = K := ⟨_, rfl⟩
        have hKT2 : gTx (0, xs) = (KT, ea8, xa8) := by rw [hTX.out, ← hKT, ← hKC.out]; rfl
        have hpu : PureT KT := by
         rw [← hKT]
         exact ⟨HP.out.1, HP.out.2.1, HP.out.2.2.1, HBA.out, HBH.out⟩
        have hlt : LightT (⟨(k : Int), (f : Int), nq, nc, (N1 ++ N2), aq, ac, LA, hq, hc, LH, CC⟩ : Txv) := ⟨by show (N1 ++ N2).length ≤ 50; have := HP.out.2.2.2.1; omega, by show LA.length ≤ 50; have := HP.out.2.2.2.2.1; omega, by show LH.length ≤ 50; have := HP.out.2.2.2.2.2; omega, by have h := HLn.out.1; rw [← hKC.out] at h; have h2 : CC.p.length ≤ 10 := h; show CC.p.length ≤ 50; omega, by have h := HLn.out.2.1; rw [← hKC.out] at h; have h2 : (CC.l.map Lf.key).length ≤ 8 := h; rw [List.length_map] at h2; show CC.l.length ≤ 50; omega, fun x hx => by have h := HLn.out.2.2; rw [← hKC.out] at h; have h2 := h x.key (List.mem_map.2 ⟨x, hx, rfl⟩); have h3 : x.p.length ≤ 10 := h2; omega⟩
        have HXX := Lib.hid (show _ ∧ _ ∧ _ ∧ _ ∧ edE ea8 xa8 = er from ⟨hKT2, hpu, hlt, hKT, her⟩)
        have h32 : (⟨(k : Int), (f : Int), nq, nc, (N1 ++ N2), aq, ac, LA, hq, hc, LH, CC⟩ : Txv).c.tok.length = 32 := ht32
        clear hKT2 hpu hlt hKT her hTX HBA HBH HLn HP HG HM hKC ht32
        go_wp2_with fail
        refine ke.out.mono ?_
        rintro r wF ⟨rfl, hs, ht⟩
        have r1 := K6.Row.tr HX.out.2.1 ht (by intro hc; have hc' : w4.heap.size = w.heap.size + 1 := hc; omega)
        have r0 := K6.Row.tr HX.out.2.2.1 ht (by intro hc; have hc' : w.heap.size = w.heap.size + 1 := hc; omega)
        have hl := HX.out.2.2.2.1.trans (ht.below_of HX.out.2.2.2.1.size (by intro c hc; have hc' : c = w.heap.size + 1 := hc; omega))
        have GOE := HX.out.2.2.2.2.keep ht (fun b hb hx => by have hx' : b = w.heap.size + 1 := hx; omega)
        clear ke ht HX
        by_cases hE : er = 0
        case neg =>
         have hne : (er != 0) = true := by rw [bne_iff_ne]; exact hE
         have hEq := Lib.hid (show prE xs = er ∧ prK xs = tx0K from by
          have e1 : prE xs = er := by unfold prE; rw [HXX.out.1]; simp only; rw [HXX.out.2.2.2.2, if_neg hE]
          exact ⟨e1, by unfold prK; rw [HR.out.2.2, e1, if_neg hE]⟩)
         have hsl := hs.lt
         clear GOE hE r1
         go_upto_region 31 with (fail)
         let L : List Sp := [sO 5 (w.heap.size) 116 [0] (fun g => aggOf g 0)]
         refine wp_region_six (shs L) (look6 L) (fun c => c = w.heap.size) (by kernel_rfl) (by kernel_rfl) (mk_St L [5] [5] (by kernel_rfl) (by kernel_rfl) ⟨ok_O aggOf_congr r0.lt (rfl), trivial⟩ (by simp)) ?_
         intro QQ hQ
         refine stepK rfl (by kernel_rfl) (fun K hK => ?_); go_simp
         apply Exists.intro; apply And.intro; (focus (intro wk hk; go_simp; exact ⟨rfl, rfl⟩)); refine hK _ _ ?_; clear hK K
         iterate 3 (refine stepKz rfl (fun K hK => ?_); go_simp; apply Exists.intro; apply And.intro; (focus (intro wk hk; go_simp; exact ⟨rfl, rfl⟩)); refine hK _ _ ?_; clear hK K)
         refine stepKz rfl (fun K hK => ?_); go_simp
         apply Exists.intro; apply And.intro; (focus (intro wk hk; have cc : wk.cell? ⟨w.heap.size + 1, 1, none⟩ = some (.int .i64 er) := (hs.keep hk.undrew (by intro hc; have hc' : w.heap.size + 1 = w.heap.size := hc; omega) (fun b hb hc => by have hc' : b = w.heap.size := hc; have := hqb b hb; omega)).e1; go_simp; exact ⟨rfl, rfl⟩)); refine hK _ _ ?_; clear hK K
         refine stepS _ rfl (by kernel_rfl) (fun K hK => ?_); go_simp
         refine ⟨?_, ?_⟩
         ·exact sStoreO rfl rfl rfl rfl rfl rfl r0 id (by kernel_rfl) (by rw [Txv.size rfl]; rfl) (by kernel_rfl) (by decide) aggOf_congr
         rintro ⟨v5, lo5, hi5⟩ - - (rfl : v5 = undef)
         refine hK _ _ ?_; clear hK K
         refine stepKz rfl (fun K hK => ?_); go_simp
         apply Exists.intro; apply And.intro; (focus (intro wk hk; go_simp; exact ⟨rfl, rfl⟩)); refine hK _ _ ?_; clear hK K
         refine stepN ?_
         refine hQ _ _ ?_
         intro w9 hT hG hF
         have hT' := hT.undrew
         have x0 : Row w9 (w.heap.size) 116 (#[.int .i64 0, .int .i64 0, .slice none 0 0, .slice none 0 0, .slice none 0 0, .int .i64 0, .int .i64 0, .int .i64 0, .int .u8 0, .int .u8 0, .int .u8 0, .int .u8 0, .int .u8 0, .int .u8 0, .int .u8 0, .int .u8 0, .int .u8 0, .int .u8 0, .int .u8 0, .int .u8 0, .int .u8 0, .int .u8 0, .int .u8 0, .int .u8 0, .int .u8 0, .int .u8 0, .int .u8 0, .int .u8 0, .int .u8 0, .int .u8 0, .int .u8 0, .int .u8 0, .int .u8 0, .int .u8 0, .int .u8 0, .int .u8 0, .int .u8 0, .int .u8 0, .int .u8 0, .int .u8 0, .slice none 0 0, .slice none 0 0, .int .i64 0]) := hF 5 _ rfl rfl (by decide)
         have H9 := Lib.hid (hl.trans (hT'.below_of hl.size (by intro c hc; have hc' : c = w.heap.size := hc; omega)))
         clear hT hT' hG hF hQ QQ L hl r0 hs
         go_step; go_step; go_step
         simp only [Exit.then]
         refine bodyPost_ret (results_ct rfl aggT116 rfl x0 rfl) rfl ?_
         exact ⟨tx0, by rw [← HR.out.2.1, hEq.out.2]; rfl, by rw [← HR.out.1, hEq.out.1, tx0_csR]; first | done | rfl, tx0_ok _, H9.out, tx0_light⟩
        subst hE
        obtain ⟨bg, hbg⟩ : ∃ b, goodK KT = b := ⟨_, rfl⟩
        have hTok : TxOk wF (⟨(k : Int), (f : Int), nq, nc, (N1 ++ N2), aq, ac, LA, hq, hc, LH, CC⟩ : Txv) := GOE.ok (by rw [HXX.out.2.2.2.1]; exact HXX.out.2.1)
        have kg := fun wx (hb : Below wF.heap.size wF wx) => rgood_at (⟨(k : Int), (f : Int), nq, nc, (N1 ++ N2), aq, ac, LA, hq, hc, LH, CC⟩ : Txv) wx (hTok.below hb) HXX.out.2.2.1
        simp only [HXX.out.2.2.2.1, hbg] at kg
        have hszT : (⟨(k : Int), (f : Int), nq, nc, (N1 ++ N2), aq, ac, LA, hq, hc, LH, CC⟩ : Txv).cs.toArray.size = 43 := Txv.size h32
        have hone := Txv.one (⟨(k : Int), (f : Int), nq, nc, (N1 ++ N2), aq, ac, LA, hq, hc, LH, CC⟩ : Txv)
        obtain ⟨TB, hTB⟩ : ∃ A, (⟨(k : Int), (f : Int), nq, nc, (N1 ++ N2), aq, ac, LA, hq, hc, LH, CC⟩ : Txv).cs.toArray = A := ⟨_, rfl⟩
        simp only [hTB] at kg
        rw [hTB] at hszT hone r1
        have hPE := Lib.hid (show prE xs = (if bg = true then 0 else 2) from by unfold prE; rw [HXX.out.1]; simp only; rw [HXX.out.2.2.2.2, if_pos rfl, hbg])
        have hKb := Lib.hid hbg
        replace kg := Lib.hid kg
        have HT := Lib.hid (show _ ∧ _ from ⟨GOE, hTB⟩)
        clear GOE hs hbg hTok hTB
        go_upto_region 32 with (fail)
        cases bg
        ·have hp2 : prE xs = 2 := hPE.out
         have hEq := Lib.hid (show prE xs = 2 ∧ prK xs = tx0K from ⟨hp2, by unfold prK; rw [HR.out.2.2, hp2, if_neg (by decide)]⟩)
         clear hp2
         let L : List Sp := [sV 1 [] [] (fun u => u = .bool false)]
         refine wp_region_six0 (shs L) (look6 L) (None_) (by kernel_rfl) (by kernel_rfl) (mk_St L [] [] (by kernel_rfl) (by kernel_rfl) ⟨ok_V ⟨_, rfl⟩, trivial⟩ (by simp)) ?_
         intro QQ hQ
         refine stepK rfl (by kernel_rfl) (fun K hK => ?_); go_simp
         apply Exists.intro; apply And.intro; (focus exact kLoad rfl rfl aggT116 r1 hszT id); refine hK _ _ ?_; clear hK K
         refine stepS _ rfl (by kernel_rfl) (fun K hK => ?_); go_simp
         refine ⟨?_, ?_⟩
         ·intro wk hk hg hu; go_simp; refine upon_enter ((kg.out _ hk.below).mono ?_); rintro e w' ⟨rfl, hb⟩; exact ⟨_, rfl, left_V (p := fun u => u = .bool false) rfl (hb) rfl⟩
         rintro ⟨v1, lo1, hi1⟩ - - (rfl : v1 = _)
         refine hK _ _ ?_; clear hK K
         refine stepK rfl (by kernel_rfl) (fun K hK => ?_); go_simp
         apply Exists.intro; apply And.intro; (focus (intro wk hk; go_simp; exact ⟨rfl, rfl⟩)); refine hK _ _ ?_; clear hK K
         refine stepN ?_
         refine hQ _ _ ?_
         intro wG hT hG hF
         have hbG := hT.below
         have r0 := r0.below hbG r0.lt
         have r1 := r1.below hbG r1.lt
         have hl := hl.trans (hbG.mono hl.size)
         have HTG := Lib.hid (show GO wG (w5.heap.size + 1) (⟨(k : Int), (f : Int), nq, nc, (N1 ++ N2), aq, ac, LA, hq, hc, LH, CC⟩ : Txv) from HT.out.1.keep (X := None_) (Tr.of hbG) (fun _ _ => id))
         clear hT hG hF hQ QQ L hbG kg
         go_upto_region 33 with (fail)
         let L : List Sp := [sO 1 (w.heap.size) 116 [0] (fun g => aggOf g 0)]
         refine wp_region_six0 (shs L) (look6 L) (fun c => c = w.heap.size) (by kernel_rfl) (by kernel_rfl) (mk_St L [1] [1] (by kernel_rfl) (by kernel_rfl) ⟨ok_O aggOf_congr r0.lt (rfl), trivial⟩ (by simp)) ?_
         intro QQ hQ
         refine stepK rfl (by kernel_rfl) (fun K hK => ?_); go_simp
         apply Exists.intro; apply And.intro; (focus (intro wk hk; go_simp; exact ⟨rfl, rfl⟩)); refine hK _ _ ?_; clear hK K
         refine stepS _ rfl (by kernel_rfl) (fun K hK => ?_); go_simp
         refine ⟨?_, ?_⟩
         ·exact sStoreO rfl rfl rfl rfl rfl rfl r0 id (by kernel_rfl) (by rw [Txv.size rfl]; rfl) (by kernel_rfl) (by decide) aggOf_congr
         rintro ⟨v1, lo1, hi1⟩ - - (rfl : v1 = undef)
         refine hK _ _ ?_; clear hK K
         refine stepKz rfl (fun K hK => ?_); go_simp
         apply Exists.intro; apply And.intro; (focus (intro wk hk; go_simp; exact ⟨rfl, rfl⟩)); refine hK _ _ ?_; clear hK K
         refine stepN ?_
         refine hQ _ _ ?_
         intro w9 hT hG hF
         have hT' := hT
         have x0 : Row w9 (w.heap.size) 116 (#[.int .i64 0, .int .i64 0, .slice none 0 0, .slice none 0 0, .slice none 0 0, .int .i64 0, .int .i64 0, .int .i64 0, .int .u8 0, .int .u8 0, .int .u8 0, .int .u8 0, .int .u8 0, .int .u8 0, .int .u8 0, .int .u8 0, .int .u8 0, .int .u8 0, .int .u8 0, .int .u8 0, .int .u8 0, .int .u8 0, .int .u8 0, .int .u8 0, .int .u8 0, .int .u8 0, .int .u8 0, .int .u8 0, .int .u8 0, .int .u8 0, .int .u8 0, .int .u8 0, .int .u8 0, .int .u8 0, .int .u8 0, .int .u8 0, .int .u8 0, .int .u8 0, .int .u8 0, .int .u8 0, .slice none 0 0, .slice none 0 0, .int .i64 0]) := hF 1 _ rfl rfl (by decide)
         have H9 := Lib.hid (hl.trans (hT'.below_of hl.size (by intro c hc; have hc' : c = w.heap.size := hc; omega)))
         clear hT hT' hG hF hQ QQ L hl r0 r1
         go_step; go_step; go_step
         simp only [Exit.then]
         refine bodyPost_ret (results_ct rfl aggT116 rfl x0 rfl) rfl ?_
         exact ⟨tx0, by rw [← HR.out.2.1, hEq.out.2]; rfl, by rw [← HR.out.1, hEq.out.1, tx0_csR]; first | done | rfl, tx0_ok _, H9.out, tx0_light⟩
        ·have hp2 : prE xs = 0 := hPE.out
         have hEq := Lib.hid (show prE xs = 0 ∧ prK xs = KT from ⟨hp2, by unfold prK; rw [HR.out.2.2, hp2, if_pos rfl, HXX.out.1]⟩)
         clear hp2
         let L : List Sp := [sV 1 [] [] (fun u => u = .bool true)]
         refine wp_region_six0 (shs L) (look6 L) (None_) (by kernel_rfl) (by kernel_rfl) (mk_St L [] [] (by kernel_rfl) (by kernel_rfl) ⟨ok_V ⟨_, rfl⟩, trivial⟩ (by simp)) ?_
         intro QQ hQ
         refine stepK rfl (by kernel_rfl) (fun K hK => ?_); go_simp
         apply Exists.intro; apply And.intro; (focus exact kLoad rfl rfl aggT116 r1 hszT id); refine hK _ _ ?_; clear hK K
         refine stepS _ rfl (by kernel_rfl) (fun K hK => ?_); go_simp
         refine ⟨?_, ?_⟩
         ·intro wk hk hg hu; go_simp; refine upon_enter ((kg.out _ hk.below).mono ?_); rintro e w' ⟨rfl, hb⟩; exact ⟨_, rfl, left_V (p := fun u => u = .bool true) rfl (hb) rfl⟩
         rintro ⟨v1, lo1, hi1⟩ - - (rfl : v1 = _)
         refine hK _ _ ?_; clear hK K
         refine stepK rfl (by kernel_rfl) (fun K hK => ?_); go_simp
         apply Exists.intro; apply And.intro; (focus (intro wk hk; go_simp; exact ⟨rfl, rfl⟩)); refine hK _ _ ?_; clear hK K
         refine stepN ?_
         refine hQ _ _ ?_
         intro wG hT hG hF
         have hbG := hT.below
         have r0 := r0.below hbG r0.lt
         have r1 := r1.below hbG r1.lt
         have hl := hl.trans (hbG.mono hl.size)
         have HTG := Lib.hid (show GO wG (w5.heap.size + 1) (⟨(k : Int), (f : Int), nq, nc, (N1 ++ N2), aq, ac, LA, hq, hc, LH, CC⟩ : Txv) from HT.out.1.keep (X := None_) (Tr.of hbG) (fun _ _ => id))
         clear hT hG hF hQ QQ L hbG kg
         have hinf := info116R hszT
         have hszz : tx0.cs.toArray.size = TB.size := by rw [hszT]; exact Txv.size rfl
         go_upto_region 34 with (fail)
         let L : List Sp := [sO 1 (w.heap.size) 116 [0] (fun g => aggOf g 0)]
         refine wp_region_six0 (shs L) (look6 L) (fun c => c = w.heap.size) (by kernel_rfl) (by kernel_rfl) (mk_St L [1] [1] (by kernel_rfl) (by kernel_rfl) ⟨ok_O aggOf_congr r0.lt (rfl), trivial⟩ (by simp)) ?_
         intro QQ hQ
         refine stepK rfl (by kernel_rfl) (fun K hK => ?_); go_simp
         apply Exists.intro; apply And.intro; (focus exact kLoad rfl rfl aggT116 r1 hszT id); refine hK _ _ ?_; clear hK K
         refine stepS _ rfl (by kernel_rfl) (fun K hK => ?_); go_simp
         refine ⟨?_, ?_⟩
         ·exact sStoreO rfl rfl rfl rfl rfl rfl r0 id hinf hszz hone (by decide) aggOf_congr
         rintro ⟨v1, lo1, hi1⟩ - - (rfl : v1 = undef)
         refine hK _ _ ?_; clear hK K
         refine stepKz rfl (fun K hK => ?_); go_simp
         apply Exists.intro; apply And.intro; (focus (intro wk hk; go_simp; exact ⟨rfl, rfl⟩)); refine hK _ _ ?_; clear hK K
         refine stepN ?_
         refine hQ _ _ ?_
         intro wF2 hT hG hF
         have hT' := hT
         have x0 : Row wF2 w.heap.size 116 TB := hF 1 _ rfl rfl (by decide)
         have hGOf := HTG.out.keep hT' (fun b hb hx => by have hx' : b = w.heap.size := hx; omega)
         have hokf := Lib.hid (hGOf.ok (by rw [HXX.out.2.2.2.1]; exact HXX.out.2.1))
         have hB9 := Lib.hid (hl.trans (hT'.below_of hl.size (by intro c hc; have hc' : c = w.heap.size := hc; omega)))
         clear hT hT' hG hF hQ QQ L hl r0 r1 hGOf HTG
         go_step; go_step; go_step
         refine bodyPost_ret (results_ct rfl aggT116 rfl x0 hszT) rfl ?_
         exact ⟨(⟨(k : Int), (f : Int), nq, nc, (N1 ++ N2), aq, ac, LA, hq, hc, LH, CC⟩ : Txv), by rw [← HR.out.2.1, hEq.out.2]; exact HXX.out.2.2.2.1, by rw [← HR.out.1, hEq.out.1, HT.out.2]; first | done | rfl, hokf.out, hB9.out, HXX.out.2.2.1⟩
end Go.Proofs.Ytpdenhmkpiafiaa
