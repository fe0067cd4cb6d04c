/-
  What the statement rests on, part 12: TxParse.
-/
import Derived.Test.YtpdenhmkpiafiaaQTC10
namespace Go.Proofs.Ytpdenhmkpiafiaa
open Go Go.RowKit K6
theorem tx0_cs : tx0.cs.toArray = #[.int .i64 0, .int .i64 0, .slice none 0 0, .slice none 0 0, .slice none 0 0, .int .i64 0, .int .i64 0, .int .i64 0, .int .u8 0, .int .u8 0, .int .u8 0, .int .u8 0, .int .u8 0, .int .u8 0, .int .u8 0, .int .u8 0, .int .u8 0, .int .u8 0, .int .u8 0, .int .u8 0, .int .u8 0, .int .u8 0, .int .u8 0, .int .u8 0, .int .u8 0, .int .u8 0, .int .u8 0, .int .u8 0, .int .u8 0, .int .u8 0, .int .u8 0, .int .u8 0, .int .u8 0, .int .u8 0, .int .u8 0, .int .u8 0, .int .u8 0, .int .u8 0, .int .u8 0, .int .u8 0, .slice none 0 0, .slice none 0 0, .int .i64 0] := by kernel_rfl
theorem info116 {Y : Array Value} (h : Y.size = 43) : (Try.prog.info? 116).map (·.size) = some Y.size := by rw [h]; kernel_rfl
theorem shp_more (k : Int) : (0 ≤ (shpOf k).a ∧ (shpOf k).a ≤ 1) ∧ (0 ≤ (shpOf k).h ∧ (shpOf k).h ≤ 1) ∧ ((shpOf k).e = true → (shpOf k).t = true) ∧ ((shpOf k).c = true → (shpOf k).t = false) := by
  unfold shpOf
  split
  · rename_i h
    have h2 : k = 1 ∨ k = 2 ∨ k = 3 ∨ k = 4 ∨ k = 5 ∨ k = 6 ∨ k = 7 ∨ k = 8 ∨ k = 9 ∨ k = 10 ∨ k = 11 ∨ k = 12 ∨ k = 13 ∨ k = 14 ∨ k = 15 ∨ k = 16 ∨ k = 17 ∨ k = 18 ∨ k = 19 ∨ k = 20 ∨ k = 21 ∨ k = 22 ∨ k = 23 ∨ k = 24 ∨ k = 25 ∨ k = 26 ∨ k = 27 ∨ k = 28 := by omega
    rcases h2 with rfl | rfl | rfl | rfl | rfl | rfl | rfl | rfl | rfl | rfl | rfl | rfl | rfl | rfl | rfl | rfl | rfl | rfl | rfl | rfl | rfl | rfl | rfl | rfl | rfl | rfl | rfl | rfl <;> decide
  · decide
theorem oix_loc {lo hi g : Nat} {e8 : Int} {x8 : List Int} {N : List Int} (x : GV) (w w' : World) (h : (Oi w x.lo x.v N ∧ ∀ b, x.v.ownBlock = some b → b < x.hi) ∧ SA w lo hi g e8 x8) (hT : Tr (fun b => ¬ ((lo ≤ b ∧ b < hi) ∨ (x.lo ≤ b ∧ b < x.hi))) w w') :
    (Oi w' x.lo x.v N ∧ ∀ b, x.v.ownBlock = some b → b < x.hi) ∧ SA w' lo hi g e8 x8 :=
  ⟨⟨own_tr h.1.1 hT fun b hb hx => hx (.inr ⟨(own_lt h.1.1 b hb).1, h.1.2 b hb⟩), h.1.2⟩, h.2.keep hT fun _ h3 h4 hx => hx (.inl ⟨h3, h4⟩)⟩
theorem cmx_loc {lo hi g : Nat} {e8 : Int} {x8 : List Int} {K : CmK} (x : GV) (w w' : World) (h : (∃ c : Cm, x.v = .agg c.cs.toArray ∧ c.key = K ∧ CmIn w x.lo c ∧ (∀ b, c.pv.ownBlock = some b → b < x.hi) ∧ (∀ b, c.lv.ownBlock = some b → b < x.hi) ∧ ∀ y ∈ c.l, ∀ b, y.pv.ownBlock = some b → b < x.hi) ∧ SA w lo hi g e8 x8) (hT : Tr (fun b => ¬ ((lo ≤ b ∧ b < hi) ∨ (x.lo ≤ b ∧ b < x.hi))) w w') :
    (∃ c : Cm, x.v = .agg c.cs.toArray ∧ c.key = K ∧ CmIn w' x.lo c ∧ (∀ b, c.pv.ownBlock = some b → b < x.hi) ∧ (∀ b, c.lv.ownBlock = some b → b < x.hi) ∧ ∀ y ∈ c.l, ∀ b, y.pv.ownBlock = some b → b < x.hi) ∧ SA w' lo hi g e8 x8 := by
  obtain ⟨⟨c, hv, hk, hc, h1, h2, h3⟩, hs⟩ := h
  refine ⟨⟨c, hv, hk, ⟨⟨hc.ok.tok, hc.ok.by_, hc.ok.p.keep hT fun b hb hx => hx (.inr ⟨(hc.pb b hb).1, h1 b hb⟩), hc.ok.h, ⟨hc.ok.l.1.keep hT fun b hb hx => hx (.inr ⟨(hc.lb b hb).1, h2 b hb⟩), fun y hy => ⟨(hc.ok.l.2 y hy).p.keep hT fun b hb hx => hx (.inr ⟨(hc.qb y hy b hb).1, h3 y hy b hb⟩), (hc.ok.l.2 y hy).h, (hc.ok.l.2 y hy).a, (hc.ok.l.2 y hy).i, (hc.ok.l.2 y hy).t⟩⟩, hc.ok.r, hc.ok.x, hc.ok.e, hc.ok.z⟩, fun b hb => ⟨(hc.pb b hb).1, Nat.lt_of_lt_of_le (hc.pb b hb).2 hT.size⟩, fun b hb => ⟨(hc.lb b hb).1, Nat.lt_of_lt_of_le (hc.lb b hb).2 hT.size⟩, fun y hy b hb => ⟨(hc.qb y hy b hb).1, Nat.lt_of_lt_of_le (hc.qb y hy b hb).2 hT.size⟩⟩, h1, h2, h3⟩, hs.keep hT fun _ h4 h5 hx => hx (.inl ⟨h4, h5⟩)⟩
set_option maxRecDepth 100000 in
set_option maxHeartbeats 64000000 in
theorem txparse_at (u : Value) (xs : List Int) (w : World) (h : Bs w u xs) (hby : By xs) (hL : xs.length ≤ 1000000) :
    Calls Try.prog 154 #[u] w (ParT w (prK xs) (prT xs)) := by
  have HBs := Lib.hid fun wx (hb : Below w.heap.size w wx) => (read_any u xs wx (h.below hb) (by omega)).mono fun r w' hr => hr.sa hby (by omega)
  obtain ⟨q, cu, rfl, -, -⟩ := h
  have hA : Below w.heap.size w (w.alloc (.cells #[.int .i64 0, .int .i64 0, .slice none 0 0, .slice none 0 0, .slice none 0 0, .int .i64 0, .int .i64 0, .int .i64 0, .int .u8 0, .int .u8 0, .int .u8 0, .int .u8 0, .int .u8 0, .int .u8 0, .int .u8 0, .int .u8 0, .int .u8 0, .int .u8 0, .int .u8 0, .int .u8 0, .int .u8 0, .int .u8 0, .int .u8 0, .int .u8 0, .int .u8 0, .int .u8 0, .int .u8 0, .int .u8 0, .int .u8 0, .int .u8 0, .int .u8 0, .int .u8 0, .int .u8 0, .int .u8 0, .int .u8 0, .int .u8 0, .int .u8 0, .int .u8 0, .int .u8 0, .int .u8 0, .slice none 0 0, .slice none 0 0, .int .i64 0] 116)) := (Below.refl _ _).alloc (Nat.le_refl _) _
  have hz : #[.int .i64 0, .int .i64 0, .slice none 0 0, .slice none 0 0, .slice none 0 0, .int .i64 0, .int .i64 0, .int .i64 0, .int .u8 0, .int .u8 0, .int .u8 0, .int .u8 0, .int .u8 0, .int .u8 0, .int .u8 0, .int .u8 0, .int .u8 0, .int .u8 0, .int .u8 0, .int .u8 0, .int .u8 0, .int .u8 0, .int .u8 0, .int .u8 0, .int .u8 0, .int .u8 0, .int .u8 0, .int .u8 0, .int .u8 0, .int .u8 0, .int .u8 0, .int .u8 0, .int .u8 0, .int .u8 0, .int .u8 0, .int .u8 0, .int .u8 0, .int .u8 0, .int .u8 0, .int .u8 0, .slice none 0 0, .slice none 0 0, .int .i64 0] = tx0.cs.toArray := by kernel_rfl
  have r0 : Row (w.alloc (.cells #[.int .i64 0, .int .i64 0, .slice none 0 0, .slice none 0 0, .slice none 0 0, .int .i64 0, .int .i64 0, .int .i64 0, .int .u8 0, .int .u8 0, .int .u8 0, .int .u8 0, .int .u8 0, .int .u8 0, .int .u8 0, .int .u8 0, .int .u8 0, .int .u8 0, .int .u8 0, .int .u8 0, .int .u8 0, .int .u8 0, .int .u8 0, .int .u8 0, .int .u8 0, .int .u8 0, .int .u8 0, .int .u8 0, .int .u8 0, .int .u8 0, .int .u8 0, .int .u8 0, .int .u8 0, .int .u8 0, .int .u8 0, .int .u8 0, .int .u8 0, .int .u8 0, .int .u8 0, .int .u8 0, .slice none 0 0, .slice none 0 0, .int .i64 0] 116)) w.heap.size 116 tx0.cs.toArray := by rw [← hz]; exact Row.new_at rfl
  have hlenL := Lib.hid hL
  by_cases hlong : 4096 < xs.length
  · obtain ⟨e1, e2⟩ := prT_long hlong
    rw [e1, e2]
    obtain ⟨n0, hn0⟩ : ∃ n, xs.length = n := ⟨_, rfl⟩
    rw [hn0] at hlong ⊢
    have hli : (4096 : Int) < (n0 : Int) := by omega
    have H0 := Lib.hid (show _ ∧ _ from ⟨hA, r0⟩)
    clear HBs hn0 hlong e1 e2 hL hlenL hA r0 hby hz
    go_enter Try.func154, Try.ntmps154
    go_upto_region 2 with (fail)
    refine wp_abs (fun wx => Below w.heap.size w wx ∧ Row wx w.heap.size 116 tx0.cs.toArray) ⟨H0.out.1, H0.out.2⟩ ?_
    rintro w0 ⟨hl, r0⟩
    clear H0
    let L : List Sp := [sO 1 (w.heap.size) 116 [0] (fun g => aggOf g 0)]
    refine wp_region_six0 (shs L) (look6 L) (fun c => c = w.heap.size) (by kernel_rfl) (by kernel_rfl) (mk_St L [1] [1] (by kernel_rfl) (by kernel_rfl) ⟨ok_O aggOf_congr r0.lt (rfl), trivial⟩ (by simp)) ?_
    intro QQ hQ
    refine stepK rfl (by kernel_rfl) (fun K hK => ?_); go_simp
    apply Exists.intro; apply And.intro; (focus (intro wk hk; go_simp; exact ⟨rfl, rfl⟩)); refine hK _ _ ?_; clear hK K
    refine stepS _ rfl (by kernel_rfl) (fun K hK => ?_); go_simp
    refine ⟨?_, ?_⟩
    · exact sStoreO rfl rfl rfl rfl rfl rfl r0 id (by kernel_rfl) (by rw [Txv.size rfl]; rfl) (by kernel_rfl) (by decide) aggOf_congr
    rintro ⟨v1, lo1, hi1⟩ - - (rfl : v1 = undef)
    refine hK _ _ ?_; clear hK K
    refine stepKz rfl (fun K hK => ?_); go_simp
    apply Exists.intro; apply And.intro; (focus (intro wk hk; go_simp; exact ⟨rfl, rfl⟩)); refine hK _ _ ?_; clear hK K
    refine stepN ?_
    refine hQ _ _ ?_
    intro w9 hT hG hF
    have hT' := hT
    have x0 : Row w9 (w.heap.size) 116 (#[.int .i64 0, .int .i64 0, .slice none 0 0, .slice none 0 0, .slice none 0 0, .int .i64 0, .int .i64 0, .int .i64 0, .int .u8 0, .int .u8 0, .int .u8 0, .int .u8 0, .int .u8 0, .int .u8 0, .int .u8 0, .int .u8 0, .int .u8 0, .int .u8 0, .int .u8 0, .int .u8 0, .int .u8 0, .int .u8 0, .int .u8 0, .int .u8 0, .int .u8 0, .int .u8 0, .int .u8 0, .int .u8 0, .int .u8 0, .int .u8 0, .int .u8 0, .int .u8 0, .int .u8 0, .int .u8 0, .int .u8 0, .int .u8 0, .int .u8 0, .int .u8 0, .int .u8 0, .int .u8 0, .slice none 0 0, .slice none 0 0, .int .i64 0]) := hF 1 _ rfl rfl (by decide)
    have H9 := Lib.hid (hl.trans (hT'.below_of hl.size (by intro c hc; have hc' : c = w.heap.size := hc; omega)))
    clear hT hT' hG hF hQ QQ L hl r0 
    go_wp2_with fail
    refine bodyPost_ret (results_ct rfl aggT116 rfl x0 rfl) rfl ?_
    exact ⟨tx0, rfl, by rw [tx0_cs]; first | done | rfl, tx0_ok _, H9.out, tx0_light⟩
  rw [prT_short hlong]
  obtain ⟨k, e1, x1, hg1⟩ := tri (gV 28 (0, xs))
  obtain ⟨f, e2, x2, hg2⟩ := tri (gV 4294967295 (e1, x1))
  have hsn := shp_n (k : Int)
  have hsm := shp_more (k : Int)
  have kO := fun wx => txof_any (k : Int) wx
  unfold OfP at kO
  obtain ⟨S, hS⟩ : ∃ S, shpOf (k : Int) = S := ⟨_, rfl⟩
  rw [hS] at kO hsn hsm
  obtain ⟨sn, st, sa, se, sh, sc⟩ := S
  simp only [Shp.cs] at kO hsn hsm
  obtain ⟨qn, rfl⟩ : ∃ q : Nat, sn = (q : Int) := ⟨sn.toNat, by omega⟩
  obtain ⟨qa, rfl⟩ : ∃ q : Nat, sa = (q : Int) := ⟨sa.toNat, by omega⟩
  obtain ⟨qh, rfl⟩ : ∃ q : Nat, sh = (q : Int) := ⟨sh.toNat, by omega⟩
  obtain ⟨ok, hok⟩ : ∃ b, okK (k : Int) = b := ⟨_, rfl⟩
  rw [hok] at kO
  have ik := gV_I64 28 (0, xs)
  rw [hg1] at ik
  have if_ := gV_I64 4294967295 (e1, x1)
  rw [hg2] at if_
  obtain ⟨N1, e3, x3, hg3⟩ := tri (gMany (gN 1099511627776) qn (e2, x2))
  have iN1 := gNs_I64 qn (e2, x2)
  have lN1 := gMany_len (gN 1099511627776) qn (e2, x2)
  rw [hg3] at iN1 lN1
  simp only at iN1 lN1 ik if_
  obtain ⟨ER, hER⟩ : ∃ x, prE xs = x := ⟨_, rfl⟩
  obtain ⟨KR, hKR⟩ : ∃ x, prK xs = x := ⟨_, rfl⟩
  rw [hER, hKR]
  have HR := Lib.hid (show prE xs = ER ∧ prK xs = KR ∧ prT xs = prE xs from ⟨hER, hKR, prT_short hlong⟩)
  obtain ⟨n0, hn0⟩ : ∃ n, xs.length = n := ⟨_, rfl⟩
  have hli : (n0 : Int) ≤ 4096 := by omega
  rw [hn0] at HBs ⊢
  have kr := HBs.out _ hA
  have hA' := Lib.hid (show _ ∧ _ from ⟨hA, r0⟩)
  have HS := Lib.hid (show shpOf (k : Int) = ⟨(qn : Int), st, (qa : Int), se, (qh : Int), sc⟩ from hS)
  have HM := Lib.hid hsm
  have HK := Lib.hid (show I64 (k : Int) ∧ I64 (f : Int) ∧ (∀ x ∈ N1, I64 x) ∧ N1.length ≤ 3 from ⟨ik, if_, iN1, by omega⟩)
  have HG1 := Lib.hid hg1
  have HG2 := Lib.hid hg2
  have HG3 := Lib.hid hg3
  have hqn : qn ≤ 1000 := by omega
  have hqa : qa ≤ 10 := by have h1 := hsm.1; omega
  have hqh : qh ≤ 10 := by have h1 := hsm.2.1; omega
  replace kr := Lib.hid kr
  replace kO := Lib.hid kO
  have hsa0 : (w.alloc (.cells #[.int .i64 0, .int .i64 0, .slice none 0 0, .slice none 0 0, .slice none 0 0, .int .i64 0, .int .i64 0, .int .i64 0, .int .u8 0, .int .u8 0, .int .u8 0, .int .u8 0, .int .u8 0, .int .u8 0, .int .u8 0, .int .u8 0, .int .u8 0, .int .u8 0, .int .u8 0, .int .u8 0, .int .u8 0, .int .u8 0, .int .u8 0, .int .u8 0, .int .u8 0, .int .u8 0, .int .u8 0, .int .u8 0, .int .u8 0, .int .u8 0, .int .u8 0, .int .u8 0, .int .u8 0, .int .u8 0, .int .u8 0, .int .u8 0, .int .u8 0, .int .u8 0, .int .u8 0, .int .u8 0, .slice none 0 0, .slice none 0 0, .int .i64 0] 116)).heap.size = w.heap.size + 1 := by simp
  have hsa := Lib.hid hsa0
  clear HBs hA r0 hlong hg1 hg2 hg3 hS hok ik if_ iN1 lN1 hER hKR hn0 hL hby hz hsm hsn hsa0
  go_enter Try.func154, Try.ntmps154
  go_wp2_with fail
  refine kr.out.mono ?_
  rintro r wB ⟨g, rfl, hs, hb⟩
  have hgl := hs.1
  have hgw := hs.lt
  have hsB := hb.size
  have r0 := hA'.out.2.below hb hA'.out.2.lt
  have hlB := hA'.out.1.trans (hb.mono hA'.out.1.size)
  have hb0 : w.heap.size < (w.alloc (.cells #[.int .i64 0, .int .i64 0, .slice none 0 0, .slice none 0 0, .slice none 0 0, .int .i64 0, .int .i64 0, .int .i64 0, .int .u8 0, .int .u8 0, .int .u8 0, .int .u8 0, .int .u8 0, .int .u8 0, .int .u8 0, .int .u8 0, .int .u8 0, .int .u8 0, .int .u8 0, .int .u8 0, .int .u8 0, .int .u8 0, .int .u8 0, .int .u8 0, .int .u8 0, .int .u8 0, .int .u8 0, .int .u8 0, .int .u8 0, .int .u8 0, .int .u8 0, .int .u8 0, .int .u8 0, .int .u8 0, .int .u8 0, .int .u8 0, .int .u8 0, .int .u8 0, .int .u8 0, .int .u8 0, .slice none 0 0, .slice none 0 0, .int .i64 0] 116)).heap.size := by rw [hsa.out]; exact Nat.lt_succ_self _
  obtain ⟨lo, hlo⟩ : ∃ x, (w.alloc (.cells #[.int .i64 0, .int .i64 0, .slice none 0 0, .slice none 0 0, .slice none 0 0, .int .i64 0, .int .i64 0, .int .i64 0, .int .u8 0, .int .u8 0, .int .u8 0, .int .u8 0, .int .u8 0, .int .u8 0, .int .u8 0, .int .u8 0, .int .u8 0, .int .u8 0, .int .u8 0, .int .u8 0, .int .u8 0, .int .u8 0, .int .u8 0, .int .u8 0, .int .u8 0, .int .u8 0, .int .u8 0, .int .u8 0, .int .u8 0, .int .u8 0, .int .u8 0, .int .u8 0, .int .u8 0, .int .u8 0, .int .u8 0, .int .u8 0, .int .u8 0, .int .u8 0, .int .u8 0, .int .u8 0, .slice none 0 0, .slice none 0 0, .int .i64 0] 116)).heap.size = x := ⟨_, rfl⟩
  rw [hlo] at hs hgl hb0
  have H1 := Lib.hid (show _ ∧ _ ∧ _ from ⟨hs, r0, hlB⟩)
  clear kr hs hb r0 hlB hA' hlo hsa hsB
  go_upto_region 5 with (fail)
  have hAB : Below wB.heap.size wB (wB.alloc (.cells #[.int .i64 0, .int .i64 0, .slice none 0 0, .slice none 0 0, .slice none 0 0, .int .i64 0, .int .i64 0, .int .i64 0, .int .u8 0, .int .u8 0, .int .u8 0, .int .u8 0, .int .u8 0, .int .u8 0, .int .u8 0, .int .u8 0, .int .u8 0, .int .u8 0, .int .u8 0, .int .u8 0, .int .u8 0, .int .u8 0, .int .u8 0, .int .u8 0, .int .u8 0, .int .u8 0, .int .u8 0, .int .u8 0, .int .u8 0, .int .u8 0, .int .u8 0, .int .u8 0, .int .u8 0, .int .u8 0, .int .u8 0, .int .u8 0, .int .u8 0, .int .u8 0, .int .u8 0, .int .u8 0, .slice none 0 0, .slice none 0 0, .int .i64 0] 116)) := (Below.refl _ _).alloc (Nat.le_refl _) _
  refine wp_abs (fun wx => GT wB wx w.heap.size lo wB.heap.size g 0 xs tx0) ⟨H1.out.1.below hAB, Tr.of hAB, H1.out.2.1.below hAB H1.out.2.1.lt, by rw [← show #[.int .i64 0, .int .i64 0, .slice none 0 0, .slice none 0 0, .slice none 0 0, .int .i64 0, .int .i64 0, .int .i64 0, .int .u8 0, .int .u8 0, .int .u8 0, .int .u8 0, .int .u8 0, .int .u8 0, .int .u8 0, .int .u8 0, .int .u8 0, .int .u8 0, .int .u8 0, .int .u8 0, .int .u8 0, .int .u8 0, .int .u8 0, .int .u8 0, .int .u8 0, .int .u8 0, .int .u8 0, .int .u8 0, .int .u8 0, .int .u8 0, .int .u8 0, .int .u8 0, .int .u8 0, .int .u8 0, .int .u8 0, .int .u8 0, .int .u8 0, .int .u8 0, .int .u8 0, .int .u8 0, .slice none 0 0, .slice none 0 0, .int .i64 0] = tx0.cs.toArray from by kernel_rfl]; exact Row.new_at rfl, hgw, Nat.le_refl _, hb0, hgl, rfl⟩ ?_
  intro w1 G0
  have HB := Lib.hid H1.out.2.2
  have k1 := Lib.hid (svar_V G0.src HG1.out)
  replace G0 := Lib.hid G0
  clear H1 hAB
  go_wp2_with fail
  refine k1.out.mono ?_
  rintro r w2 ⟨rfl, hs, ht⟩
  have G1 := G0.out.call hs ht
  have c0 := (G1.r1.cell 0).trans (tA0 tx0)
  have f0 := G1.r1.frozen 0
  have HG := Lib.hid G1
  clear k1 G0 hs ht G1
  go_upto_region 6 with (fail)
  refine wp_abs (fun wx => GT wB wx w.heap.size lo wB.heap.size g e1 x1 (⟨(k : Int), 0, none, 0, [], none, 0, [], none, 0, [], cm0⟩ : Txv)) (HG.out.put (tr_cell rfl) (Row.congr (Row.set HG.out.r1 0 _) (Txv.setLow (t := tx0) (u := (⟨(k : Int), 0, none, 0, [], none, 0, [], none, 0, [], cm0⟩ : Txv)) rfl rfl (o := 0) (by decide) rfl (fun j h1 h2 => by match j, h1, h2 with | 0, _, h2 => (first | rfl | exact absurd rfl h2) | 1, _, h2 => (first | rfl | exact absurd rfl h2) | 2, _, h2 => (first | rfl | exact absurd rfl h2) | 3, _, h2 => (first | rfl | exact absurd rfl h2) | 4, _, h2 => (first | rfl | exact absurd rfl h2) | j + 5, h1, _ => exact absurd h1 (by omega)))) rfl) ?_
  intro w3 G2
  have k2 := Lib.hid (svar_V G2.src HG2.out)
  replace G2 := Lib.hid G2
  clear HG c0 f0
  go_wp2_with fail
  refine k2.out.mono ?_
  rintro r w4 ⟨rfl, hs, ht⟩
  have G3 := G2.out.call hs ht
  have c0 := (G3.r1.cell 1).trans (tA1 (⟨(k : Int), 0, none, 0, [], none, 0, [], none, 0, [], cm0⟩ : Txv))
  have f0 := G3.r1.frozen 1
  have HG := Lib.hid G3
  clear k2 G2 hs ht G3
  go_upto_region 7 with (fail)
  refine wp_abs (fun wx => GT wB wx w.heap.size lo wB.heap.size g e2 x2 (⟨(k : Int), (f : Int), none, 0, [], none, 0, [], none, 0, [], cm0⟩ : Txv)) (HG.out.put (tr_cell rfl) (Row.congr (Row.set HG.out.r1 1 _) (Txv.setLow (t := (⟨(k : Int), 0, none, 0, [], none, 0, [], none, 0, [], cm0⟩ : Txv)) (u := (⟨(k : Int), (f : Int), none, 0, [], none, 0, [], none, 0, [], cm0⟩ : Txv)) rfl rfl (o := 1) (by decide) rfl (fun j h1 h2 => by match j, h1, h2 with | 0, _, h2 => (first | rfl | exact absurd rfl h2) | 1, _, h2 => (first | rfl | exact absurd rfl h2) | 2, _, h2 => (first | rfl | exact absurd rfl h2) | 3, _, h2 => (first | rfl | exact absurd rfl h2) | 4, _, h2 => (first | rfl | exact absurd rfl h2) | j + 5, h1, _ => exact absurd h1 (by omega)))) rfl) ?_
  intro w5 G4
  have r1 := G4.r1
  have x0 := tA0 (⟨(k : Int), (f : Int), none, 0, [], none, 0, [], none, 0, [], cm0⟩ : Txv)
  have HG := Lib.hid G4
  clear c0 f0 G4
  let L : List Sp := [sV 2 [] [] (fun u => u = .tuple #[.agg #[.int .i64 (qn : Int), .bool st, .int .i64 (qa : Int), .bool se, .int .i64 (qh : Int), .bool sc], .bool ok]), sA 6 107 [7] #[.int .i64 0, .bool false, .int .i64 0, .bool false, .int .i64 0, .bool false], sT 7 6 107 [4] (fun g => aggOf g 4)]
  refine wp_region_six0 (shs L) (look6 L) (None_) (by kernel_rfl) (by kernel_rfl) (mk_St L [] [] (by kernel_rfl) (by kernel_rfl) ⟨ok_V ⟨_, rfl⟩, ok_A, ok_T aggOf_congr, trivial⟩ (by simp)) ?_
  intro QQ hQ
  refine stepK rfl (by kernel_rfl) (fun K hK => ?_); go_simp
  apply Exists.intro; apply And.intro; (focus (intro wk hk; go_simp; exact ⟨rfl, rfl⟩)); refine hK _ _ ?_; clear hK K
  refine stepK rfl (by kernel_rfl) (fun K hK => ?_); go_simp
  apply Exists.intro; apply And.intro; (focus (intro wk hk; have cc : wk.cell? ⟨wB.heap.size, 0, none⟩ = some (.int .i64 (k : Int)) := ((K6.Row.tr r1 hk id).cell 0).trans x0; go_simp; exact ⟨rfl, rfl⟩)); refine hK _ _ ?_; clear hK K
  refine stepS _ rfl (by kernel_rfl) (fun K hK => ?_); go_simp
  refine ⟨?_, ?_⟩
  · intro wk hk hg hu; go_simp; refine upon_enter ((kO.out _).mono ?_); rintro e w' ⟨rfl, hb⟩; exact ⟨_, rfl, left_V (p := fun u => u = .tuple #[.agg #[.int .i64 (qn : Int), .bool st, .int .i64 (qa : Int), .bool se, .int .i64 (qh : Int), .bool sc], .bool ok]) rfl (hb) rfl⟩
  rintro ⟨v2, lo2, hi2⟩ - - (rfl : v2 = _)
  refine hK _ _ ?_; clear hK K
  refine stepK rfl (by kernel_rfl) (fun K hK => ?_); go_simp
  apply Exists.intro; apply And.intro; (focus (intro wk hk; go_simp; exact ⟨rfl, rfl⟩)); refine hK _ _ ?_; clear hK K
  refine stepK rfl (by kernel_rfl) (fun K hK => ?_); go_simp
  apply Exists.intro; apply And.intro; (focus (intro wk hk; go_simp; exact ⟨rfl, rfl⟩)); refine hK _ _ ?_; clear hK K
  refine stepK rfl (by kernel_rfl) (fun K hK => ?_); go_simp
  apply Exists.intro; apply And.intro; (focus (intro wk hk; go_simp; exact ⟨rfl, rfl⟩)); refine hK _ _ ?_; clear hK K
  refine stepS _ rfl (by kernel_rfl) (fun K hK => ?_); go_simp
  refine ⟨?_, ?_⟩
  · intro wk hk hg hu; go_simp; exact left_A rfl rfl
  rintro ⟨v6, lo6, hi6⟩ hlo6 hhi6 ⟨e6, f6⟩
  replace e6 : v6 = .pointer (some ⟨lo6, 0, none⟩) := e6; replace f6 : hi6 = lo6 + 1 := f6; replace hlo6 : _ ≤ lo6 := hlo6; subst e6; subst f6
  refine hK _ _ ?_; clear hK K
  refine stepS _ rfl (by kernel_rfl) (fun K hK => ?_); go_simp
  refine ⟨?_, ?_⟩
  · exact sStoreT rfl rfl rfl rfl rfl rfl rfl (by kernel_rfl) rfl (by kernel_rfl) (by decide) aggOf_congr
  rintro ⟨v7, lo7, hi7⟩ - - (rfl : v7 = undef)
  refine hK _ _ ?_; clear hK K
  refine stepK rfl (by kernel_rfl) (fun K hK => ?_); go_simp
  apply Exists.intro; apply And.intro; (focus (intro wk hk; go_simp; exact ⟨rfl, rfl⟩)); refine hK _ _ ?_; clear hK K
  refine stepN ?_
  refine hQ _ _ ?_
  intro w6 hT hG hF
  have hb6 := hT.below
  have r6 : Row w6 lo6 107 (#[.int .i64 (qn : Int), .bool st, .int .i64 (qa : Int), .bool se, .int .i64 (qh : Int), .bool sc]) := (hF 7 _ rfl rfl (by decide)).2
  have hS6 : wB.heap.size < lo6 := by have := r1.lt; omega
  have G5 : GT wB w6 w.heap.size lo wB.heap.size g e2 x2 (⟨(k : Int), (f : Int), none, 0, [], none, 0, [], none, 0, [], cm0⟩ : Txv) := HG.out.call (HG.out.src.below hb6) (Tr.of hb6)
  have k3 := Lib.hid (numbers_at G5.src (Nat.le_trans (Nat.le_succ _) (Nat.succ_le_of_lt G5.r1.lt)) qn hqn HG3.out)
  have e0 := r6.cell 0
  have HG5 := Lib.hid (show _ ∧ Row w6 lo6 107 (#[.int .i64 (qn : Int), .bool st, .int .i64 (qa : Int), .bool se, .int .i64 (qh : Int), .bool sc]) from ⟨G5, r6⟩)
  clear hT hG hF hQ QQ L hb6 r6 G5 r1 x0 HG kO hlo6 hhi6
  go_wp2_with fail
  refine k3.out.mono ?_
  rintro r w7 ⟨v, rfl, ho, hs, ht⟩
  obtain ⟨nq, nc, hv⟩ := own_sl ho
  have hv' := hv
  subst hv
  have G6 := HG5.out.1.call hs ht
  have r6 := K6.Row.tr HG5.out.2 ht (by omega)
  have c0 := (G6.r1.cell 2).trans (tA2 (⟨(k : Int), (f : Int), none, 0, [], none, 0, [], none, 0, [], cm0⟩ : Txv))
  have f0 := G6.r1.frozen 2
  have ho1 : Oi w7 (lo6 + 1) (.slice nq N1.length nc) N1 := own_base ho (Nat.succ_le_of_lt HG5.out.2.lt)
  have HG6 := Lib.hid (show _ ∧ Row w7 lo6 107 (#[.int .i64 (qn : Int), .bool st, .int .i64 (qa : Int), .bool se, .int .i64 (qh : Int), .bool sc]) ∧ _ from ⟨G6, r6, ho1⟩)
  clear k3 HG5 hs ht G6 r6 e0 ho hv' ho1
  go_upto_region 9 with (fail)
  refine wp_abs (fun wx => GT wB wx w.heap.size lo wB.heap.size g e3 x3 (⟨(k : Int), (f : Int), nq, nc, N1, none, 0, [], none, 0, [], cm0⟩ : Txv) ∧ Row wx lo6 107 (#[.int .i64 (qn : Int), .bool st, .int .i64 (qa : Int), .bool se, .int .i64 (qh : Int), .bool sc]) ∧ Oi wx (lo6 + 1) (.slice nq N1.length nc) N1) ⟨HG6.out.1.put (tr_cell rfl) (Row.congr (Row.set HG6.out.1.r1 2 _) (Txv.setLow (t := (⟨(k : Int), (f : Int), none, 0, [], none, 0, [], none, 0, [], cm0⟩ : Txv)) (u := (⟨(k : Int), (f : Int), nq, nc, N1, none, 0, [], none, 0, [], cm0⟩ : Txv)) rfl rfl (o := 2) (by decide) rfl (fun j h1 h2 => by match j, h1, h2 with | 0, _, h2 => (first | rfl | exact absurd rfl h2) | 1, _, h2 => (first | rfl | exact absurd rfl h2) | 2, _, h2 => (first | rfl | exact absurd rfl h2) | 3, _, h2 => (first | rfl | exact absurd rfl h2) | 4, _, h2 => (first | rfl | exact absurd rfl h2) | j + 5, h1, _ => exact absurd h1 (by omega)))) rfl, K6.Row.tr HG6.out.2.1 (tr_cell (X := fun b => b = wB.heap.size) rfl) (by omega), own_tr HG6.out.2.2 (tr_cell (X := fun b => b = wB.heap.size) rfl) (fun b hb hx => by have hx' : b = wB.heap.size := hx; have h1 := (own_lt HG6.out.2.2 b hb).1; omega)⟩ ?_
  rintro w8 ⟨G7, r6, hoN⟩
  have e0 := r6.cell 0
  have e1_ := r6.cell 1
  have e2_ := r6.cell 2
  have e3_ := r6.cell 3
  have HG7 := Lib.hid (show _ ∧ Row w8 lo6 107 (#[.int .i64 (qn : Int), .bool st, .int .i64 (qa : Int), .bool se, .int .i64 (qh : Int), .bool sc]) ∧ _ from ⟨G7, r6, hoN⟩)
  clear HG6 c0 f0 G7 r6 hoN
  cases st
  · have hse : se = false := by
      cases se
      · rfl
      · exact absurd (HM.out.2.2.1 rfl) (by decide)
    subst hse
    replace HG7 := Lib.hid (show _ ∧ Row w8 lo6 107 (#[.int .i64 (qn : Int), .bool false, .int .i64 (qa : Int), .bool false, .int .i64 (qh : Int), .bool sc]) ∧ Oi w8 (wB.heap.size + 1) (.slice nq N1.length nc) N1 from ⟨HG7.out.1, HG7.out.2.1, own_base HG7.out.2.2 (by omega)⟩)
    obtain ⟨LA, e6, x6, hg6⟩ := tri (gMany gA qa (e3, x3))
    obtain ⟨LH, e7, x7, hg7⟩ := tri (gMany gH qh (e6, x6))
    have iA := gAs_ltM qa (s := (e3, x3)) HG7.out.1.src.byy
    have lA := gMany_len gA qa (e3, x3)
    rw [hg6] at iA lA
    simp only at iA lA
    have HA := Lib.hid (show _ ∧ _ ∧ _ ∧ _ from ⟨iA, lA, hg6, hg7⟩)
    have k4 := Lib.hid (manyU_at HG7.out.1.src (Nat.le_trans (Nat.le_succ _) (Nat.succ_le_of_lt HG7.out.1.r1.lt)) qa (by omega) hg6)
    clear hg6 hg7 iA lA
    go_wp2_with fail
    refine k4.out.mono ?_
    rintro r w9 ⟨v, rfl, ho, hs, ht⟩
    obtain ⟨aq, ac, hv⟩ := own_sl ho
    have hv' := hv
    subst hv
    have G8 := HG7.out.1.call hs ht
    have r6 := K6.Row.tr HG7.out.2.1 ht (by omega)
    have hoN := own_tr HG7.out.2.2 ht (fun b hb hx => by have hx' : b = g := hx; have h1 := (own_lt HG7.out.2.2 b hb).1; omega)
    have c0 := (G8.r1.cell 3).trans (tA3 (⟨(k : Int), (f : Int), nq, nc, N1, none, 0, [], none, 0, [], cm0⟩ : Txv))
    have f0 := G8.r1.frozen 3
    have hoA : Oe w9 (wB.heap.size + 1) (.slice aq LA.length ac) LA := own_base ho (by have := HG7.out.1.r1.lt; omega)
    have HG8 := Lib.hid (show _ ∧ Row w9 lo6 107 (#[.int .i64 (qn : Int), .bool false, .int .i64 (qa : Int), .bool false, .int .i64 (qh : Int), .bool sc]) ∧ _ ∧ _ from ⟨G8, r6, hoN, hoA⟩)
    clear k4 HG7 hs ht G8 r6 hoN hoA ho hv' e0 e1_ e2_ e3_
    go_upto_region 16 with (fail)
    refine wp_abs (fun wx => GT wB wx w.heap.size lo wB.heap.size g e6 x6 (⟨(k : Int), (f : Int), nq, nc, N1, aq, ac, LA, none, 0, [], cm0⟩ : Txv) ∧ Row wx lo6 107 (#[.int .i64 (qn : Int), .bool false, .int .i64 (qa : Int), .bool false, .int .i64 (qh : Int), .bool sc]) ∧ Oi wx (wB.heap.size + 1) (.slice nq (N1).length nc) (N1) ∧ Oe wx (wB.heap.size + 1) (.slice aq LA.length ac) LA) ⟨HG8.out.1.put (tr_cell rfl) (Row.congr (Row.set HG8.out.1.r1 3 _) (Txv.setLow (t := (⟨(k : Int), (f : Int), nq, nc, N1, none, 0, [], none, 0, [], cm0⟩ : Txv)) (u := (⟨(k : Int), (f : Int), nq, nc, N1, aq, ac, LA, none, 0, [], cm0⟩ : Txv)) rfl rfl (o := 3) (by decide) rfl (fun j h1 h2 => by match j, h1, h2 with | 0, _, h2 => (first | rfl | exact absurd rfl h2) | 1, _, h2 => (first | rfl | exact absurd rfl h2) | 2, _, h2 => (first | rfl | exact absurd rfl h2) | 3, _, h2 => (first | rfl | exact absurd rfl h2) | 4, _, h2 => (first | rfl | exact absurd rfl h2) | j + 5, h1, _ => exact absurd h1 (by omega)))) rfl, K6.Row.tr HG8.out.2.1 (tr_cell (X := fun b => b = wB.heap.size) rfl) (by omega), own_tr HG8.out.2.2.1 (tr_cell (X := fun b => b = wB.heap.size) rfl) (fun b hb hx => by have hx' : b = wB.heap.size := hx; have h1 := (own_lt HG8.out.2.2.1 b hb).1; omega), own_tr HG8.out.2.2.2 (tr_cell (X := fun b => b = wB.heap.size) rfl) (fun b hb hx => by have hx' : b = wB.heap.size := hx; have h1 := (own_lt HG8.out.2.2.2 b hb).1; omega)⟩ ?_
    rintro w10 ⟨G9, r6, hoN, hoA⟩
    have e4_ := r6.cell 4
    have k5 := Lib.hid (manyH_at G9.src (Nat.le_trans (Nat.le_succ _) (Nat.succ_le_of_lt G9.r1.lt)) qh (by omega) HA.out.2.2.2)
    have iH := gHs_ok qh (s := (e6, x6)) G9.src.byy
    have lH := gMany_len gH qh (e6, x6)
    rw [HA.out.2.2.2] at iH lH
    have HHs := Lib.hid (show HsOk LH ∧ LH.length ≤ qh from ⟨iH, lH⟩)
    have HG9 := Lib.hid (show _ ∧ Row w10 lo6 107 (#[.int .i64 (qn : Int), .bool false, .int .i64 (qa : Int), .bool false, .int .i64 (qh : Int), .bool sc]) ∧ _ ∧ _ from ⟨G9, r6, hoN, hoA⟩)
    clear HG8 c0 f0 G9 r6 hoN hoA iH lH
    go_wp2_with fail
    refine k5.out.mono ?_
    rintro r w11 ⟨v, rfl, ho, hs, ht⟩
    obtain ⟨hq, hc, hv⟩ := own_sl ho
    have hv' := hv
    subst hv
    have G10 := HG9.out.1.call hs ht
    have r6 := K6.Row.tr HG9.out.2.1 ht (by omega)
    have hoN := own_tr HG9.out.2.2.1 ht (fun b hb hx => by have hx' : b = g := hx; have h1 := (own_lt HG9.out.2.2.1 b hb).1; omega)
    have hoA := own_tr HG9.out.2.2.2 ht (fun b hb hx => by have hx' : b = g := hx; have h1 := (own_lt HG9.out.2.2.2 b hb).1; omega)
    have c0 := (G10.r1.cell 4).trans (tA4 (⟨(k : Int), (f : Int), nq, nc, N1, aq, ac, LA, none, 0, [], cm0⟩ : Txv))
    have f0 := G10.r1.frozen 4
    have hoH : Oh w11 (wB.heap.size + 1) (.slice hq LH.length hc) LH := own_base ho (by have := HG9.out.1.r1.lt; omega)
    have HG10 := Lib.hid (show _ ∧ Row w11 lo6 107 (#[.int .i64 (qn : Int), .bool false, .int .i64 (qa : Int), .bool false, .int .i64 (qh : Int), .bool sc]) ∧ _ ∧ _ ∧ _ from ⟨G10, r6, hoN, hoA, hoH⟩)
    clear k5 HG9 hs ht G10 r6 hoN hoA hoH ho hv' e4_
    go_upto_region 17 with (fail)
    refine wp_abs (fun wx => GT wB wx w.heap.size lo wB.heap.size g e7 x7 (⟨(k : Int), (f : Int), nq, nc, N1, aq, ac, LA, hq, hc, LH, cm0⟩ : Txv) ∧ Row wx lo6 107 (#[.int .i64 (qn : Int), .bool false, .int .i64 (qa : Int), .bool false, .int .i64 (qh : Int), .bool sc]) ∧ GO wx (wB.heap.size + 1) (⟨(k : Int), (f : Int), nq, nc, N1, aq, ac, LA, hq, hc, LH, cm0⟩ : Txv)) ⟨HG10.out.1.put (tr_cell rfl) (Row.congr (Row.set HG10.out.1.r1 4 _) (Txv.setLow (t := (⟨(k : Int), (f : Int), nq, nc, N1, aq, ac, LA, none, 0, [], cm0⟩ : Txv)) (u := (⟨(k : Int), (f : Int), nq, nc, N1, aq, ac, LA, hq, hc, LH, cm0⟩ : Txv)) rfl rfl (o := 4) (by decide) rfl (fun j h1 h2 => by match j, h1, h2 with | 0, _, h2 => (first | rfl | exact absurd rfl h2) | 1, _, h2 => (first | rfl | exact absurd rfl h2) | 2, _, h2 => (first | rfl | exact absurd rfl h2) | 3, _, h2 => (first | rfl | exact absurd rfl h2) | 4, _, h2 => (first | rfl | exact absurd rfl h2) | j + 5, h1, _ => exact absurd h1 (by omega)))) rfl, K6.Row.tr HG10.out.2.1 (tr_cell (X := fun b => b = wB.heap.size) rfl) (by omega), (show GO w11 (wB.heap.size + 1) (⟨(k : Int), (f : Int), nq, nc, N1, aq, ac, LA, hq, hc, LH, cm0⟩ : Txv) from ⟨HG10.out.2.2.1, HG10.out.2.2.2.1, HG10.out.2.2.2.2, CmIn.zero _ _⟩).keep (tr_cell (X := fun b => b = wB.heap.size) rfl) (fun b hb hx => by have hx' : b = wB.heap.size := hx; omega)⟩ ?_
    rintro w12 ⟨G11, r6, GO11⟩
    have e5_ := r6.cell 5
    have HG11 := Lib.hid (show _ ∧ _ from ⟨G11, GO11⟩)
    clear HG10 c0 f0 G11 r6 GO11
    cases sc
    · have ke := end_at HG11.out.1.src
      obtain ⟨er, her⟩ : ∃ er, edE e7 x7 = er := ⟨_, rfl⟩
      rw [her] at ke
      replace ke := Lib.hid ke
      have hTX := gTx_parts (xs := xs) (CK := cm0.key) (e8 := e7) (x8 := x7) (k := k) (f := f) (e1 := e1) (x1 := x1) (e2 := e2) (x2 := x2) (e3 := e3) (x3 := x3) (N1 := N1) (LA := LA) (LH := LH) (e6 := e6) (x6 := x6) (e7 := e7) (x7 := x7) (e4 := e3) (x4 := x3) (tl := 0) (N2 := []) (e5 := e3) (x5 := x3) (h1 := HG1.out) (h2 := HG2.out) (h3 := by rw [HS.out]; exact HG3.out) (h4 := by rw [HS.out]; rfl) (h5 := rfl) (h6 := by rw [HS.out]; exact HA.out.2.2.1) (h7 := by rw [HS.out]; exact HA.out.2.2.2) (h8 := by rw [HS.out]; rfl)
      rw [List.append_nil] at hTX
      obtain ⟨KT, hKT⟩ : ∃ K, (⟨(k : Int), (f : Int), nq, nc, N1, aq, ac, LA, hq, hc, LH, cm0⟩ : Txv).key = K := ⟨_, rfl⟩
      have hKT2 : gTx (0, xs) = (KT, e7, x7) := by rw [← hKT]; exact hTX
      have hpu : PureT KT := by
        rw [← hKT]
        exact ⟨HK.out.1, HK.out.2.1, HK.out.2.2.1, HA.out.1, HHs.out.1⟩
      have hli : LightT (⟨(k : Int), (f : Int), nq, nc, N1, aq, ac, LA, hq, hc, LH, cm0⟩ : Txv) := ⟨by show N1.length ≤ 50; have := HK.out.2.2.2; omega, by show LA.length ≤ 50; have := HA.out.2.1; omega, by show LH.length ≤ 50; have := HHs.out.2; omega, by show ([] : List (List Int)).length ≤ 50; decide, by show ([] : List Lf).length ≤ 50; decide, fun x hx => (by cases hx)⟩
      have HX := Lib.hid (show _ ∧ _ ∧ _ ∧ _ ∧ _ from ⟨hKT2, hpu, hli, hKT, her⟩)
      clear hTX hKT2 hpu hli hKT her
      go_wp2_with fail
      refine ke.out.mono ?_
      rintro r wE ⟨rfl, hs, ht⟩
      have GE := HG11.out.1.call hs ht
      have GOE := HG11.out.2.keep ht (fun b hb hx => by have hx' : b = g := hx; omega)
      have hlE : Below w.heap.size w wE := HB.out.trans (GE.tr.below_of HB.out.size (by intro c hc; have hc' : c = g := hc; have := GE.lg; have := GE.b0l; omega))
      clear ke hs ht HG11 e5_
      by_cases hE : er = 0
      case neg =>
        have hne : (er != 0) = true := by rw [bne_iff_ne]; exact hE
        have hEq := Lib.hid (show prE xs = er ∧ prK xs = tx0K from by
          have e1 : prE xs = er := by unfold prE; rw [HX.out.1]; simp only; rw [HX.out.2.2.2.2, if_neg hE]
          exact ⟨e1, by unfold prK; rw [HR.out.2.2, e1, if_neg hE]⟩)
        have hl := hlE
        have r0 := GE.r0
        clear GE GOE hE hlE
        go_upto_region 21 with (fail)
        let L : List Sp := [sO 2 (w.heap.size) 116 [0] (fun g => aggOf g 0)]
        refine wp_region_six0 (shs L) (look6 L) (fun c => c = w.heap.size) (by kernel_rfl) (by kernel_rfl) (mk_St L [2] [2] (by kernel_rfl) (by kernel_rfl) ⟨ok_O aggOf_congr r0.lt (rfl), trivial⟩ (by simp)) ?_
        intro QQ hQ
        refine stepK rfl (by kernel_rfl) (fun K hK => ?_); go_simp
        apply Exists.intro; apply And.intro; (focus (intro wk hk; go_simp; exact ⟨rfl, rfl⟩)); refine hK _ _ ?_; clear hK K
        refine stepKz rfl (fun K hK => ?_); go_simp
        apply Exists.intro; apply And.intro; (focus (intro wk hk; go_simp; exact ⟨rfl, rfl⟩)); refine hK _ _ ?_; clear hK K
        refine stepS _ rfl (by kernel_rfl) (fun K hK => ?_); go_simp
        refine ⟨?_, ?_⟩
        · exact sStoreO rfl rfl rfl rfl rfl rfl r0 id (by kernel_rfl) (by rw [Txv.size rfl]; rfl) (by kernel_rfl) (by decide) aggOf_congr
        rintro ⟨v2, lo2, hi2⟩ - - (rfl : v2 = undef)
        refine hK _ _ ?_; clear hK K
        refine stepKz rfl (fun K hK => ?_); go_simp
        apply Exists.intro; apply And.intro; (focus (intro wk hk; go_simp; exact ⟨rfl, rfl⟩)); refine hK _ _ ?_; clear hK K
        refine stepN ?_
        refine hQ _ _ ?_
        intro w9 hT hG hF
        have hT' := hT
        have x0 : Row w9 (w.heap.size) 116 (#[.int .i64 0, .int .i64 0, .slice none 0 0, .slice none 0 0, .slice none 0 0, .int .i64 0, .int .i64 0, .int .i64 0, .int .u8 0, .int .u8 0, .int .u8 0, .int .u8 0, .int .u8 0, .int .u8 0, .int .u8 0, .int .u8 0, .int .u8 0, .int .u8 0, .int .u8 0, .int .u8 0, .int .u8 0, .int .u8 0, .int .u8 0, .int .u8 0, .int .u8 0, .int .u8 0, .int .u8 0, .int .u8 0, .int .u8 0, .int .u8 0, .int .u8 0, .int .u8 0, .int .u8 0, .int .u8 0, .int .u8 0, .int .u8 0, .int .u8 0, .int .u8 0, .int .u8 0, .int .u8 0, .slice none 0 0, .slice none 0 0, .int .i64 0]) := hF 2 _ rfl rfl (by decide)
        have H9 := Lib.hid (hl.trans (hT'.below_of hl.size (by intro c hc; have hc' : c = w.heap.size := hc; omega)))
        clear hT hT' hG hF hQ QQ L hl r0 
        go_step; go_step; go_step
        simp only [Exit.then]
        refine bodyPost_ret (results_ct rfl aggT116 rfl x0 rfl) rfl ?_
        exact ⟨tx0, by rw [← HR.out.2.1, hEq.out.2]; rfl, by rw [← HR.out.1, hEq.out.1, tx0_cs]; first | done | rfl, tx0_ok _, H9.out, tx0_light⟩
      subst hE
      obtain ⟨bg, hbg⟩ : ∃ b, goodK KT = b := ⟨_, rfl⟩
      have hTok : TxOk wE (⟨(k : Int), (f : Int), nq, nc, N1, aq, ac, LA, hq, hc, LH, cm0⟩ : Txv) := GOE.ok (by rw [HX.out.2.2.2.1]; exact HX.out.2.1)
      have kg := fun wx (hb : Below wE.heap.size wE wx) => good_at (⟨(k : Int), (f : Int), nq, nc, N1, aq, ac, LA, hq, hc, LH, cm0⟩ : Txv) wx (hTok.below hb) HX.out.2.2.1
      simp only [HX.out.2.2.2.1, hbg] at kg
      have hszT : (⟨(k : Int), (f : Int), nq, nc, N1, aq, ac, LA, hq, hc, LH, cm0⟩ : Txv).cs.toArray.size = 43 := Txv.size GE.tk
      have hone := Txv.one (⟨(k : Int), (f : Int), nq, nc, N1, aq, ac, LA, hq, hc, LH, cm0⟩ : Txv)
      have r1 := GE.r1
      have r0 := GE.r0
      obtain ⟨TB, hTB⟩ : ∃ A, (⟨(k : Int), (f : Int), nq, nc, N1, aq, ac, LA, hq, hc, LH, cm0⟩ : Txv).cs.toArray = A := ⟨_, rfl⟩
      simp only [hTB] at kg
      rw [hTB] at hszT hone r1
      have hPE := Lib.hid (show prE xs = (if bg = true then 0 else 2) from by unfold prE; rw [HX.out.1]; simp only; rw [HX.out.2.2.2.2, if_pos rfl, hbg])
      have hKb := Lib.hid hbg
      replace kg := Lib.hid kg
      have HT := Lib.hid (show _ ∧ _ from ⟨GOE, hTB⟩)
      have hl := hlE
      clear GE GOE hlE hbg hTok hTB
      go_upto_region 22 with (fail)
      cases bg
      · have hp2 : prE xs = 2 := hPE.out
        have hEq := Lib.hid (show prE xs = 2 ∧ prK xs = tx0K from ⟨hp2, by unfold prK; rw [HR.out.2.2, hp2, if_neg (by decide)]⟩)
        clear hp2
        let L : List Sp := [sV 1 [] [] (fun u => u = .bool false)]
        refine wp_region_six0 (shs L) (look6 L) (None_) (by kernel_rfl) (by kernel_rfl) (mk_St L [] [] (by kernel_rfl) (by kernel_rfl) ⟨ok_V ⟨_, rfl⟩, trivial⟩ (by simp)) ?_
        intro QQ hQ
        refine stepK rfl (by kernel_rfl) (fun K hK => ?_); go_simp
        apply Exists.intro; apply And.intro; (focus exact kLoad rfl rfl aggT116 r1 hszT id); refine hK _ _ ?_; clear hK K
        refine stepS _ rfl (by kernel_rfl) (fun K hK => ?_); go_simp
        refine ⟨?_, ?_⟩
        · intro wk hk hg hu; go_simp; refine upon_enter ((kg.out _ hk.below).mono ?_); rintro e w' ⟨rfl, hb⟩; exact ⟨_, rfl, left_V (p := fun u => u = .bool false) rfl (hb) rfl⟩
        rintro ⟨v1, lo1, hi1⟩ - - (rfl : v1 = _)
        refine hK _ _ ?_; clear hK K
        refine stepK rfl (by kernel_rfl) (fun K hK => ?_); go_simp
        apply Exists.intro; apply And.intro; (focus (intro wk hk; go_simp; exact ⟨rfl, rfl⟩)); refine hK _ _ ?_; clear hK K
        refine stepN ?_
        refine hQ _ _ ?_
        intro wG hT hG hF
        have hbG := hT.below
        have r0 := r0.below hbG r0.lt
        have r1 := r1.below hbG r1.lt
        have hl := hl.trans (hbG.mono hl.size)
        have HTG := Lib.hid (show GO wG (wB.heap.size + 1) (⟨(k : Int), (f : Int), nq, nc, N1, aq, ac, LA, hq, hc, LH, cm0⟩ : Txv) from HT.out.1.keep (X := None_) (Tr.of hbG) (fun _ _ => id))
        clear hT hG hF hQ QQ L hbG kg
        go_upto_region 23 with (fail)
        let L : List Sp := [sO 1 (w.heap.size) 116 [0] (fun g => aggOf g 0)]
        refine wp_region_six0 (shs L) (look6 L) (fun c => c = w.heap.size) (by kernel_rfl) (by kernel_rfl) (mk_St L [1] [1] (by kernel_rfl) (by kernel_rfl) ⟨ok_O aggOf_congr r0.lt (rfl), trivial⟩ (by simp)) ?_
        intro QQ hQ
        refine stepK rfl (by kernel_rfl) (fun K hK => ?_); go_simp
        apply Exists.intro; apply And.intro; (focus (intro wk hk; go_simp; exact ⟨rfl, rfl⟩)); refine hK _ _ ?_; clear hK K
        refine stepS _ rfl (by kernel_rfl) (fun K hK => ?_); go_simp
        refine ⟨?_, ?_⟩
        · exact sStoreO rfl rfl rfl rfl rfl rfl r0 id (by kernel_rfl) (by rw [Txv.size rfl]; rfl) (by kernel_rfl) (by decide) aggOf_congr
        rintro ⟨v1, lo1, hi1⟩ - - (rfl : v1 = undef)
        refine hK _ _ ?_; clear hK K
        refine stepKz rfl (fun K hK => ?_); go_simp
        apply Exists.intro; apply And.intro; (focus (intro wk hk; go_simp; exact ⟨rfl, rfl⟩)); refine hK _ _ ?_; clear hK K
        refine stepN ?_
        refine hQ _ _ ?_
        intro w9 hT hG hF
        have hT' := hT
        have x0 : Row w9 (w.heap.size) 116 (#[.int .i64 0, .int .i64 0, .slice none 0 0, .slice none 0 0, .slice none 0 0, .int .i64 0, .int .i64 0, .int .i64 0, .int .u8 0, .int .u8 0, .int .u8 0, .int .u8 0, .int .u8 0, .int .u8 0, .int .u8 0, .int .u8 0, .int .u8 0, .int .u8 0, .int .u8 0, .int .u8 0, .int .u8 0, .int .u8 0, .int .u8 0, .int .u8 0, .int .u8 0, .int .u8 0, .int .u8 0, .int .u8 0, .int .u8 0, .int .u8 0, .int .u8 0, .int .u8 0, .int .u8 0, .int .u8 0, .int .u8 0, .int .u8 0, .int .u8 0, .int .u8 0, .int .u8 0, .int .u8 0, .slice none 0 0, .slice none 0 0, .int .i64 0]) := hF 1 _ rfl rfl (by decide)
        have H9 := Lib.hid (hl.trans (hT'.below_of hl.size (by intro c hc; have hc' : c = w.heap.size := hc; omega)))
        clear hT hT' hG hF hQ QQ L hl r0 r1
        go_step; go_step; go_step
        simp only [Exit.then]
        refine bodyPost_ret (results_ct rfl aggT116 rfl x0 rfl) rfl ?_
        exact ⟨tx0, by rw [← HR.out.2.1, hEq.out.2]; rfl, by rw [← HR.out.1, hEq.out.1, tx0_cs]; first | done | rfl, tx0_ok _, H9.out, tx0_light⟩
      · have hp2 : prE xs = 0 := hPE.out
        have hEq := Lib.hid (show prE xs = 0 ∧ prK xs = KT from ⟨hp2, by unfold prK; rw [HR.out.2.2, hp2, if_pos rfl, HX.out.1]⟩)
        clear hp2
        let L : List Sp := [sV 1 [] [] (fun u => u = .bool true)]
        refine wp_region_six0 (shs L) (look6 L) (None_) (by kernel_rfl) (by kernel_rfl) (mk_St L [] [] (by kernel_rfl) (by kernel_rfl) ⟨ok_V ⟨_, rfl⟩, trivial⟩ (by simp)) ?_
        intro QQ hQ
        refine stepK rfl (by kernel_rfl) (fun K hK => ?_); go_simp
        apply Exists.intro; apply And.intro; (focus exact kLoad rfl rfl aggT116 r1 hszT id); refine hK _ _ ?_; clear hK K
        refine stepS _ rfl (by kernel_rfl) (fun K hK => ?_); go_simp
        refine ⟨?_, ?_⟩
        · intro wk hk hg hu; go_simp; refine upon_enter ((kg.out _ hk.below).mono ?_); rintro e w' ⟨rfl, hb⟩; exact ⟨_, rfl, left_V (p := fun u => u = .bool true) rfl (hb) rfl⟩
        rintro ⟨v1, lo1, hi1⟩ - - (rfl : v1 = _)
        refine hK _ _ ?_; clear hK K
        refine stepK rfl (by kernel_rfl) (fun K hK => ?_); go_simp
        apply Exists.intro; apply And.intro; (focus (intro wk hk; go_simp; exact ⟨rfl, rfl⟩)); refine hK _ _ ?_; clear hK K
        refine stepN ?_
        refine hQ _ _ ?_
        intro wG hT hG hF
        have hbG := hT.below
        have r0 := r0.below hbG r0.lt
        have r1 := r1.below hbG r1.lt
        have hl := hl.trans (hbG.mono hl.size)
        have HTG := Lib.hid (show GO wG (wB.heap.size + 1) (⟨(k : Int), (f : Int), nq, nc, N1, aq, ac, LA, hq, hc, LH, cm0⟩ : Txv) from HT.out.1.keep (X := None_) (Tr.of hbG) (fun _ _ => id))
        clear hT hG hF hQ QQ L hbG kg
        have hinf := info116 hszT
        have hszz : tx0.cs.toArray.size = TB.size := by rw [hszT]; exact Txv.size rfl
        go_upto_region 24 with (fail)
        let L : List Sp := [sO 1 (w.heap.size) 116 [0] (fun g => aggOf g 0)]
        refine wp_region_six0 (shs L) (look6 L) (fun c => c = w.heap.size) (by kernel_rfl) (by kernel_rfl) (mk_St L [1] [1] (by kernel_rfl) (by kernel_rfl) ⟨ok_O aggOf_congr r0.lt (rfl), trivial⟩ (by simp)) ?_
        intro QQ hQ
        refine stepK rfl (by kernel_rfl) (fun K hK => ?_); go_simp
        apply Exists.intro; apply And.intro; (focus exact kLoad rfl rfl aggT116 r1 hszT id); refine hK _ _ ?_; clear hK K
        refine stepS _ rfl (by kernel_rfl) (fun K hK => ?_); go_simp
        refine ⟨?_, ?_⟩
        · exact sStoreO rfl rfl rfl rfl rfl rfl r0 id hinf hszz hone (by decide) aggOf_congr
        rintro ⟨v1, lo1, hi1⟩ - - (rfl : v1 = undef)
        refine hK _ _ ?_; clear hK K
        refine stepKz rfl (fun K hK => ?_); go_simp
        apply Exists.intro; apply And.intro; (focus (intro wk hk; go_simp; exact ⟨rfl, rfl⟩)); refine hK _ _ ?_; clear hK K
        refine stepN ?_
        refine hQ _ _ ?_
        intro wF hT hG hF
        have hT' := hT
        have x0 : Row wF w.heap.size 116 TB := hF 1 _ rfl rfl (by decide)
        have hGOf := HTG.out.keep hT' (fun b hb hx => by have hx' : b = w.heap.size := hx; have := HB.out.size; omega)
        have hokf := Lib.hid (hGOf.ok (by rw [HX.out.2.2.2.1]; exact HX.out.2.1))
        have hB9 := Lib.hid (hl.trans (hT'.below_of hl.size (by intro c hc; have hc' : c = w.heap.size := hc; omega)))
        clear hT hT' hG hF hQ QQ L hl r0 r1 hGOf HTG
        go_step; go_step; go_step
        refine bodyPost_ret (results_ct rfl aggT116 rfl x0 hszT) rfl ?_
        exact ⟨(⟨(k : Int), (f : Int), nq, nc, N1, aq, ac, LA, hq, hc, LH, cm0⟩ : Txv), by rw [← HR.out.2.1, hEq.out.2]; exact HX.out.2.2.2.1, by rw [← HR.out.1, hEq.out.1, HT.out.2]; first | done | rfl, hokf.out, hB9.out, HX.out.2.2.1⟩
    · obtain ⟨CK, e8, x8, hg8⟩ := tri (gCl (e7, x7))
      have hlens := gCl_lens (e7, x7)
      rw [hg8] at hlens
      simp only at hlens
      have HCL := Lib.hid (show _ ∧ _ from ⟨hg8, hlens⟩)
      obtain ⟨G11, GO11⟩ := HG11.out
      have src := G11.src
      have r1 := G11.r1
      have hgw2 := G11.gh
      have hhw := Nat.le_trans (Nat.le_succ _) (Nat.succ_le_of_lt G11.r1.lt)
      have k6 : ∀ wk, Tr None_ w12 wk → Calls Try.prog 227 #[.pointer (some ⟨g, 0, none⟩)] wk (ClP wk lo wB.heap.size g CK e8 x8) := fun wk hk => getClaim_at (src.keep hk fun _ _ _ => id) (Nat.le_trans hhw hk.size) hg8
      replace k6 := Lib.hid k6
      obtain ⟨TA, hTA⟩ : ∃ A, (⟨(k : Int), (f : Int), nq, nc, N1, aq, ac, LA, hq, hc, LH, cm0⟩ : Txv).cs.toArray = A := ⟨_, rfl⟩
      have hTs : (⟨(k : Int), (f : Int), nq, nc, N1, aq, ac, LA, hq, hc, LH, cm0⟩ : Txv).cs.toArray.size = 43 := Txv.size rfl
      rw [hTA] at r1 hTs
      clear hg8 hlens
      go_upto_region 18 with (fail)
      let L : List Sp := [sU 1 [] [] [] g (fun b => lo ≤ b ∧ b < wB.heap.size) (fun x => ∃ c : Cm, x.v = .agg c.cs.toArray ∧ c.tok.length = 32) (fun x w => (∃ c : Cm, x.v = .agg c.cs.toArray ∧ c.key = CK ∧ CmIn w x.lo c ∧ (∀ b, c.pv.ownBlock = some b → b < x.hi) ∧ (∀ b, c.lv.ownBlock = some b → b < x.hi) ∧ ∀ y ∈ c.l, ∀ b, y.pv.ownBlock = some b → b < x.hi) ∧ SA w lo wB.heap.size g e8 x8), sO 3 (wB.heap.size) 116 [1] (fun gh => setL TA 5 (aggOf gh 1).toList)]
      refine wp_region_six0 (shs L) (look6 L) (fun c => c = g ∨ c = wB.heap.size) (by kernel_rfl) (by kernel_rfl) (mk_St L [1, 3] [1, 3] (by kernel_rfl) (by kernel_rfl) ⟨ok_U ⟨⟨.agg cm0.cs.toArray, w12.heap.size, w12.heap.size⟩, Nat.le_refl _, Nat.le_refl _, cm0, rfl, rfl⟩ (fun x wa wb h hT => cmx_loc x wa wb h hT) src.lt (.inl rfl) (fun b hb => Nat.lt_of_lt_of_le hb.2 hhw), ok_O (fun g g' h => by show setL TA 5 (aggOf g' 1).toList = setL TA 5 (aggOf g 1).toList; unfold aggOf; rw [h 1 (by simp)]) r1.lt (.inr rfl), trivial⟩ (by intro i hi j hj hne b hb hx; simp only [List.mem_cons, List.not_mem_nil, or_false] at hi hj; rcases hi with rfl | rfl <;> rcases hj with rfl | rfl <;> first | exact absurd rfl hne | (have h1 : lo ≤ b ∧ b < wB.heap.size := hb; have h2 : b = wB.heap.size := hx; omega) | (have h1 : b = wB.heap.size := hb; have h2 : b = g := hx; omega))) ?_
      intro QQ hQ
      refine stepK rfl (by kernel_rfl) (fun K hK => ?_); go_simp
      apply Exists.intro; apply And.intro; (focus (intro wk hk; go_simp; exact ⟨rfl, rfl⟩)); refine hK _ _ ?_; clear hK K
      refine stepS _ rfl (by kernel_rfl) (fun K hK => ?_); go_simp
      refine ⟨?_, ?_⟩
      · intro wk hk hg hu; go_simp; refine upon_enter ((k6.out _ hk).mono ?_); rintro e w' ⟨CC, hk9, rfl, hc9, hs, ht⟩; exact ⟨_, rfl, left_U (p := fun x => ∃ c : Cm, x.v = .agg c.cs.toArray ∧ c.tok.length = 32) (f := (fun x w => (∃ c : Cm, x.v = .agg c.cs.toArray ∧ c.key = CK ∧ CmIn w x.lo c ∧ (∀ b, c.pv.ownBlock = some b → b < x.hi) ∧ (∀ b, c.lv.ownBlock = some b → b < x.hi) ∧ ∀ y ∈ c.l, ∀ b, y.pv.ownBlock = some b → b < x.hi) ∧ SA w lo wB.heap.size g e8 x8)) rfl rfl ⟨CC, rfl, hc9.ok.tok⟩ ht ⟨⟨CC, rfl, hk9, hc9, fun b hb => (hc9.pb b hb).2, fun b hb => (hc9.lb b hb).2, fun y hy b hb => (hc9.qb y hy b hb).2⟩, hs⟩⟩
      rintro ⟨v1, lo1, hi1⟩ hlo1 hhi1 ⟨CV, (rfl : v1 = _), hCV⟩
      refine hK _ _ ?_; clear hK K
      refine stepKx [1] (fun c => c = g) rfl (by kernel_rfl) (by intro i hi b hb; simp only [List.mem_cons, List.not_mem_nil, or_false] at hi; subst hi; exact hb) (fun K hK => ?_); go_simp
      apply Exists.intro; apply And.intro; (focus (intro wk hk; go_simp; exact ⟨rfl, rfl⟩)); refine hK _ _ ?_; clear hK K
      refine stepSx _ [1] (fun c => c = g) rfl (by kernel_rfl) (by intro i hi b hb; simp only [List.mem_cons, List.not_mem_nil, or_false] at hi; subst hi; exact hb) (fun K hK => ?_); go_simp
      refine ⟨?_, ?_⟩
      · exact sStoreMid rfl rfl rfl rfl rfl r1 (by intro hc; have hc2 : wB.heap.size = g := hc; omega) rfl (by rw [Cm.size hCV, hTs]; decide) (info114' (Cm.size hCV)) CV.one (by decide) (fun g g' h => by show setL TA 5 (aggOf g' 1).toList = setL TA 5 (aggOf g 1).toList; unfold aggOf; rw [h 1 (by simp)])
      rintro ⟨v3, lo3, hi3⟩ - - (rfl : v3 = undef)
      refine hK _ _ ?_; clear hK K
      refine stepN ?_
      refine hQ _ _ ?_
      intro w13 hT hG hF
      have hT' := hT
      obtain ⟨⟨CC, hCv, hCK, hCI, -, -, -⟩, src13⟩ : (∃ c : Cm, (Value.agg CV.cs.toArray) = .agg c.cs.toArray ∧ c.key = CK ∧ CmIn w13 lo1 c ∧ (∀ b, c.pv.ownBlock = some b → b < hi1) ∧ (∀ b, c.lv.ownBlock = some b → b < hi1) ∧ ∀ y ∈ c.l, ∀ b, y.pv.ownBlock = some b → b < hi1) ∧ SA w13 lo wB.heap.size g e8 x8 := hF 1 _ rfl rfl (by decide)
      have r13 : Row w13 wB.heap.size 116 (setL TA 5 CV.cs.toArray.toList) := hF 3 _ rfl rfl (by decide)
      have hCe : CV.cs.toArray = CC.cs.toArray := by injection hCv
      rw [hCe, ← hTA, Txv.setC (t := (⟨(k : Int), (f : Int), nq, nc, N1, aq, ac, LA, hq, hc, LH, cm0⟩ : Txv)) (u := (⟨(k : Int), (f : Int), nq, nc, N1, aq, ac, LA, hq, hc, LH, CC⟩ : Txv)) rfl hCI.ok.tok rfl rfl rfl rfl rfl] at r13
      have hkeepT : Tr (fun b => b = g ∨ b = wB.heap.size) w12 w13 := hT'
      have G12 : GT wB w13 w.heap.size lo wB.heap.size g e8 x8 (⟨(k : Int), (f : Int), nq, nc, N1, aq, ac, LA, hq, hc, LH, CC⟩ : Txv) := ⟨src13, G11.tr.trans_new hT' (fun b hb hlt => by rcases hb with hb | hb; exact hb; omega), K6.Row.tr G11.r0 hT' (by have := G11.b0l; have := G11.lg; intro hc; rcases hc with hc | hc <;> omega), r13, G11.gh, G11.hh, G11.b0l, G11.lg, hCI.ok.tok⟩
      replace hlo1 : w12.heap.size ≤ lo1 := hlo1
      have hlo1' : wB.heap.size + 1 ≤ lo1 := by have := G11.r1.lt; omega
      have GO12 : GO w13 (wB.heap.size + 1) (⟨(k : Int), (f : Int), nq, nc, N1, aq, ac, LA, hq, hc, LH, CC⟩ : Txv) := by
        have h9 := GO11.keep hT' (fun b hb hx => by rcases hx with hx | hx <;> omega)
        exact ⟨h9.n, h9.a, h9.h, hCI.base hlo1'⟩
      have HG13 := Lib.hid (show _ ∧ _ from ⟨G12, GO12⟩)
      have HCK := Lib.hid (show CC.key = CK from hCK)
      clear hT hT' hG hF hQ QQ L G11 GO11 src r1 k6 hTA hTs hCv hCI src13 r13 hCe hkeepT G12 GO12 hCK HG11 hlo1 hhi1 hlo1'
      have ke := end_at HG13.out.1.src
      obtain ⟨er, her⟩ : ∃ er, edE e8 x8 = er := ⟨_, rfl⟩
      rw [her] at ke
      replace ke := Lib.hid ke
      have hTX := gTx_parts (xs := xs) (CK := CK) (e8 := e8) (x8 := x8) (k := k) (f := f) (e1 := e1) (x1 := x1) (e2 := e2) (x2 := x2) (e3 := e3) (x3 := x3) (N1 := N1) (LA := LA) (LH := LH) (e6 := e6) (x6 := x6) (e7 := e7) (x7 := x7) (e4 := e3) (x4 := x3) (tl := 0) (N2 := []) (e5 := e3) (x5 := x3) (h1 := HG1.out) (h2 := HG2.out) (h3 := by rw [HS.out]; exact HG3.out) (h4 := by rw [HS.out]; rfl) (h5 := rfl) (h6 := by rw [HS.out]; exact HA.out.2.2.1) (h7 := by rw [HS.out]; exact HA.out.2.2.2) (h8 := by rw [HS.out]; exact HCL.out.1)
      rw [List.append_nil] at hTX
      obtain ⟨KT, hKT⟩ : ∃ K, (⟨(k : Int), (f : Int), nq, nc, N1, aq, ac, LA, hq, hc, LH, CC⟩ : Txv).key = K := ⟨_, rfl⟩
      have hKT2 : gTx (0, xs) = (KT, e8, x8) := by rw [← hKT]; rw [← HCK.out] at hTX; exact hTX
      have hpu : PureT KT := by
        rw [← hKT]
        exact ⟨HK.out.1, HK.out.2.1, HK.out.2.2.1, HA.out.1, HHs.out.1⟩
      have hli : LightT (⟨(k : Int), (f : Int), nq, nc, N1, aq, ac, LA, hq, hc, LH, CC⟩ : Txv) := ⟨by show N1.length ≤ 50; have := HK.out.2.2.2; omega, by show LA.length ≤ 50; have := HA.out.2.1; omega, by show LH.length ≤ 50; have := HHs.out.2; omega, by have h := HCL.out.2.1; rw [← HCK.out] at h; have h2 : CC.p.length ≤ 10 := h; show CC.p.length ≤ 50; omega, by have h := HCL.out.2.2.1; rw [← HCK.out] at h; have h2 : (CC.l.map Lf.key).length ≤ 8 := h; rw [List.length_map] at h2; show CC.l.length ≤ 50; omega, fun x hx => by have h := HCL.out.2.2.2; rw [← HCK.out] at h; have h2 := h x.key (List.mem_map.2 ⟨x, hx, rfl⟩); have h3 : x.p.length ≤ 10 := h2; omega⟩
      have HX := Lib.hid (show _ ∧ _ ∧ _ ∧ _ ∧ _ from ⟨hKT2, hpu, hli, hKT, her⟩)
      clear hTX hKT2 hpu hli hKT her
      go_wp2_with fail
      refine ke.out.mono ?_
      rintro r wE ⟨rfl, hs, ht⟩
      have GE := HG13.out.1.call hs ht
      have GOE := HG13.out.2.keep ht (fun b hb hx => by have hx' : b = g := hx; omega)
      have hlE : Below w.heap.size w wE := HB.out.trans (GE.tr.below_of HB.out.size (by intro c hc; have hc' : c = g := hc; have := GE.lg; have := GE.b0l; omega))
      clear ke hs ht HG13 e5_
      by_cases hE : er = 0
      case neg =>
        have hne : (er != 0) = true := by rw [bne_iff_ne]; exact hE
        have hEq := Lib.hid (show prE xs = er ∧ prK xs = tx0K from by
          have e1 : prE xs = er := by unfold prE; rw [HX.out.1]; simp only; rw [HX.out.2.2.2.2, if_neg hE]
          exact ⟨e1, by unfold prK; rw [HR.out.2.2, e1, if_neg hE]⟩)
        have hl := hlE
        have r0 := GE.r0
        clear GE GOE hE hlE
        go_upto_region 21 with (fail)
        let L : List Sp := [sO 2 (w.heap.size) 116 [0] (fun g => aggOf g 0)]
        refine wp_region_six0 (shs L) (look6 L) (fun c => c = w.heap.size) (by kernel_rfl) (by kernel_rfl) (mk_St L [2] [2] (by kernel_rfl) (by kernel_rfl) ⟨ok_O aggOf_congr r0.lt (rfl), trivial⟩ (by simp)) ?_
        intro QQ hQ
        refine stepK rfl (by kernel_rfl) (fun K hK => ?_); go_simp
        apply Exists.intro; apply And.intro; (focus (intro wk hk; go_simp; exact ⟨rfl, rfl⟩)); refine hK _ _ ?_; clear hK K
        refine stepKz rfl (fun K hK => ?_); go_simp
        apply Exists.intro; apply And.intro; (focus (intro wk hk; go_simp; exact ⟨rfl, rfl⟩)); refine hK _ _ ?_; clear hK K
        refine stepS _ rfl (by kernel_rfl) (fun K hK => ?_); go_simp
        refine ⟨?_, ?_⟩
        · exact sStoreO rfl rfl rfl rfl rfl rfl r0 id (by kernel_rfl) (by rw [Txv.size rfl]; rfl) (by kernel_rfl) (by decide) aggOf_congr
        rintro ⟨v2, lo2, hi2⟩ - - (rfl : v2 = undef)
        refine hK _ _ ?_; clear hK K
        refine stepKz rfl (fun K hK => ?_); go_simp
        apply Exists.intro; apply And.intro; (focus (intro wk hk; go_simp; exact ⟨rfl, rfl⟩)); refine hK _ _ ?_; clear hK K
        refine stepN ?_
        refine hQ _ _ ?_
        intro w9 hT hG hF
        have hT' := hT
        have x0 : Row w9 (w.heap.size) 116 (#[.int .i64 0, .int .i64 0, .slice none 0 0, .slice none 0 0, .slice none 0 0, .int .i64 0, .int .i64 0, .int .i64 0, .int .u8 0, .int .u8 0, .int .u8 0, .int .u8 0, .int .u8 0, .int .u8 0, .int .u8 0, .int .u8 0, .int .u8 0, .int .u8 0, .int .u8 0, .int .u8 0, .int .u8 0, .int .u8 0, .int .u8 0, .int .u8 0, .int .u8 0, .int .u8 0, .int .u8 0, .int .u8 0, .int .u8 0, .int .u8 0, .int .u8 0, .int .u8 0, .int .u8 0, .int .u8 0, .int .u8 0, .int .u8 0, .int .u8 0, .int .u8 0, .int .u8 0, .int .u8 0, .slice none 0 0, .slice none 0 0, .int .i64 0]) := hF 2 _ rfl rfl (by decide)
        have H9 := Lib.hid (hl.trans (hT'.below_of hl.size (by intro c hc; have hc' : c = w.heap.size := hc; omega)))
        clear hT hT' hG hF hQ QQ L hl r0 
        go_step; go_step; go_step
        simp only [Exit.then]
        refine bodyPost_ret (results_ct rfl aggT116 rfl x0 rfl) rfl ?_
        exact ⟨tx0, by rw [← HR.out.2.1, hEq.out.2]; rfl, by rw [← HR.out.1, hEq.out.1, tx0_cs]; first | done | rfl, tx0_ok _, H9.out, tx0_light⟩
      subst hE
      obtain ⟨bg, hbg⟩ : ∃ b, goodK KT = b := ⟨_, rfl⟩
      have hTok : TxOk wE (⟨(k : Int), (f : Int), nq, nc, N1, aq, ac, LA, hq, hc, LH, CC⟩ : Txv) := GOE.ok (by rw [HX.out.2.2.2.1]; exact HX.out.2.1)
      have kg := fun wx (hb : Below wE.heap.size wE wx) => good_at (⟨(k : Int), (f : Int), nq, nc, N1, aq, ac, LA, hq, hc, LH, CC⟩ : Txv) wx (hTok.below hb) HX.out.2.2.1
      simp only [HX.out.2.2.2.1, hbg] at kg
      have hszT : (⟨(k : Int), (f : Int), nq, nc, N1, aq, ac, LA, hq, hc, LH, CC⟩ : Txv).cs.toArray.size = 43 := Txv.size GE.tk
      have hone := Txv.one (⟨(k : Int), (f : Int), nq, nc, N1, aq, ac, LA, hq, hc, LH, CC⟩ : Txv)
      have r1 := GE.r1
      have r0 := GE.r0
      obtain ⟨TB, hTB⟩ : ∃ A, (⟨(k : Int), (f : Int), nq, nc, N1, aq, ac, LA, hq, hc, LH, CC⟩ : Txv).cs.toArray = A := ⟨_, rfl⟩
      simp only [hTB] at kg
      rw [hTB] at hszT hone r1
      have hPE := Lib.hid (show prE xs = (if bg = true then 0 else 2) from by unfold prE; rw [HX.out.1]; simp only; rw [HX.out.2.2.2.2, if_pos rfl, hbg])
      have hKb := Lib.hid hbg
      replace kg := Lib.hid kg
      have HT := Lib.hid (show _ ∧ _ from ⟨GOE, hTB⟩)
      have hl := hlE
      clear GE GOE hlE hbg hTok hTB
      go_upto_region 22 with (fail)
      cases bg
      · have hp2 : prE xs = 2 := hPE.out
        have hEq := Lib.hid (show prE xs = 2 ∧ prK xs = tx0K from ⟨hp2, by unfold prK; rw [HR.out.2.2, hp2, if_neg (by decide)]⟩)
        clear hp2
        let L : List Sp := [sV 1 [] [] (fun u => u = .bool false)]
        refine wp_region_six0 (shs L) (look6 L) (None_) (by kernel_rfl) (by kernel_rfl) (mk_St L [] [] (by kernel_rfl) (by kernel_rfl) ⟨ok_V ⟨_, rfl⟩, trivial⟩ (by simp)) ?_
        intro QQ hQ
        refine stepK rfl (by kernel_rfl) (fun K hK => ?_); go_simp
        apply Exists.intro; apply And.intro; (focus exact kLoad rfl rfl aggT116 r1 hszT id); refine hK _ _ ?_; clear hK K
        refine stepS _ rfl (by kernel_rfl) (fun K hK => ?_); go_simp
        refine ⟨?_, ?_⟩
        · intro wk hk hg hu; go_simp; refine upon_enter ((kg.out _ hk.below).mono ?_); rintro e w' ⟨rfl, hb⟩; exact ⟨_, rfl, left_V (p := fun u => u = .bool false) rfl (hb) rfl⟩
        rintro ⟨v1, lo1, hi1⟩ - - (rfl : v1 = _)
        refine hK _ _ ?_; clear hK K
        refine stepK rfl (by kernel_rfl) (fun K hK => ?_); go_simp
        apply Exists.intro; apply And.intro; (focus (intro wk hk; go_simp; exact ⟨rfl, rfl⟩)); refine hK _ _ ?_; clear hK K
        refine stepN ?_
        refine hQ _ _ ?_
        intro wG hT hG hF
        have hbG := hT.below
        have r0 := r0.below hbG r0.lt
        have r1 := r1.below hbG r1.lt
        have hl := hl.trans (hbG.mono hl.size)
        have HTG := Lib.hid (show GO wG (wB.heap.size + 1) (⟨(k : Int), (f : Int), nq, nc, N1, aq, ac, LA, hq, hc, LH, CC⟩ : Txv) from HT.out.1.keep (X := None_) (Tr.of hbG) (fun _ _ => id))
        clear hT hG hF hQ QQ L hbG kg
        go_upto_region 23 with (fail)
        let L : List Sp := [sO 1 (w.heap.size) 116 [0] (fun g => aggOf g 0)]
        refine wp_region_six0 (shs L) (look6 L) (fun c => c = w.heap.size) (by kernel_rfl) (by kernel_rfl) (mk_St L [1] [1] (by kernel_rfl) (by kernel_rfl) ⟨ok_O aggOf_congr r0.lt (rfl), trivial⟩ (by simp)) ?_
        intro QQ hQ
        refine stepK rfl (by kernel_rfl) (fun K hK => ?_); go_simp
        apply Exists.intro; apply And.intro; (focus (intro wk hk; go_simp; exact ⟨rfl, rfl⟩)); refine hK _ _ ?_; clear hK K
        refine stepS _ rfl (by kernel_rfl) (fun K hK => ?_); go_simp
        refine ⟨?_, ?_⟩
        · exact sStoreO rfl rfl rfl rfl rfl rfl r0 id (by kernel_rfl) (by rw [Txv.size rfl]; rfl) (by kernel_rfl) (by decide) aggOf_congr
        rintro ⟨v1, lo1, hi1⟩ - - (rfl : v1 = undef)
        refine hK _ _ ?_; clear hK K
        refine stepKz rfl (fun K hK => ?_); go_simp
        apply Exists.intro; apply And.intro; (focus (intro wk hk; go_simp; exact ⟨rfl, rfl⟩)); refine hK _ _ ?_; clear hK K
        refine stepN ?_
        refine hQ _ _ ?_
        intro w9 hT hG hF
        have hT' := hT
        have x0 : Row w9 (w.heap.size) 116 (#[.int .i64 0, .int .i64 0, .slice none 0 0, .slice none 0 0, .slice none 0 0, .int .i64 0, .int .i64 0, .int .i64 0, .int .u8 0, .int .u8 0, .int .u8 0, .int .u8 0, .int .u8 0, .int .u8 0, .int .u8 0, .int .u8 0, .int .u8 0, .int .u8 0, .int .u8 0, .int .u8 0, .int .u8 0, .int .u8 0, .int .u8 0, .int .u8 0, .int .u8 0, .int .u8 0, .int .u8 0, .int .u8 0, .int .u8 0, .int .u8 0, .int .u8 0, .int .u8 0, .int .u8 0, .int .u8 0, .int .u8 0, .int .u8 0, .int .u8 0, .int .u8 0, .int .u8 0, .int .u8 0, .slice none 0 0, .slice none 0 0, .int .i64 0]) := hF 1 _ rfl rfl (by decide)
        have H9 := Lib.hid (hl.trans (hT'.below_of hl.size (by intro c hc; have hc' : c = w.heap.size := hc; omega)))
        clear hT hT' hG hF hQ QQ L hl r0 r1
        go_step; go_step; go_step
        simp only [Exit.then]
        refine bodyPost_ret (results_ct rfl aggT116 rfl x0 rfl) rfl ?_
        exact ⟨tx0, by rw [← HR.out.2.1, hEq.out.2]; rfl, by rw [← HR.out.1, hEq.out.1, tx0_cs]; first | done | rfl, tx0_ok _, H9.out, tx0_light⟩
      · have hp2 : prE xs = 0 := hPE.out
        have hEq := Lib.hid (show prE xs = 0 ∧ prK xs = KT from ⟨hp2, by unfold prK; rw [HR.out.2.2, hp2, if_pos rfl, HX.out.1]⟩)
        clear hp2
        let L : List Sp := [sV 1 [] [] (fun u => u = .bool true)]
        refine wp_region_six0 (shs L) (look6 L) (None_) (by kernel_rfl) (by kernel_rfl) (mk_St L [] [] (by kernel_rfl) (by kernel_rfl) ⟨ok_V ⟨_, rfl⟩, trivial⟩ (by simp)) ?_
        intro QQ hQ
        refine stepK rfl (by kernel_rfl) (fun K hK => ?_); go_simp
        apply Exists.intro; apply And.intro; (focus exact kLoad rfl rfl aggT116 r1 hszT id); refine hK _ _ ?_; clear hK K
        refine stepS _ rfl (by kernel_rfl) (fun K hK => ?_); go_simp
        refine ⟨?_, ?_⟩
        · intro wk hk hg hu; go_simp; refine upon_enter ((kg.out _ hk.below).mono ?_); rintro e w' ⟨rfl, hb⟩; exact ⟨_, rfl, left_V (p := fun u => u = .bool true) rfl (hb) rfl⟩
        rintro ⟨v1, lo1, hi1⟩ - - (rfl : v1 = _)
        refine hK _ _ ?_; clear hK K
        refine stepK rfl (by kernel_rfl) (fun K hK => ?_); go_simp
        apply Exists.intro; apply And.intro; (focus (intro wk hk; go_simp; exact ⟨rfl, rfl⟩)); refine hK _ _ ?_; clear hK K
        refine stepN ?_
        refine hQ _ _ ?_
        intro wG hT hG hF
        have hbG := hT.below
        have r0 := r0.below hbG r0.lt
        have r1 := r1.below hbG r1.lt
        have hl := hl.trans (hbG.mono hl.size)
        have HTG := Lib.hid (show GO wG (wB.heap.size + 1) (⟨(k : Int), (f : Int), nq, nc, N1, aq, ac, LA, hq, hc, LH, CC⟩ : Txv) from HT.out.1.keep (X := None_) (Tr.of hbG) (fun _ _ => id))
        clear hT hG hF hQ QQ L hbG kg
        have hinf := info116 hszT
        have hszz : tx0.cs.toArray.size = TB.size := by rw [hszT]; exact Txv.size rfl
        go_upto_region 24 with (fail)
        let L : List Sp := [sO 1 (w.heap.size) 116 [0] (fun g => aggOf g 0)]
        refine wp_region_six0 (shs L) (look6 L) (fun c => c = w.heap.size) (by kernel_rfl) (by kernel_rfl) (mk_St L [1] [1] (by kernel_rfl) (by kernel_rfl) ⟨ok_O aggOf_congr r0.lt (rfl), trivial⟩ (by simp)) ?_
        intro QQ hQ
        refine stepK rfl (by kernel_rfl) (fun K hK => ?_); go_simp
        apply Exists.intro; apply And.intro; (focus exact kLoad rfl rfl aggT116 r1 hszT id); refine hK _ _ ?_; clear hK K
        refine stepS _ rfl (by kernel_rfl) (fun K hK => ?_); go_simp
        refine ⟨?_, ?_⟩
        · exact sStoreO rfl rfl rfl rfl rfl rfl r0 id hinf hszz hone (by decide) aggOf_congr
        rintro ⟨v1, lo1, hi1⟩ - - (rfl : v1 = undef)
        refine hK _ _ ?_; clear hK K
        refine stepKz rfl (fun K hK => ?_); go_simp
        apply Exists.intro; apply And.intro; (focus (intro wk hk; go_simp; exact ⟨rfl, rfl⟩)); refine hK _ _ ?_; clear hK K
        refine stepN ?_
        refine hQ _ _ ?_
        intro wF hT hG hF
        have hT' := hT
        have x0 : Row wF w.heap.size 116 TB := hF 1 _ rfl rfl (by decide)
        have hGOf := HTG.out.keep hT' (fun b hb hx => by have hx' : b = w.heap.size := hx; have := HB.out.size; omega)
        have hokf := Lib.hid (hGOf.ok (by rw [HX.out.2.2.2.1]; exact HX.out.2.1))
        have hB9 := Lib.hid (hl.trans (hT'.below_of hl.size (by intro c hc; have hc' : c = w.heap.size := hc; omega)))
        clear hT hT' hG hF hQ QQ L hl r0 r1 hGOf HTG
        go_step; go_step; go_step
        refine bodyPost_ret (results_ct rfl aggT116 rfl x0 hszT) rfl ?_
        exact ⟨(⟨(k : Int), (f : Int), nq, nc, N1, aq, ac, LA, hq, hc, LH, CC⟩ : Txv), by rw [← HR.out.2.1, hEq.out.2]; exact HX.out.2.2.2.1, by rw [← HR.out.1, hEq.out.1, HT.out.2]; first | done | rfl, hokf.out, hB9.out, HX.out.2.2.1⟩
  · obtain ⟨tl, e4, x4, hg4⟩ := tri (gV 8 (e3, x3))
    obtain ⟨N2, e5, x5, hg5⟩ := tri (gMany (gN 1099511627776) tl (e4, x4))
    have htl8 : tl ≤ 8 := by
      have h1 := gV_most (most := 8) (s := (e3, x3)) (by decide)
      rw [hg4] at h1
      simp only at h1
      omega
    have iN2 := gNs_I64 tl (e4, x4)
    have lN2 := gMany_len (gN 1099511627776) tl (e4, x4)
    rw [hg5] at iN2 lN2
    simp only at iN2 lN2
    have HT4 := Lib.hid (show gN 8 (e3, x3) = ((tl : Int), e4, x4) ∧ gMany (gN 1099511627776) tl (e4, x4) = (N2, e5, x5) ∧ (∀ x ∈ N2, I64 x) ∧ N2.length ≤ 8 from ⟨by unfold gN; rw [hg4], hg5, iN2, by omega⟩)
    have iNN := Lib.hid (show ∀ x ∈ N1 ++ N2, I64 x from fun x hx => (List.mem_append.1 hx).elim (HK.out.2.2.1 x) (HT4.out.2.2.1 x))
    have k4 := Lib.hid (svar_V HG7.out.1.src hg4)
    clear hg4 iN2 lN2
    go_wp2_with fail
    refine k4.out.mono ?_
    rintro r w9 ⟨rfl, hs, ht⟩
    have G8 := HG7.out.1.call hs ht
    have r6 := K6.Row.tr HG7.out.2.1 ht (by omega)
    have hoN := own_tr HG7.out.2.2 ht (fun b hb hx => by have hx' : b = g := hx; have h1 := (own_lt HG7.out.2.2 b hb).1; omega)
    have src := G8.src
    have r1 := G8.r1
    have hhw := Nat.le_trans (Nat.le_succ _) (Nat.succ_le_of_lt G8.r1.lt)
    have hgw2 := G8.gh
    have d2 := tA2 (⟨(k : Int), (f : Int), nq, nc, N1, none, 0, [], none, 0, [], cm0⟩ : Txv)
    obtain ⟨TA, hTA⟩ : ∃ A, (⟨(k : Int), (f : Int), nq, nc, N1, none, 0, [], none, 0, [], cm0⟩ : Txv).cs.toArray = A := ⟨_, rfl⟩
    rw [hTA] at r1 d2
    have hL12 : N1.length + N2.length ≤ 1000000 := by have h1 := HK.out.2.2.2; have h2 := HT4.out.2.2.2; omega
    have hown : ∀ b, (Value.slice nq N1.length nc).ownBlock = some b → (b = g ∨ b = wB.heap.size ∨ (Value.slice nq N1.length nc).ownBlock = some b) ∧ b < w9.heap.size := fun b hb => ⟨.inr (.inr hb), (own_lt hoN b hb).2⟩
    have k5 : ∀ wk, Tr None_ w9 wk → Calls Try.prog 224 #[.pointer (some ⟨g, 0, none⟩), .int .i64 (tl : Int)] wk (ManP Oi wk lo wB.heap.size g N2 e5 x5) := fun wk hk => numbers_at (src.keep hk fun _ _ _ => id) (Nat.le_trans hhw hk.size) tl (by omega) hg5
    replace k5 := Lib.hid k5
    have hoN' : Oi w9 (wB.heap.size + 1) (.slice nq N1.length nc) N1 := own_base hoN (by omega)
    have HX12 := Lib.hid (show _ ∧ Row w9 lo6 107 (#[.int .i64 (qn : Int), .bool true, .int .i64 (qa : Int), .bool se, .int .i64 (qh : Int), .bool sc]) ∧ _ from ⟨G8, r6, hoN⟩)
    replace hoN := hoN'
    clear k4 HG7 hs ht hg5 e0 e1_ e2_ e3_ hoN' G8 r6
    go_upto_region 12 with (fail)
    let L : List Sp := [sU 4 [] [] [] g (fun b => lo ≤ b ∧ b < wB.heap.size) (fun x => ∃ q c, x.v = .slice q N2.length c) (fun x w => (Oi w x.lo x.v N2 ∧ ∀ b, x.v.ownBlock = some b → b < x.hi) ∧ SA w lo wB.heap.size g e5 x5), sPz 5 [4] [4] (wB.heap.size + 1) 3 1 (.slice nq N1.length nc) (N1.length + N2.length) (N1.flatMap icl ++ N2.flatMap icl), sO 7 (wB.heap.size) 116 [5, 4] (fun gh => TA.setIfInBounds 2 (gh 5).v)]
    refine wp_region_six (shs L) (look6 L) (fun c => c = g ∨ c = wB.heap.size ∨ (Value.slice nq N1.length nc).ownBlock = some c) (by kernel_rfl) (by kernel_rfl) (mk_St L [4, 5, 7] [4, 5, 7] (by kernel_rfl) (by kernel_rfl) ⟨ok_U ⟨⟨.slice none N2.length 0, w9.heap.size, w9.heap.size⟩, Nat.le_refl _, Nat.le_refl _, none, 0, rfl⟩ (fun x wa wb h hT => oix_loc x wa wb h hT) src.lt (.inl rfl) (fun b hb => Nat.lt_of_lt_of_le hb.2 hhw), ok_Pz ⟨_, _, _, rfl⟩ hown, ok_O (fun g g' h => by rw [h 5 (by simp)]) r1.lt (.inr (.inl rfl)), trivial⟩ (by intro i hi j hj hne b hb hx; simp only [List.mem_cons, List.not_mem_nil, or_false] at hi hj; rcases hi with rfl | rfl | rfl <;> rcases hj with rfl | rfl | rfl <;> first | exact absurd rfl hne | (have h1 : lo ≤ b ∧ b < wB.heap.size := hb; have h2 : b = wB.heap.size := hx; omega) | (have h1 : lo ≤ b ∧ b < wB.heap.size := hb; have h2 := (own_lt hoN b hx).1; omega) | (have h1 : b = wB.heap.size := hb; have h2 : b = g := hx; omega) | (have h1 : b = wB.heap.size := hb; have h2 := (own_lt hoN b hx).1; omega) | (have h1 := (own_lt hoN b hb).1; have h2 : b = g := hx; omega) | (have h1 := (own_lt hoN b hb).1; have h2 : b = wB.heap.size := hx; omega))) ?_
    intro QQ hQ
    refine stepKx [4] (fun c => c = g) rfl (by kernel_rfl) (by intro i hi b hb; simp only [List.mem_cons, List.not_mem_nil, or_false] at hi; subst hi; exact hb) (fun K hK => ?_); go_simp
    apply Exists.intro; apply And.intro; (focus (intro wk hk; go_simp; exact ⟨rfl, rfl⟩)); refine hK _ _ ?_; clear hK K
    refine stepKx [4] (fun c => c = g) rfl (by kernel_rfl) (by intro i hi b hb; simp only [List.mem_cons, List.not_mem_nil, or_false] at hi; subst hi; exact hb) (fun K hK => ?_); go_simp
    apply Exists.intro; apply And.intro; (focus (intro wk hk; have cc : wk.cell? ⟨wB.heap.size, 2, none⟩ = some (.slice nq N1.length nc) := ((K6.Row.tr r1 hk.undrew (by intro hc; have hc2 : wB.heap.size = g := hc; omega)).cell 2).trans d2; go_simp; exact ⟨rfl, rfl⟩)); refine hK _ _ ?_; clear hK K
    refine stepK rfl (by kernel_rfl) (fun K hK => ?_); go_simp
    apply Exists.intro; apply And.intro; (focus (intro wk hk; go_simp; exact ⟨rfl, rfl⟩)); refine hK _ _ ?_; clear hK K
    refine stepK rfl (by kernel_rfl) (fun K hK => ?_); go_simp
    apply Exists.intro; apply And.intro; (focus (intro wk hk; go_simp; exact ⟨rfl, rfl⟩)); refine hK _ _ ?_; clear hK K
    refine stepS _ rfl (by kernel_rfl) (fun K hK => ?_); go_simp
    refine ⟨?_, ?_⟩
    · intro wk hk hg hu; go_simp; refine upon_enter ((k5.out _ hk.undrew).mono ?_); rintro e w' ⟨v, rfl, ho, hs, ht⟩; exact ⟨_, rfl, left_U (p := (fun x => ∃ q c, x.v = .slice q N2.length c)) (f := (fun x w => (Oi w x.lo x.v N2 ∧ ∀ b, x.v.ownBlock = some b → b < x.hi) ∧ SA w lo wB.heap.size g e5 x5)) rfl rfl (own_sl ho) ht ⟨⟨ho, fun b hb => (own_lt ho b hb).2⟩, hs⟩⟩
    rintro ⟨v4, lo4, hi4⟩ hlo4 hhi4 ⟨q4, c4, (rfl : v4 = _)⟩
    refine hK _ _ ?_; clear hK K
    refine stepSx _ [4] (fun c => c = g) rfl (by kernel_rfl) (by intro i hi b hb; simp only [List.mem_cons, List.not_mem_nil, or_false] at hi; subst hi; exact hb) (fun K hK => ?_); go_simp
    refine ⟨?_, ?_⟩
    · intro wk hk hg hu; have u4 := hu 4 (show 4 ∈ [4] by decide); have o4 : Oi wk lo4 (.slice q4 N2.length c4) N2 := u4.1.1; have how := own_tr hoN hk.undrew (fun b hb hc => by have hc2 : b = g := hc; have h1 := (own_lt hoN b hb).1; omega); obtain ⟨vz, wz, hrun, hoz, hgz, hwz⟩ := appendI_run how (own_base o4 (Nat.zero_le _)) hL12 (by have h2 := hk.undrew.size; have h3 : w9.heap.size ≤ wk.heap.size := h2; have h4 := r1.lt; omega); rw [run_append_op rfl rfl rfl hrun]; exact left_Pz rfl rfl hgz hoz (fun b hb => (own_lt hoz b hb).2) hwz
    rintro ⟨v5, lo5, hi5⟩ - - ⟨hG5, q5, m5, c5, (rfl : v5 = _)⟩
    refine hK _ _ ?_; clear hK K
    refine stepKx [4, 5] (fun c => c = g ∨ (Value.slice nq N1.length nc).ownBlock = some c) rfl (by kernel_rfl) (by intro i hi b hb; simp only [List.mem_cons, List.not_mem_nil, or_false] at hi; rcases hi with rfl | rfl <;> first | exact Or.inl hb | exact Or.inr hb | exact Or.inr (Or.inl hb) | exact Or.inr (Or.inr hb) | exact Or.inr (Or.inr (Or.inl hb)) | exact Or.inr (Or.inr (Or.inr hb))) (fun K hK => ?_); go_simp
    apply Exists.intro; apply And.intro; (focus (intro wk hk; go_simp; exact ⟨rfl, rfl⟩)); refine hK _ _ ?_; clear hK K
    refine stepSx _ [4, 5] (fun c => c = g ∨ (Value.slice nq N1.length nc).ownBlock = some c) rfl (by kernel_rfl) (by intro i hi b hb; simp only [List.mem_cons, List.not_mem_nil, or_false] at hi; rcases hi with rfl | rfl <;> first | exact Or.inl hb | exact Or.inr hb | exact Or.inr (Or.inl hb) | exact Or.inr (Or.inr hb) | exact Or.inr (Or.inr (Or.inl hb)) | exact Or.inr (Or.inr (Or.inr hb))) (fun K hK => ?_); go_simp
    refine ⟨?_, ?_⟩
    · intro wk hk hg hu; have rk := K6.Row.tr r1 hk.undrew (by intro hc; rcases hc with hc | hc; (have hc2 : wB.heap.size = g := hc; omega); (have h1 := (own_lt hoN _ hc).1; omega)); have cc := (rk.cell 2).trans d2; have ff := rk.frozen 2; go_simp; exact left_O (l := L) (s := (sO 7 (wB.heap.size) 116 [5, 4] (fun gh => TA.setIfInBounds 2 (gh 5).v)).1) rfl rfl (by decide) (fun g g' h => by rw [h 5 (by simp)]) (fun c hc => Below.heap_setCell _ _ _ _ hc) rfl rfl rfl (by simp) (Row.congr (rk.set 2 _) rfl)
    rintro ⟨v7, lo7, hi7⟩ - - (rfl : v7 = undef)
    refine hK _ _ ?_; clear hK K
    refine stepN ?_
    refine hQ _ _ ?_
    intro wV hT hG hF
    have hT' := hT.undrew
    obtain ⟨⟨ho4, -⟩, srcV⟩ : (Oi wV lo4 (.slice q4 N2.length c4) N2 ∧ ∀ b, (Value.slice q4 N2.length c4).ownBlock = some b → b < hi4) ∧ SA wV lo wB.heap.size g e5 x5 := hF 4 _ rfl rfl (by decide)
    have h5 : Grew (.slice nq N1.length nc) ⟨.slice q5 m5 c5, lo5, hi5⟩ ∧ wV.ownsRow (wB.heap.size + 1) 3 1 (.slice q5 m5 c5) (N1.length + N2.length) (N1.flatMap icl ++ N2.flatMap icl) := hF 5 _ rfl rfl (by decide)
    have rV : Row wV wB.heap.size 116 (TA.setIfInBounds 2 (.slice q5 m5 c5)) := hF 7 _ rfl rfl (by decide)
    obtain ⟨qx, cx, hvx⟩ := own_sl h5.2
    have hm : m5 = (N1 ++ N2).length := by
      injection hvx with _ h _
      rw [h, List.length_append]
    subst hm
    have hoV : Oi wV (wB.heap.size + 1) (.slice q5 (N1 ++ N2).length c5) (N1 ++ N2) := by
      have h := h5.2
      rw [← List.length_append, ← List.flatMap_append] at h
      exact h
    have hb6 := HX12.out.2.1.lt
    have G8 := HX12.out.1
    have hb0V : w.heap.size < lo := G8.b0l
    have hgV : lo ≤ g := G8.lg
    have GV : GT wB wV w.heap.size lo wB.heap.size g e5 x5 (⟨(k : Int), (f : Int), q5, c5, (N1 ++ N2), none, 0, [], none, 0, [], cm0⟩ : Txv) := ⟨srcV, G8.tr.trans_new hT' (fun b hb hlt => by rcases hb with hb | hb | hb; exact hb; omega; (have h1 := (own_lt hoN b hb).1; omega)), K6.Row.tr G8.r0 hT' (by intro hc; rcases hc with hc | hc | hc; omega; omega; (have h1 := (own_lt hoN _ hc).1; omega)), Row.congr rV (by rw [← hTA]; exact (Txv.setLow (t := (⟨(k : Int), (f : Int), nq, nc, N1, none, 0, [], none, 0, [], cm0⟩ : Txv)) (u := (⟨(k : Int), (f : Int), q5, c5, (N1 ++ N2), none, 0, [], none, 0, [], cm0⟩ : Txv)) rfl rfl (o := 2) (by decide) rfl (fun j h1 h2 => by match j, h1, h2 with | 0, _, h2 => (first | rfl | exact absurd rfl h2) | 1, _, h2 => (first | rfl | exact absurd rfl h2) | 2, _, h2 => (first | rfl | exact absurd rfl h2) | 3, _, h2 => (first | rfl | exact absurd rfl h2) | 4, _, h2 => (first | rfl | exact absurd rfl h2) | j + 5, h1, _ => exact absurd h1 (by omega)))), G8.gh, G8.hh, G8.b0l, G8.lg, rfl⟩
    have r6 := K6.Row.tr HX12.out.2.1 hT' (by intro hc; rcases hc with hc | hc | hc; omega; omega; (have h1 := (own_lt HX12.out.2.2 _ hc).1; omega))
    have e3_ := r6.cell 3
    have HG7 := Lib.hid (show _ ∧ Row wV lo6 107 (#[.int .i64 (qn : Int), .bool true, .int .i64 (qa : Int), .bool se, .int .i64 (qh : Int), .bool sc]) ∧ _ from ⟨GV, r6, hoV⟩)
    clear hT hT' hG hF hQ QQ L ho4 srcV h5 rV hvx hoV hb6 G8 GV r6 src r1 hhw d2 hTA hL12 hown k5 HX12 hoN hlo4 hhi4 hG5 hgw2 hb0V hgV
    go_upto_region 13 with (fail)
    cases se
    · obtain ⟨LA, e6, x6, hg6⟩ := tri (gMany gA qa (e5, x5))
      obtain ⟨LH, e7, x7, hg7⟩ := tri (gMany gH qh (e6, x6))
      have iA := gAs_ltM qa (s := (e5, x5)) HG7.out.1.src.byy
      have lA := gMany_len gA qa (e5, x5)
      rw [hg6] at iA lA
      simp only at iA lA
      have HA := Lib.hid (show _ ∧ _ ∧ _ ∧ _ from ⟨iA, lA, hg6, hg7⟩)
      have k4 := Lib.hid (manyU_at HG7.out.1.src (Nat.le_trans (Nat.le_succ _) (Nat.succ_le_of_lt HG7.out.1.r1.lt)) qa (by omega) hg6)
      clear hg6 hg7 iA lA
      go_wp2_with fail
      refine k4.out.mono ?_
      rintro r w9 ⟨v, rfl, ho, hs, ht⟩
      obtain ⟨aq, ac, hv⟩ := own_sl ho
      have hv' := hv
      subst hv
      have G8 := HG7.out.1.call hs ht
      have r6 := K6.Row.tr HG7.out.2.1 ht (by omega)
      have hoN := own_tr HG7.out.2.2 ht (fun b hb hx => by have hx' : b = g := hx; have h1 := (own_lt HG7.out.2.2 b hb).1; omega)
      have c0 := (G8.r1.cell 3).trans (tA3 (⟨(k : Int), (f : Int), q5, c5, (N1 ++ N2), none, 0, [], none, 0, [], cm0⟩ : Txv))
      have f0 := G8.r1.frozen 3
      have hoA : Oe w9 (wB.heap.size + 1) (.slice aq LA.length ac) LA := own_base ho (by have := HG7.out.1.r1.lt; omega)
      have HG8 := Lib.hid (show _ ∧ Row w9 lo6 107 (#[.int .i64 (qn : Int), .bool true, .int .i64 (qa : Int), .bool false, .int .i64 (qh : Int), .bool sc]) ∧ _ ∧ _ from ⟨G8, r6, hoN, hoA⟩)
      clear k4 HG7 hs ht G8 r6 hoN hoA ho hv' e3_
      go_upto_region 16 with (fail)
      refine wp_abs (fun wx => GT wB wx w.heap.size lo wB.heap.size g e6 x6 (⟨(k : Int), (f : Int), q5, c5, (N1 ++ N2), aq, ac, LA, none, 0, [], cm0⟩ : Txv) ∧ Row wx lo6 107 (#[.int .i64 (qn : Int), .bool true, .int .i64 (qa : Int), .bool false, .int .i64 (qh : Int), .bool sc]) ∧ Oi wx (wB.heap.size + 1) (.slice q5 ((N1 ++ N2)).length c5) ((N1 ++ N2)) ∧ Oe wx (wB.heap.size + 1) (.slice aq LA.length ac) LA) ⟨HG8.out.1.put (tr_cell rfl) (Row.congr (Row.set HG8.out.1.r1 3 _) (Txv.setLow (t := (⟨(k : Int), (f : Int), q5, c5, (N1 ++ N2), none, 0, [], none, 0, [], cm0⟩ : Txv)) (u := (⟨(k : Int), (f : Int), q5, c5, (N1 ++ N2), aq, ac, LA, none, 0, [], cm0⟩ : Txv)) rfl rfl (o := 3) (by decide) rfl (fun j h1 h2 => by match j, h1, h2 with | 0, _, h2 => (first | rfl | exact absurd rfl h2) | 1, _, h2 => (first | rfl | exact absurd rfl h2) | 2, _, h2 => (first | rfl | exact absurd rfl h2) | 3, _, h2 => (first | rfl | exact absurd rfl h2) | 4, _, h2 => (first | rfl | exact absurd rfl h2) | j + 5, h1, _ => exact absurd h1 (by omega)))) rfl, K6.Row.tr HG8.out.2.1 (tr_cell (X := fun b => b = wB.heap.size) rfl) (by omega), own_tr HG8.out.2.2.1 (tr_cell (X := fun b => b = wB.heap.size) rfl) (fun b hb hx => by have hx' : b = wB.heap.size := hx; have h1 := (own_lt HG8.out.2.2.1 b hb).1; omega), own_tr HG8.out.2.2.2 (tr_cell (X := fun b => b = wB.heap.size) rfl) (fun b hb hx => by have hx' : b = wB.heap.size := hx; have h1 := (own_lt HG8.out.2.2.2 b hb).1; omega)⟩ ?_
      rintro w10 ⟨G9, r6, hoN, hoA⟩
      have e4_ := r6.cell 4
      have k5 := Lib.hid (manyH_at G9.src (Nat.le_trans (Nat.le_succ _) (Nat.succ_le_of_lt G9.r1.lt)) qh (by omega) HA.out.2.2.2)
      have iH := gHs_ok qh (s := (e6, x6)) G9.src.byy
      have lH := gMany_len gH qh (e6, x6)
      rw [HA.out.2.2.2] at iH lH
      have HHs := Lib.hid (show HsOk LH ∧ LH.length ≤ qh from ⟨iH, lH⟩)
      have HG9 := Lib.hid (show _ ∧ Row w10 lo6 107 (#[.int .i64 (qn : Int), .bool true, .int .i64 (qa : Int), .bool false, .int .i64 (qh : Int), .bool sc]) ∧ _ ∧ _ from ⟨G9, r6, hoN, hoA⟩)
      clear HG8 c0 f0 G9 r6 hoN hoA iH lH
      go_wp2_with fail
      refine k5.out.mono ?_
      rintro r w11 ⟨v, rfl, ho, hs, ht⟩
      obtain ⟨hq, hc, hv⟩ := own_sl ho
      have hv' := hv
      subst hv
      have G10 := HG9.out.1.call hs ht
      have r6 := K6.Row.tr HG9.out.2.1 ht (by omega)
      have hoN := own_tr HG9.out.2.2.1 ht (fun b hb hx => by have hx' : b = g := hx; have h1 := (own_lt HG9.out.2.2.1 b hb).1; omega)
      have hoA := own_tr HG9.out.2.2.2 ht (fun b hb hx => by have hx' : b = g := hx; have h1 := (own_lt HG9.out.2.2.2 b hb).1; omega)
      have c0 := (G10.r1.cell 4).trans (tA4 (⟨(k : Int), (f : Int), q5, c5, (N1 ++ N2), aq, ac, LA, none, 0, [], cm0⟩ : Txv))
      have f0 := G10.r1.frozen 4
      have hoH : Oh w11 (wB.heap.size + 1) (.slice hq LH.length hc) LH := own_base ho (by have := HG9.out.1.r1.lt; omega)
      have HG10 := Lib.hid (show _ ∧ Row w11 lo6 107 (#[.int .i64 (qn : Int), .bool true, .int .i64 (qa : Int), .bool false, .int .i64 (qh : Int), .bool sc]) ∧ _ ∧ _ ∧ _ from ⟨G10, r6, hoN, hoA, hoH⟩)
      clear k5 HG9 hs ht G10 r6 hoN hoA hoH ho hv' e4_
      go_upto_region 17 with (fail)
      refine wp_abs (fun wx => GT wB wx w.heap.size lo wB.heap.size g e7 x7 (⟨(k : Int), (f : Int), q5, c5, (N1 ++ N2), aq, ac, LA, hq, hc, LH, cm0⟩ : Txv) ∧ Row wx lo6 107 (#[.int .i64 (qn : Int), .bool true, .int .i64 (qa : Int), .bool false, .int .i64 (qh : Int), .bool sc]) ∧ GO wx (wB.heap.size + 1) (⟨(k : Int), (f : Int), q5, c5, (N1 ++ N2), aq, ac, LA, hq, hc, LH, cm0⟩ : Txv)) ⟨HG10.out.1.put (tr_cell rfl) (Row.congr (Row.set HG10.out.1.r1 4 _) (Txv.setLow (t := (⟨(k : Int), (f : Int), q5, c5, (N1 ++ N2), aq, ac, LA, none, 0, [], cm0⟩ : Txv)) (u := (⟨(k : Int), (f : Int), q5, c5, (N1 ++ N2), aq, ac, LA, hq, hc, LH, cm0⟩ : Txv)) rfl rfl (o := 4) (by decide) rfl (fun j h1 h2 => by match j, h1, h2 with | 0, _, h2 => (first | rfl | exact absurd rfl h2) | 1, _, h2 => (first | rfl | exact absurd rfl h2) | 2, _, h2 => (first | rfl | exact absurd rfl h2) | 3, _, h2 => (first | rfl | exact absurd rfl h2) | 4, _, h2 => (first | rfl | exact absurd rfl h2) | j + 5, h1, _ => exact absurd h1 (by omega)))) rfl, K6.Row.tr HG10.out.2.1 (tr_cell (X := fun b => b = wB.heap.size) rfl) (by omega), (show GO w11 (wB.heap.size + 1) (⟨(k : Int), (f : Int), q5, c5, (N1 ++ N2), aq, ac, LA, hq, hc, LH, cm0⟩ : Txv) from ⟨HG10.out.2.2.1, HG10.out.2.2.2.1, HG10.out.2.2.2.2, CmIn.zero _ _⟩).keep (tr_cell (X := fun b => b = wB.heap.size) rfl) (fun b hb hx => by have hx' : b = wB.heap.size := hx; omega)⟩ ?_
      rintro w12 ⟨G11, r6, GO11⟩
      have e5_ := r6.cell 5
      have HG11 := Lib.hid (show _ ∧ _ from ⟨G11, GO11⟩)
      clear HG10 c0 f0 G11 r6 GO11
      have hsc : sc = false := by
        cases sc
        · rfl
        · exact absurd (HM.out.2.2.2 rfl) (by decide)
      subst hsc
      have ke := end_at HG11.out.1.src
      obtain ⟨er, her⟩ : ∃ er, edE e7 x7 = er := ⟨_, rfl⟩
      rw [her] at ke
      replace ke := Lib.hid ke
      have hTX := gTx_parts (xs := xs) (CK := cm0.key) (e8 := e7) (x8 := x7) (k := k) (f := f) (e1 := e1) (x1 := x1) (e2 := e2) (x2 := x2) (e3 := e3) (x3 := x3) (N1 := N1) (LA := LA) (LH := LH) (e6 := e6) (x6 := x6) (e7 := e7) (x7 := x7) (e4 := e4) (x4 := x4) (tl := (tl : Int)) (N2 := N2) (e5 := e5) (x5 := x5) (h1 := HG1.out) (h2 := HG2.out) (h3 := by rw [HS.out]; exact HG3.out) (h4 := by rw [HS.out]; exact HT4.out.1) (h5 := HT4.out.2.1) (h6 := by rw [HS.out]; exact HA.out.2.2.1) (h7 := by rw [HS.out]; exact HA.out.2.2.2) (h8 := by rw [HS.out]; rfl)
      obtain ⟨KT, hKT⟩ : ∃ K, (⟨(k : Int), (f : Int), q5, c5, (N1 ++ N2), aq, ac, LA, hq, hc, LH, cm0⟩ : Txv).key = K := ⟨_, rfl⟩
      have hKT2 : gTx (0, xs) = (KT, e7, x7) := by rw [← hKT]; exact hTX
      have hpu : PureT KT := by
        rw [← hKT]
        exact ⟨HK.out.1, HK.out.2.1, iNN.out, HA.out.1, HHs.out.1⟩
      have hli : LightT (⟨(k : Int), (f : Int), q5, c5, (N1 ++ N2), aq, ac, LA, hq, hc, LH, cm0⟩ : Txv) := ⟨by show (N1 ++ N2).length ≤ 50; rw [List.length_append]; have h1 := HK.out.2.2.2; have h2 := HT4.out.2.2.2; omega, by show LA.length ≤ 50; have := HA.out.2.1; omega, by show LH.length ≤ 50; have := HHs.out.2; omega, by show ([] : List (List Int)).length ≤ 50; decide, by show ([] : List Lf).length ≤ 50; decide, fun x hx => (by cases hx)⟩
      have HX := Lib.hid (show _ ∧ _ ∧ _ ∧ _ ∧ _ from ⟨hKT2, hpu, hli, hKT, her⟩)
      clear hTX hKT2 hpu hli hKT her
      go_wp2_with fail
      refine ke.out.mono ?_
      rintro r wE ⟨rfl, hs, ht⟩
      have GE := HG11.out.1.call hs ht
      have GOE := HG11.out.2.keep ht (fun b hb hx => by have hx' : b = g := hx; omega)
      have hlE : Below w.heap.size w wE := HB.out.trans (GE.tr.below_of HB.out.size (by intro c hc; have hc' : c = g := hc; have := GE.lg; have := GE.b0l; omega))
      clear ke hs ht HG11 e5_
      by_cases hE : er = 0
      case neg =>
        have hne : (er != 0) = true := by rw [bne_iff_ne]; exact hE
        have hEq := Lib.hid (show prE xs = er ∧ prK xs = tx0K from by
          have e1 : prE xs = er := by unfold prE; rw [HX.out.1]; simp only; rw [HX.out.2.2.2.2, if_neg hE]
          exact ⟨e1, by unfold prK; rw [HR.out.2.2, e1, if_neg hE]⟩)
        have hl := hlE
        have r0 := GE.r0
        clear GE GOE hE hlE
        go_upto_region 21 with (fail)
        let L : List Sp := [sO 2 (w.heap.size) 116 [0] (fun g => aggOf g 0)]
        refine wp_region_six0 (shs L) (look6 L) (fun c => c = w.heap.size) (by kernel_rfl) (by kernel_rfl) (mk_St L [2] [2] (by kernel_rfl) (by kernel_rfl) ⟨ok_O aggOf_congr r0.lt (rfl), trivial⟩ (by simp)) ?_
        intro QQ hQ
        refine stepK rfl (by kernel_rfl) (fun K hK => ?_); go_simp
        apply Exists.intro; apply And.intro; (focus (intro wk hk; go_simp; exact ⟨rfl, rfl⟩)); refine hK _ _ ?_; clear hK K
        refine stepKz rfl (fun K hK => ?_); go_simp
        apply Exists.intro; apply And.intro; (focus (intro wk hk; go_simp; exact ⟨rfl, rfl⟩)); refine hK _ _ ?_; clear hK K
        refine stepS _ rfl (by kernel_rfl) (fun K hK => ?_); go_simp
        refine ⟨?_, ?_⟩
        · exact sStoreO rfl rfl rfl rfl rfl rfl r0 id (by kernel_rfl) (by rw [Txv.size rfl]; rfl) (by kernel_rfl) (by decide) aggOf_congr
        rintro ⟨v2, lo2, hi2⟩ - - (rfl : v2 = undef)
        refine hK _ _ ?_; clear hK K
        refine stepKz rfl (fun K hK => ?_); go_simp
        apply Exists.intro; apply And.intro; (focus (intro wk hk; go_simp; exact ⟨rfl, rfl⟩)); refine hK _ _ ?_; clear hK K
        refine stepN ?_
        refine hQ _ _ ?_
        intro w9 hT hG hF
        have hT' := hT
        have x0 : Row w9 (w.heap.size) 116 (#[.int .i64 0, .int .i64 0, .slice none 0 0, .slice none 0 0, .slice none 0 0, .int .i64 0, .int .i64 0, .int .i64 0, .int .u8 0, .int .u8 0, .int .u8 0, .int .u8 0, .int .u8 0, .int .u8 0, .int .u8 0, .int .u8 0, .int .u8 0, .int .u8 0, .int .u8 0, .int .u8 0, .int .u8 0, .int .u8 0, .int .u8 0, .int .u8 0, .int .u8 0, .int .u8 0, .int .u8 0, .int .u8 0, .int .u8 0, .int .u8 0, .int .u8 0, .int .u8 0, .int .u8 0, .int .u8 0, .int .u8 0, .int .u8 0, .int .u8 0, .int .u8 0, .int .u8 0, .int .u8 0, .slice none 0 0, .slice none 0 0, .int .i64 0]) := hF 2 _ rfl rfl (by decide)
        have H9 := Lib.hid (hl.trans (hT'.below_of hl.size (by intro c hc; have hc' : c = w.heap.size := hc; omega)))
        clear hT hT' hG hF hQ QQ L hl r0 
        go_step; go_step; go_step
        simp only [Exit.then]
        refine bodyPost_ret (results_ct rfl aggT116 rfl x0 rfl) rfl ?_
        exact ⟨tx0, by rw [← HR.out.2.1, hEq.out.2]; rfl, by rw [← HR.out.1, hEq.out.1, tx0_cs]; first | done | rfl, tx0_ok _, H9.out, tx0_light⟩
      subst hE
      obtain ⟨bg, hbg⟩ : ∃ b, goodK KT = b := ⟨_, rfl⟩
      have hTok : TxOk wE (⟨(k : Int), (f : Int), q5, c5, (N1 ++ N2), aq, ac, LA, hq, hc, LH, cm0⟩ : Txv) := GOE.ok (by rw [HX.out.2.2.2.1]; exact HX.out.2.1)
      have kg := fun wx (hb : Below wE.heap.size wE wx) => good_at (⟨(k : Int), (f : Int), q5, c5, (N1 ++ N2), aq, ac, LA, hq, hc, LH, cm0⟩ : Txv) wx (hTok.below hb) HX.out.2.2.1
      simp only [HX.out.2.2.2.1, hbg] at kg
      have hszT : (⟨(k : Int), (f : Int), q5, c5, (N1 ++ N2), aq, ac, LA, hq, hc, LH, cm0⟩ : Txv).cs.toArray.size = 43 := Txv.size GE.tk
      have hone := Txv.one (⟨(k : Int), (f : Int), q5, c5, (N1 ++ N2), aq, ac, LA, hq, hc, LH, cm0⟩ : Txv)
      have r1 := GE.r1
      have r0 := GE.r0
      obtain ⟨TB, hTB⟩ : ∃ A, (⟨(k : Int), (f : Int), q5, c5, (N1 ++ N2), aq, ac, LA, hq, hc, LH, cm0⟩ : Txv).cs.toArray = A := ⟨_, rfl⟩
      simp only [hTB] at kg
      rw [hTB] at hszT hone r1
      have hPE := Lib.hid (show prE xs = (if bg = true then 0 else 2) from by unfold prE; rw [HX.out.1]; simp only; rw [HX.out.2.2.2.2, if_pos rfl, hbg])
      have hKb := Lib.hid hbg
      replace kg := Lib.hid kg
      have HT := Lib.hid (show _ ∧ _ from ⟨GOE, hTB⟩)
      have hl := hlE
      clear GE GOE hlE hbg hTok hTB
      go_upto_region 22 with (fail)
      cases bg
      · have hp2 : prE xs = 2 := hPE.out
        have hEq := Lib.hid (show prE xs = 2 ∧ prK xs = tx0K from ⟨hp2, by unfold prK; rw [HR.out.2.2, hp2, if_neg (by decide)]⟩)
        clear hp2
        let L : List Sp := [sV 1 [] [] (fun u => u = .bool false)]
        refine wp_region_six0 (shs L) (look6 L) (None_) (by kernel_rfl) (by kernel_rfl) (mk_St L [] [] (by kernel_rfl) (by kernel_rfl) ⟨ok_V ⟨_, rfl⟩, trivial⟩ (by simp)) ?_
        intro QQ hQ
        refine stepK rfl (by kernel_rfl) (fun K hK => ?_); go_simp
        apply Exists.intro; apply And.intro; (focus exact kLoad rfl rfl aggT116 r1 hszT id); refine hK _ _ ?_; clear hK K
        refine stepS _ rfl (by kernel_rfl) (fun K hK => ?_); go_simp
        refine ⟨?_, ?_⟩
        · intro wk hk hg hu; go_simp; refine upon_enter ((kg.out _ hk.below).mono ?_); rintro e w' ⟨rfl, hb⟩; exact ⟨_, rfl, left_V (p := fun u => u = .bool false) rfl (hb) rfl⟩
        rintro ⟨v1, lo1, hi1⟩ - - (rfl : v1 = _)
        refine hK _ _ ?_; clear hK K
        refine stepK rfl (by kernel_rfl) (fun K hK => ?_); go_simp
        apply Exists.intro; apply And.intro; (focus (intro wk hk; go_simp; exact ⟨rfl, rfl⟩)); refine hK _ _ ?_; clear hK K
        refine stepN ?_
        refine hQ _ _ ?_
        intro wG hT hG hF
        have hbG := hT.below
        have r0 := r0.below hbG r0.lt
        have r1 := r1.below hbG r1.lt
        have hl := hl.trans (hbG.mono hl.size)
        have HTG := Lib.hid (show GO wG (wB.heap.size + 1) (⟨(k : Int), (f : Int), q5, c5, (N1 ++ N2), aq, ac, LA, hq, hc, LH, cm0⟩ : Txv) from HT.out.1.keep (X := None_) (Tr.of hbG) (fun _ _ => id))
        clear hT hG hF hQ QQ L hbG kg
        go_upto_region 23 with (fail)
        let L : List Sp := [sO 1 (w.heap.size) 116 [0] (fun g => aggOf g 0)]
        refine wp_region_six0 (shs L) (look6 L) (fun c => c = w.heap.size) (by kernel_rfl) (by kernel_rfl) (mk_St L [1] [1] (by kernel_rfl) (by kernel_rfl) ⟨ok_O aggOf_congr r0.lt (rfl), trivial⟩ (by simp)) ?_
        intro QQ hQ
        refine stepK rfl (by kernel_rfl) (fun K hK => ?_); go_simp
        apply Exists.intro; apply And.intro; (focus (intro wk hk; go_simp; exact ⟨rfl, rfl⟩)); refine hK _ _ ?_; clear hK K
        refine stepS _ rfl (by kernel_rfl) (fun K hK => ?_); go_simp
        refine ⟨?_, ?_⟩
        · exact sStoreO rfl rfl rfl rfl rfl rfl r0 id (by kernel_rfl) (by rw [Txv.size rfl]; rfl) (by kernel_rfl) (by decide) aggOf_congr
        rintro ⟨v1, lo1, hi1⟩ - - (rfl : v1 = undef)
        refine hK _ _ ?_; clear hK K
        refine stepKz rfl (fun K hK => ?_); go_simp
        apply Exists.intro; apply And.intro; (focus (intro wk hk; go_simp; exact ⟨rfl, rfl⟩)); refine hK _ _ ?_; clear hK K
        refine stepN ?_
        refine hQ _ _ ?_
        intro w9 hT hG hF
        have hT' := hT
        have x0 : Row w9 (w.heap.size) 116 (#[.int .i64 0, .int .i64 0, .slice none 0 0, .slice none 0 0, .slice none 0 0, .int .i64 0, .int .i64 0, .int .i64 0, .int .u8 0, .int .u8 0, .int .u8 0, .int .u8 0, .int .u8 0, .int .u8 0, .int .u8 0, .int .u8 0, .int .u8 0, .int .u8 0, .int .u8 0, .int .u8 0, .int .u8 0, .int .u8 0, .int .u8 0, .int .u8 0, .int .u8 0, .int .u8 0, .int .u8 0, .int .u8 0, .int .u8 0, .int .u8 0, .int .u8 0, .int .u8 0, .int .u8 0, .int .u8 0, .int .u8 0, .int .u8 0, .int .u8 0, .int .u8 0, .int .u8 0, .int .u8 0, .slice none 0 0, .slice none 0 0, .int .i64 0]) := hF 1 _ rfl rfl (by decide)
        have H9 := Lib.hid (hl.trans (hT'.below_of hl.size (by intro c hc; have hc' : c = w.heap.size := hc; omega)))
        clear hT hT' hG hF hQ QQ L hl r0 r1
        go_step; go_step; go_step
        simp only [Exit.then]
        refine bodyPost_ret (results_ct rfl aggT116 rfl x0 rfl) rfl ?_
        exact ⟨tx0, by rw [← HR.out.2.1, hEq.out.2]; rfl, by rw [← HR.out.1, hEq.out.1, tx0_cs]; first | done | rfl, tx0_ok _, H9.out, tx0_light⟩
      · have hp2 : prE xs = 0 := hPE.out
        have hEq := Lib.hid (show prE xs = 0 ∧ prK xs = KT from ⟨hp2, by unfold prK; rw [HR.out.2.2, hp2, if_pos rfl, HX.out.1]⟩)
        clear hp2
        let L : List Sp := [sV 1 [] [] (fun u => u = .bool true)]
        refine wp_region_six0 (shs L) (look6 L) (None_) (by kernel_rfl) (by kernel_rfl) (mk_St L [] [] (by kernel_rfl) (by kernel_rfl) ⟨ok_V ⟨_, rfl⟩, trivial⟩ (by simp)) ?_
        intro QQ hQ
        refine stepK rfl (by kernel_rfl) (fun K hK => ?_); go_simp
        apply Exists.intro; apply And.intro; (focus exact kLoad rfl rfl aggT116 r1 hszT id); refine hK _ _ ?_; clear hK K
        refine stepS _ rfl (by kernel_rfl) (fun K hK => ?_); go_simp
        refine ⟨?_, ?_⟩
        · intro wk hk hg hu; go_simp; refine upon_enter ((kg.out _ hk.below).mono ?_); rintro e w' ⟨rfl, hb⟩; exact ⟨_, rfl, left_V (p := fun u => u = .bool true) rfl (hb) rfl⟩
        rintro ⟨v1, lo1, hi1⟩ - - (rfl : v1 = _)
        refine hK _ _ ?_; clear hK K
        refine stepK rfl (by kernel_rfl) (fun K hK => ?_); go_simp
        apply Exists.intro; apply And.intro; (focus (intro wk hk; go_simp; exact ⟨rfl, rfl⟩)); refine hK _ _ ?_; clear hK K
        refine stepN ?_
        refine hQ _ _ ?_
        intro wG hT hG hF
        have hbG := hT.below
        have r0 := r0.below hbG r0.lt
        have r1 := r1.below hbG r1.lt
        have hl := hl.trans (hbG.mono hl.size)
        have HTG := Lib.hid (show GO wG (wB.heap.size + 1) (⟨(k : Int), (f : Int), q5, c5, (N1 ++ N2), aq, ac, LA, hq, hc, LH, cm0⟩ : Txv) from HT.out.1.keep (X := None_) (Tr.of hbG) (fun _ _ => id))
        clear hT hG hF hQ QQ L hbG kg
        have hinf := info116 hszT
        have hszz : tx0.cs.toArray.size = TB.size := by rw [hszT]; exact Txv.size rfl
        go_upto_region 24 with (fail)
        let L : List Sp := [sO 1 (w.heap.size) 116 [0] (fun g => aggOf g 0)]
        refine wp_region_six0 (shs L) (look6 L) (fun c => c = w.heap.size) (by kernel_rfl) (by kernel_rfl) (mk_St L [1] [1] (by kernel_rfl) (by kernel_rfl) ⟨ok_O aggOf_congr r0.lt (rfl), trivial⟩ (by simp)) ?_
        intro QQ hQ
        refine stepK rfl (by kernel_rfl) (fun K hK => ?_); go_simp
        apply Exists.intro; apply And.intro; (focus exact kLoad rfl rfl aggT116 r1 hszT id); refine hK _ _ ?_; clear hK K
        refine stepS _ rfl (by kernel_rfl) (fun K hK => ?_); go_simp
        refine ⟨?_, ?_⟩
        · exact sStoreO rfl rfl rfl rfl rfl rfl r0 id hinf hszz hone (by decide) aggOf_congr
        rintro ⟨v1, lo1, hi1⟩ - - (rfl : v1 = undef)
        refine hK _ _ ?_; clear hK K
        refine stepKz rfl (fun K hK => ?_); go_simp
        apply Exists.intro; apply And.intro; (focus (intro wk hk; go_simp; exact ⟨rfl, rfl⟩)); refine hK _ _ ?_; clear hK K
        refine stepN ?_
        refine hQ _ _ ?_
        intro wF hT hG hF
        have hT' := hT
        have x0 : Row wF w.heap.size 116 TB := hF 1 _ rfl rfl (by decide)
        have hGOf := HTG.out.keep hT' (fun b hb hx => by have hx' : b = w.heap.size := hx; have := HB.out.size; omega)
        have hokf := Lib.hid (hGOf.ok (by rw [HX.out.2.2.2.1]; exact HX.out.2.1))
        have hB9 := Lib.hid (hl.trans (hT'.below_of hl.size (by intro c hc; have hc' : c = w.heap.size := hc; omega)))
        clear hT hT' hG hF hQ QQ L hl r0 r1 hGOf HTG
        go_step; go_step; go_step
        refine bodyPost_ret (results_ct rfl aggT116 rfl x0 hszT) rfl ?_
        exact ⟨(⟨(k : Int), (f : Int), q5, c5, (N1 ++ N2), aq, ac, LA, hq, hc, LH, cm0⟩ : Txv), by rw [← HR.out.2.1, hEq.out.2]; exact HX.out.2.2.2.1, by rw [← HR.out.1, hEq.out.1, HT.out.2]; first | done | rfl, hokf.out, hB9.out, HX.out.2.2.1⟩
    · obtain ⟨LA, e6, x6, hg6⟩ := tri (gMany gA tl (e5, x5))
      obtain ⟨LH, e7, x7, hg7⟩ := tri (gMany gH qh (e6, x6))
      have iA := gAs_ltM tl (s := (e5, x5)) HG7.out.1.src.byy
      have lA := gMany_len gA tl (e5, x5)
      rw [hg6] at iA lA
      simp only at iA lA
      have HA := Lib.hid (show _ ∧ _ ∧ _ ∧ _ from ⟨iA, lA, hg6, hg7⟩)
      have k4 := Lib.hid (manyU_at HG7.out.1.src (Nat.le_trans (Nat.le_succ _) (Nat.succ_le_of_lt HG7.out.1.r1.lt)) tl (by omega) hg6)
      clear hg6 hg7 iA lA
      go_wp2_with fail
      refine k4.out.mono ?_
      rintro r w9 ⟨v, rfl, ho, hs, ht⟩
      obtain ⟨aq, ac, hv⟩ := own_sl ho
      have hv' := hv
      subst hv
      have G8 := HG7.out.1.call hs ht
      have r6 := K6.Row.tr HG7.out.2.1 ht (by omega)
      have hoN := own_tr HG7.out.2.2 ht (fun b hb hx => by have hx' : b = g := hx; have h1 := (own_lt HG7.out.2.2 b hb).1; omega)
      have c0 := (G8.r1.cell 3).trans (tA3 (⟨(k : Int), (f : Int), q5, c5, (N1 ++ N2), none, 0, [], none, 0, [], cm0⟩ : Txv))
      have f0 := G8.r1.frozen 3
      have hoA : Oe w9 (wB.heap.size + 1) (.slice aq LA.length ac) LA := own_base ho (by have := HG7.out.1.r1.lt; omega)
      have HG8 := Lib.hid (show _ ∧ Row w9 lo6 107 (#[.int .i64 (qn : Int), .bool true, .int .i64 (qa : Int), .bool true, .int .i64 (qh : Int), .bool sc]) ∧ _ ∧ _ from ⟨G8, r6, hoN, hoA⟩)
      clear k4 HG7 hs ht G8 r6 hoN hoA ho hv' e3_
      go_upto_region 16 with (fail)
      refine wp_abs (fun wx => GT wB wx w.heap.size lo wB.heap.size g e6 x6 (⟨(k : Int), (f : Int), q5, c5, (N1 ++ N2), aq, ac, LA, none, 0, [], cm0⟩ : Txv) ∧ Row wx lo6 107 (#[.int .i64 (qn : Int), .bool true, .int .i64 (qa : Int), .bool true, .int .i64 (qh : Int), .bool sc]) ∧ Oi wx (wB.heap.size + 1) (.slice q5 ((N1 ++ N2)).length c5) ((N1 ++ N2)) ∧ Oe wx (wB.heap.size + 1) (.slice aq LA.length ac) LA) ⟨HG8.out.1.put (tr_cell rfl) (Row.congr (Row.set HG8.out.1.r1 3 _) (Txv.setLow (t := (⟨(k : Int), (f : Int), q5, c5, (N1 ++ N2), none, 0, [], none, 0, [], cm0⟩ : Txv)) (u := (⟨(k : Int), (f : Int), q5, c5, (N1 ++ N2), aq, ac, LA, none, 0, [], cm0⟩ : Txv)) rfl rfl (o := 3) (by decide) rfl (fun j h1 h2 => by match j, h1, h2 with | 0, _, h2 => (first | rfl | exact absurd rfl h2) | 1, _, h2 => (first | rfl | exact absurd rfl h2) | 2, _, h2 => (first | rfl | exact absurd rfl h2) | 3, _, h2 => (first | rfl | exact absurd rfl h2) | 4, _, h2 => (first | rfl | exact absurd rfl h2) | j + 5, h1, _ => exact absurd h1 (by omega)))) rfl, K6.Row.tr HG8.out.2.1 (tr_cell (X := fun b => b = wB.heap.size) rfl) (by omega), own_tr HG8.out.2.2.1 (tr_cell (X := fun b => b = wB.heap.size) rfl) (fun b hb hx => by have hx' : b = wB.heap.size := hx; have h1 := (own_lt HG8.out.2.2.1 b hb).1; omega), own_tr HG8.out.2.2.2 (tr_cell (X := fun b => b = wB.heap.size) rfl) (fun b hb hx => by have hx' : b = wB.heap.size := hx; have h1 := (own_lt HG8.out.2.2.2 b hb).1; omega)⟩ ?_
      rintro w10 ⟨G9, r6, hoN, hoA⟩
      have e4_ := r6.cell 4
      have k5 := Lib.hid (manyH_at G9.src (Nat.le_trans (Nat.le_succ _) (Nat.succ_le_of_lt G9.r1.lt)) qh (by omega) HA.out.2.2.2)
      have iH := gHs_ok qh (s := (e6, x6)) G9.src.byy
      have lH := gMany_len gH qh (e6, x6)
      rw [HA.out.2.2.2] at iH lH
      have HHs := Lib.hid (show HsOk LH ∧ LH.length ≤ qh from ⟨iH, lH⟩)
      have HG9 := Lib.hid (show _ ∧ Row w10 lo6 107 (#[.int .i64 (qn : Int), .bool true, .int .i64 (qa : Int), .bool true, .int .i64 (qh : Int), .bool sc]) ∧ _ ∧ _ from ⟨G9, r6, hoN, hoA⟩)
      clear HG8 c0 f0 G9 r6 hoN hoA iH lH
      go_wp2_with fail
      refine k5.out.mono ?_
      rintro r w11 ⟨v, rfl, ho, hs, ht⟩
      obtain ⟨hq, hc, hv⟩ := own_sl ho
      have hv' := hv
      subst hv
      have G10 := HG9.out.1.call hs ht
      have r6 := K6.Row.tr HG9.out.2.1 ht (by omega)
      have hoN := own_tr HG9.out.2.2.1 ht (fun b hb hx => by have hx' : b = g := hx; have h1 := (own_lt HG9.out.2.2.1 b hb).1; omega)
      have hoA := own_tr HG9.out.2.2.2 ht (fun b hb hx => by have hx' : b = g := hx; have h1 := (own_lt HG9.out.2.2.2 b hb).1; omega)
      have c0 := (G10.r1.cell 4).trans (tA4 (⟨(k : Int), (f : Int), q5, c5, (N1 ++ N2), aq, ac, LA, none, 0, [], cm0⟩ : Txv))
      have f0 := G10.r1.frozen 4
      have hoH : Oh w11 (wB.heap.size + 1) (.slice hq LH.length hc) LH := own_base ho (by have := HG9.out.1.r1.lt; omega)
      have HG10 := Lib.hid (show _ ∧ Row w11 lo6 107 (#[.int .i64 (qn : Int), .bool true, .int .i64 (qa : Int), .bool true, .int .i64 (qh : Int), .bool sc]) ∧ _ ∧ _ ∧ _ from ⟨G10, r6, hoN, hoA, hoH⟩)
      clear k5 HG9 hs ht G10 r6 hoN hoA hoH ho hv' e4_
      go_upto_region 17 with (fail)
      refine wp_abs (fun wx => GT wB wx w.heap.size lo wB.heap.size g e7 x7 (⟨(k : Int), (f : Int), q5, c5, (N1 ++ N2), aq, ac, LA, hq, hc, LH, cm0⟩ : Txv) ∧ Row wx lo6 107 (#[.int .i64 (qn : Int), .bool true, .int .i64 (qa : Int), .bool true, .int .i64 (qh : Int), .bool sc]) ∧ GO wx (wB.heap.size + 1) (⟨(k : Int), (f : Int), q5, c5, (N1 ++ N2), aq, ac, LA, hq, hc, LH, cm0⟩ : Txv)) ⟨HG10.out.1.put (tr_cell rfl) (Row.congr (Row.set HG10.out.1.r1 4 _) (Txv.setLow (t := (⟨(k : Int), (f : Int), q5, c5, (N1 ++ N2), aq, ac, LA, none, 0, [], cm0⟩ : Txv)) (u := (⟨(k : Int), (f : Int), q5, c5, (N1 ++ N2), aq, ac, LA, hq, hc, LH, cm0⟩ : Txv)) rfl rfl (o := 4) (by decide) rfl (fun j h1 h2 => by match j, h1, h2 with | 0, _, h2 => (first | rfl | exact absurd rfl h2) | 1, _, h2 => (first | rfl | exact absurd rfl h2) | 2, _, h2 => (first | rfl | exact absurd rfl h2) | 3, _, h2 => (first | rfl | exact absurd rfl h2) | 4, _, h2 => (first | rfl | exact absurd rfl h2) | j + 5, h1, _ => exact absurd h1 (by omega)))) rfl, K6.Row.tr HG10.out.2.1 (tr_cell (X := fun b => b = wB.heap.size) rfl) (by omega), (show GO w11 (wB.heap.size + 1) (⟨(k : Int), (f : Int), q5, c5, (N1 ++ N2), aq, ac, LA, hq, hc, LH, cm0⟩ : Txv) from ⟨HG10.out.2.2.1, HG10.out.2.2.2.1, HG10.out.2.2.2.2, CmIn.zero _ _⟩).keep (tr_cell (X := fun b => b = wB.heap.size) rfl) (fun b hb hx => by have hx' : b = wB.heap.size := hx; omega)⟩ ?_
      rintro w12 ⟨G11, r6, GO11⟩
      have e5_ := r6.cell 5
      have HG11 := Lib.hid (show _ ∧ _ from ⟨G11, GO11⟩)
      clear HG10 c0 f0 G11 r6 GO11
      have hsc : sc = false := by
        cases sc
        · rfl
        · exact absurd (HM.out.2.2.2 rfl) (by decide)
      subst hsc
      have ke := end_at HG11.out.1.src
      obtain ⟨er, her⟩ : ∃ er, edE e7 x7 = er := ⟨_, rfl⟩
      rw [her] at ke
      replace ke := Lib.hid ke
      have hTX := gTx_parts (xs := xs) (CK := cm0.key) (e8 := e7) (x8 := x7) (k := k) (f := f) (e1 := e1) (x1 := x1) (e2 := e2) (x2 := x2) (e3 := e3) (x3 := x3) (N1 := N1) (LA := LA) (LH := LH) (e6 := e6) (x6 := x6) (e7 := e7) (x7 := x7) (e4 := e4) (x4 := x4) (tl := (tl : Int)) (N2 := N2) (e5 := e5) (x5 := x5) (h1 := HG1.out) (h2 := HG2.out) (h3 := by rw [HS.out]; exact HG3.out) (h4 := by rw [HS.out]; exact HT4.out.1) (h5 := HT4.out.2.1) (h6 := by rw [HS.out]; exact HA.out.2.2.1) (h7 := by rw [HS.out]; exact HA.out.2.2.2) (h8 := by rw [HS.out]; rfl)
      obtain ⟨KT, hKT⟩ : ∃ K, (⟨(k : Int), (f : Int), q5, c5, (N1 ++ N2), aq, ac, LA, hq, hc, LH, cm0⟩ : Txv).key = K := ⟨_, rfl⟩
      have hKT2 : gTx (0, xs) = (KT, e7, x7) := by rw [← hKT]; exact hTX
      have hpu : PureT KT := by
        rw [← hKT]
        exact ⟨HK.out.1, HK.out.2.1, iNN.out, HA.out.1, HHs.out.1⟩
      have hli : LightT (⟨(k : Int), (f : Int), q5, c5, (N1 ++ N2), aq, ac, LA, hq, hc, LH, cm0⟩ : Txv) := ⟨by show (N1 ++ N2).length ≤ 50; rw [List.length_append]; have h1 := HK.out.2.2.2; have h2 := HT4.out.2.2.2; omega, by show LA.length ≤ 50; have := HA.out.2.1; omega, by show LH.length ≤ 50; have := HHs.out.2; omega, by show ([] : List (List Int)).length ≤ 50; decide, by show ([] : List Lf).length ≤ 50; decide, fun x hx => (by cases hx)⟩
      have HX := Lib.hid (show _ ∧ _ ∧ _ ∧ _ ∧ _ from ⟨hKT2, hpu, hli, hKT, her⟩)
      clear hTX hKT2 hpu hli hKT her
      go_wp2_with fail
      refine ke.out.mono ?_
      rintro r wE ⟨rfl, hs, ht⟩
      have GE := HG11.out.1.call hs ht
      have GOE := HG11.out.2.keep ht (fun b hb hx => by have hx' : b = g := hx; omega)
      have hlE : Below w.heap.size w wE := HB.out.trans (GE.tr.below_of HB.out.size (by intro c hc; have hc' : c = g := hc; have := GE.lg; have := GE.b0l; omega))
      clear ke hs ht HG11 e5_
      by_cases hE : er = 0
      case neg =>
        have hne : (er != 0) = true := by rw [bne_iff_ne]; exact hE
        have hEq := Lib.hid (show prE xs = er ∧ prK xs = tx0K from by
          have e1 : prE xs = er := by unfold prE; rw [HX.out.1]; simp only; rw [HX.out.2.2.2.2, if_neg hE]
          exact ⟨e1, by unfold prK; rw [HR.out.2.2, e1, if_neg hE]⟩)
        have hl := hlE
        have r0 := GE.r0
        clear GE GOE hE hlE
        go_upto_region 21 with (fail)
        let L : List Sp := [sO 2 (w.heap.size) 116 [0] (fun g => aggOf g 0)]
        refine wp_region_six0 (shs L) (look6 L) (fun c => c = w.heap.size) (by kernel_rfl) (by kernel_rfl) (mk_St L [2] [2] (by kernel_rfl) (by kernel_rfl) ⟨ok_O aggOf_congr r0.lt (rfl), trivial⟩ (by simp)) ?_
        intro QQ hQ
        refine stepK rfl (by kernel_rfl) (fun K hK => ?_); go_simp
        apply Exists.intro; apply And.intro; (focus (intro wk hk; go_simp; exact ⟨rfl, rfl⟩)); refine hK _ _ ?_; clear hK K
        refine stepKz rfl (fun K hK => ?_); go_simp
        apply Exists.intro; apply And.intro; (focus (intro wk hk; go_simp; exact ⟨rfl, rfl⟩)); refine hK _ _ ?_; clear hK K
        refine stepS _ rfl (by kernel_rfl) (fun K hK => ?_); go_simp
        refine ⟨?_, ?_⟩
        · exact sStoreO rfl rfl rfl rfl rfl rfl r0 id (by kernel_rfl) (by rw [Txv.size rfl]; rfl) (by kernel_rfl) (by decide) aggOf_congr
        rintro ⟨v2, lo2, hi2⟩ - - (rfl : v2 = undef)
        refine hK _ _ ?_; clear hK K
        refine stepKz rfl (fun K hK => ?_); go_simp
        apply Exists.intro; apply And.intro; (focus (intro wk hk; go_simp; exact ⟨rfl, rfl⟩)); refine hK _ _ ?_; clear hK K
        refine stepN ?_
        refine hQ _ _ ?_
        intro w9 hT hG hF
        have hT' := hT
        have x0 : Row w9 (w.heap.size) 116 (#[.int .i64 0, .int .i64 0, .slice none 0 0, .slice none 0 0, .slice none 0 0, .int .i64 0, .int .i64 0, .int .i64 0, .int .u8 0, .int .u8 0, .int .u8 0, .int .u8 0, .int .u8 0, .int .u8 0, .int .u8 0, .int .u8 0, .int .u8 0, .int .u8 0, .int .u8 0, .int .u8 0, .int .u8 0, .int .u8 0, .int .u8 0, .int .u8 0, .int .u8 0, .int .u8 0, .int .u8 0, .int .u8 0, .int .u8 0, .int .u8 0, .int .u8 0, .int .u8 0, .int .u8 0, .int .u8 0, .int .u8 0, .int .u8 0, .int .u8 0, .int .u8 0, .int .u8 0, .int .u8 0, .slice none 0 0, .slice none 0 0, .int .i64 0]) := hF 2 _ rfl rfl (by decide)
        have H9 := Lib.hid (hl.trans (hT'.below_of hl.size (by intro c hc; have hc' : c = w.heap.size := hc; omega)))
        clear hT hT' hG hF hQ QQ L hl r0 
        go_step; go_step; go_step
        simp only [Exit.then]
        refine bodyPost_ret (results_ct rfl aggT116 rfl x0 rfl) rfl ?_
        exact ⟨tx0, by rw [← HR.out.2.1, hEq.out.2]; rfl, by rw [← HR.out.1, hEq.out.1, tx0_cs]; first | done | rfl, tx0_ok _, H9.out, tx0_light⟩
      subst hE
      obtain ⟨bg, hbg⟩ : ∃ b, goodK KT = b := ⟨_, rfl⟩
      have hTok : TxOk wE (⟨(k : Int), (f : Int), q5, c5, (N1 ++ N2), aq, ac, LA, hq, hc, LH, cm0⟩ : Txv) := GOE.ok (by rw [HX.out.2.2.2.1]; exact HX.out.2.1)
      have kg := fun wx (hb : Below wE.heap.size wE wx) => good_at (⟨(k : Int), (f : Int), q5, c5, (N1 ++ N2), aq, ac, LA, hq, hc, LH, cm0⟩ : Txv) wx (hTok.below hb) HX.out.2.2.1
      simp only [HX.out.2.2.2.1, hbg] at kg
      have hszT : (⟨(k : Int), (f : Int), q5, c5, (N1 ++ N2), aq, ac, LA, hq, hc, LH, cm0⟩ : Txv).cs.toArray.size = 43 := Txv.size GE.tk
      have hone := Txv.one (⟨(k : Int), (f : Int), q5, c5, (N1 ++ N2), aq, ac, LA, hq, hc, LH, cm0⟩ : Txv)
      have r1 := GE.r1
      have r0 := GE.r0
      obtain ⟨TB, hTB⟩ : ∃ A, (⟨(k : Int), (f : Int), q5, c5, (N1 ++ N2), aq, ac, LA, hq, hc, LH, cm0⟩ : Txv).cs.toArray = A := ⟨_, rfl⟩
      simp only [hTB] at kg
      rw [hTB] at hszT hone r1
      have hPE := Lib.hid (show prE xs = (if bg = true then 0 else 2) from by unfold prE; rw [HX.out.1]; simp only; rw [HX.out.2.2.2.2, if_pos rfl, hbg])
      have hKb := Lib.hid hbg
      replace kg := Lib.hid kg
      have HT := Lib.hid (show _ ∧ _ from ⟨GOE, hTB⟩)
      have hl := hlE
      clear GE GOE hlE hbg hTok hTB
      go_upto_region 22 with (fail)
      cases bg
      · have hp2 : prE xs = 2 := hPE.out
        have hEq := Lib.hid (show prE xs = 2 ∧ prK xs = tx0K from ⟨hp2, by unfold prK; rw [HR.out.2.2, hp2, if_neg (by decide)]⟩)
        clear hp2
        let L : List Sp := [sV 1 [] [] (fun u => u = .bool false)]
        refine wp_region_six0 (shs L) (look6 L) (None_) (by kernel_rfl) (by kernel_rfl) (mk_St L [] [] (by kernel_rfl) (by kernel_rfl) ⟨ok_V ⟨_, rfl⟩, trivial⟩ (by simp)) ?_
        intro QQ hQ
        refine stepK rfl (by kernel_rfl) (fun K hK => ?_); go_simp
        apply Exists.intro; apply And.intro; (focus exact kLoad rfl rfl aggT116 r1 hszT id); refine hK _ _ ?_; clear hK K
        refine stepS _ rfl (by kernel_rfl) (fun K hK => ?_); go_simp
        refine ⟨?_, ?_⟩
        · intro wk hk hg hu; go_simp; refine upon_enter ((kg.out _ hk.below).mono ?_); rintro e w' ⟨rfl, hb⟩; exact ⟨_, rfl, left_V (p := fun u => u = .bool false) rfl (hb) rfl⟩
        rintro ⟨v1, lo1, hi1⟩ - - (rfl : v1 = _)
        refine hK _ _ ?_; clear hK K
        refine stepK rfl (by kernel_rfl) (fun K hK => ?_); go_simp
        apply Exists.intro; apply And.intro; (focus (intro wk hk; go_simp; exact ⟨rfl, rfl⟩)); refine hK _ _ ?_; clear hK K
        refine stepN ?_
        refine hQ _ _ ?_
        intro wG hT hG hF
        have hbG := hT.below
        have r0 := r0.below hbG r0.lt
        have r1 := r1.below hbG r1.lt
        have hl := hl.trans (hbG.mono hl.size)
        have HTG := Lib.hid (show GO wG (wB.heap.size + 1) (⟨(k : Int), (f : Int), q5, c5, (N1 ++ N2), aq, ac, LA, hq, hc, LH, cm0⟩ : Txv) from HT.out.1.keep (X := None_) (Tr.of hbG) (fun _ _ => id))
        clear hT hG hF hQ QQ L hbG kg
        go_upto_region 23 with (fail)
        let L : List Sp := [sO 1 (w.heap.size) 116 [0] (fun g => aggOf g 0)]
        refine wp_region_six0 (shs L) (look6 L) (fun c => c = w.heap.size) (by kernel_rfl) (by kernel_rfl) (mk_St L [1] [1] (by kernel_rfl) (by kernel_rfl) ⟨ok_O aggOf_congr r0.lt (rfl), trivial⟩ (by simp)) ?_
        intro QQ hQ
        refine stepK rfl (by kernel_rfl) (fun K hK => ?_); go_simp
        apply Exists.intro; apply And.intro; (focus (intro wk hk; go_simp; exact ⟨rfl, rfl⟩)); refine hK _ _ ?_; clear hK K
        refine stepS _ rfl (by kernel_rfl) (fun K hK => ?_); go_simp
        refine ⟨?_, ?_⟩
        · exact sStoreO rfl rfl rfl rfl rfl rfl r0 id (by kernel_rfl) (by rw [Txv.size rfl]; rfl) (by kernel_rfl) (by decide) aggOf_congr
        rintro ⟨v1, lo1, hi1⟩ - - (rfl : v1 = undef)
        refine hK _ _ ?_; clear hK K
        refine stepKz rfl (fun K hK => ?_); go_simp
        apply Exists.intro; apply And.intro; (focus (intro wk hk; go_simp; exact ⟨rfl, rfl⟩)); refine hK _ _ ?_; clear hK K
        refine stepN ?_
        refine hQ _ _ ?_
        intro w9 hT hG hF
        have hT' := hT
        have x0 : Row w9 (w.heap.size) 116 (#[.int .i64 0, .int .i64 0, .slice none 0 0, .slice none 0 0, .slice none 0 0, .int .i64 0, .int .i64 0, .int .i64 0, .int .u8 0, .int .u8 0, .int .u8 0, .int .u8 0, .int .u8 0, .int .u8 0, .int .u8 0, .int .u8 0, .int .u8 0, .int .u8 0, .int .u8 0, .int .u8 0, .int .u8 0, .int .u8 0, .int .u8 0, .int .u8 0, .int .u8 0, .int .u8 0, .int .u8 0, .int .u8 0, .int .u8 0, .int .u8 0, .int .u8 0, .int .u8 0, .int .u8 0, .int .u8 0, .int .u8 0, .int .u8 0, .int .u8 0, .int .u8 0, .int .u8 0, .int .u8 0, .slice none 0 0, .slice none 0 0, .int .i64 0]) := hF 1 _ rfl rfl (by decide)
        have H9 := Lib.hid (hl.trans (hT'.below_of hl.size (by intro c hc; have hc' : c = w.heap.size := hc; omega)))
        clear hT hT' hG hF hQ QQ L hl r0 r1
        go_step; go_step; go_step
        simp only [Exit.then]
        refine bodyPost_ret (results_ct rfl aggT116 rfl x0 rfl) rfl ?_
        exact ⟨tx0, by rw [← HR.out.2.1, hEq.out.2]; rfl, by rw [← HR.out.1, hEq.out.1, tx0_cs]; first | done | rfl, tx0_ok _, H9.out, tx0_light⟩
      · have hp2 : prE xs = 0 := hPE.out
        have hEq := Lib.hid (show prE xs = 0 ∧ prK xs = KT from ⟨hp2, by unfold prK; rw [HR.out.2.2, hp2, if_pos rfl, HX.out.1]⟩)
        clear hp2
        let L : List Sp := [sV 1 [] [] (fun u => u = .bool true)]
        refine wp_region_six0 (shs L) (look6 L) (None_) (by kernel_rfl) (by kernel_rfl) (mk_St L [] [] (by kernel_rfl) (by kernel_rfl) ⟨ok_V ⟨_, rfl⟩, trivial⟩ (by simp)) ?_
        intro QQ hQ
        refine stepK rfl (by kernel_rfl) (fun K hK => ?_); go_simp
        apply Exists.intro; apply And.intro; (focus exact kLoad rfl rfl aggT116 r1 hszT id); refine hK _ _ ?_; clear hK K
        refine stepS _ rfl (by kernel_rfl) (fun K hK => ?_); go_simp
        refine ⟨?_, ?_⟩
        · intro wk hk hg hu; go_simp; refine upon_enter ((kg.out _ hk.below).mono ?_); rintro e w' ⟨rfl, hb⟩; exact ⟨_, rfl, left_V (p := fun u => u = .bool true) rfl (hb) rfl⟩
        rintro ⟨v1, lo1, hi1⟩ - - (rfl : v1 = _)
        refine hK _ _ ?_; clear hK K
        refine stepK rfl (by kernel_rfl) (fun K hK => ?_); go_simp
        apply Exists.intro; apply And.intro; (focus (intro wk hk; go_simp; exact ⟨rfl, rfl⟩)); refine hK _ _ ?_; clear hK K
        refine stepN ?_
        refine hQ _ _ ?_
        intro wG hT hG hF
        have hbG := hT.below
        have r0 := r0.below hbG r0.lt
        have r1 := r1.below hbG r1.lt
        have hl := hl.trans (hbG.mono hl.size)
        have HTG := Lib.hid (show GO wG (wB.heap.size + 1) (⟨(k : Int), (f : Int), q5, c5, (N1 ++ N2), aq, ac, LA, hq, hc, LH, cm0⟩ : Txv) from HT.out.1.keep (X := None_) (Tr.of hbG) (fun _ _ => id))
        clear hT hG hF hQ QQ L hbG kg
        have hinf := info116 hszT
        have hszz : tx0.cs.toArray.size = TB.size := by rw [hszT]; exact Txv.size rfl
        go_upto_region 24 with (fail)
        let L : List Sp := [sO 1 (w.heap.size) 116 [0] (fun g => aggOf g 0)]
        refine wp_region_six0 (shs L) (look6 L) (fun c => c = w.heap.size) (by kernel_rfl) (by kernel_rfl) (mk_St L [1] [1] (by kernel_rfl) (by kernel_rfl) ⟨ok_O aggOf_congr r0.lt (rfl), trivial⟩ (by simp)) ?_
        intro QQ hQ
        refine stepK rfl (by kernel_rfl) (fun K hK => ?_); go_simp
        apply Exists.intro; apply And.intro; (focus exact kLoad rfl rfl aggT116 r1 hszT id); refine hK _ _ ?_; clear hK K
        refine stepS _ rfl (by kernel_rfl) (fun K hK => ?_); go_simp
        refine ⟨?_, ?_⟩
        · exact sStoreO rfl rfl rfl rfl rfl rfl r0 id hinf hszz hone (by decide) aggOf_congr
        rintro ⟨v1, lo1, hi1⟩ - - (rfl : v1 = undef)
        refine hK _ _ ?_; clear hK K
        refine stepKz rfl (fun K hK => ?_); go_simp
        apply Exists.intro; apply And.intro; (focus (intro wk hk; go_simp; exact ⟨rfl, rfl⟩)); refine hK _ _ ?_; clear hK K
        refine stepN ?_
        refine hQ _ _ ?_
        intro wF hT hG hF
        have hT' := hT
        have x0 : Row wF w.heap.size 116 TB := hF 1 _ rfl rfl (by decide)
        have hGOf := HTG.out.keep hT' (fun b hb hx => by have hx' : b = w.heap.size := hx; have := HB.out.size; omega)
        have hokf := Lib.hid (hGOf.ok (by rw [HX.out.2.2.2.1]; exact HX.out.2.1))
        have hB9 := Lib.hid (hl.trans (hT'.below_of hl.size (by intro c hc; have hc' : c = w.heap.size := hc; omega)))
        clear hT hT' hG hF hQ QQ L hl r0 r1 hGOf HTG
        go_step; go_step; go_step
        refine bodyPost_ret (results_ct rfl aggT116 rfl x0 hszT) rfl ?_
        exact ⟨(⟨(k : Int), (f : Int), q5, c5, (N1 ++ N2), aq, ac, LA, hq, hc, LH, cm0⟩ : Txv), by rw [← HR.out.2.1, hEq.out.2]; exact HX.out.2.2.2.1, by rw [← HR.out.1, hEq.out.1, HT.out.2]; first | done | rfl, hokf.out, hB9.out, HX.out.2.2.1⟩
end Go.Proofs.Ytpdenhmkpiafiaa
