/-
  octet.Source.Hash (68) at a source that no call made; tallagelaw04.lives (37).
-/
import Derived.Test.YtpdenhmkpiafiaaOctSrc
import Derived.Test.YtpdenhmkpiafiaaOctAmt
namespace Go.Proofs.Ytpdenhmkpiafiaa
open Go Go.RowKit K6

def z32 : Array Value := arr .u8 (fun _ => 0) 32
theorem aggT35 : AggT Try.prog 35 32 := ⟨⟨_, Try.underlying35, rfl⟩, by kernel_rfl⟩
set_option maxRecDepth 100000 in
set_option maxHeartbeats 4000000 in
theorem hash_none {w : World} {p : Value} (h : Bad w p) : Calls Try.prog 68 #[p] w fun e w' => e = .returned (.agg z32) ∧ Below w.heap.size w w' := by
  have hB := Lib.hid fun (wx : World) (hb : Below w.heap.size w wx) => h.below hb
  clear h
  go_enter Try.func68, Try.ntmps68
  go_upto_region 2 with (fail)
  refine wp_abs (Mem w [(w.heap.size, 35, z32), (w.heap.size + 1, 35, z32)]) ⟨by go_grown, ?_, ?_, trivial⟩ ?_
  · repeat (first | (refine Row.new_at ?_; simp; done) | refine Row.alloc ?_ _)
  · repeat (first | (refine Row.new_at ?_; simp; done) | refine Row.alloc ?_ _)
  intro w0 hM
  obtain ⟨hl, rr, rh, -⟩ := hM
  let L : List Sp := [sV 2 [] [] (fun u => u = .slice none 0 0)]
  refine wp_region_six (shs L) (look6 L) (None_) (by kernel_rfl) (by kernel_rfl) (mk_St L [] [] (by kernel_rfl) (by kernel_rfl) ⟨ok_V ⟨_, rfl⟩, trivial⟩ (by simp)) ?_
  intro QQ hQ
  -- 0: slice<35> t3[::]
  refine stepK rfl (by kernel_rfl) (fun K hK => ?_); go_simp
  apply Exists.intro; apply And.intro; (focus (intro wk hk; go_simp; exact ⟨rfl, rfl⟩)); refine hK _ _ ?_; clear hK K
  -- 1: t0
  refine stepK rfl (by kernel_rfl) (fun K hK => ?_); go_simp
  apply Exists.intro; apply And.intro; (focus (intro wk hk; go_simp; exact ⟨rfl, rfl⟩)); refine hK _ _ ?_; clear hK K
  -- 2: call F177(t5, 32)
  refine stepS _ rfl (by kernel_rfl) (fun K hK => ?_); go_simp
  refine ⟨?_, ?_⟩
  · intro wk hk hg hu; go_simp; refine upon_enter ((take_bad 32 (hB.out _ (hl.trans (hk.undrew.below.mono hl.size)))).mono ?_); rintro e w' ⟨rfl, rfl⟩; exact ⟨_, rfl, left_V (p := fun u => u = .slice none 0 0) rfl (Below.refl _ _) rfl⟩
  rintro ⟨v2, lo2, hi2⟩ - - (rfl : v2 = _)
  refine hK _ _ ?_; clear hK K
  -- 3: call builtin copy<33,33>(t4, t6)
  refine stepK rfl (by kernel_rfl) (fun K hK => ?_); go_simp
  apply Exists.intro; apply And.intro; (focus (intro wk hk; go_simp; exact ⟨rfl, rfl⟩)); refine hK _ _ ?_; clear hK K
  refine stepN ?_
  refine hQ _ _ ?_
  intro w1 hT hG hF
  have hbw1 := hT.undrew.below
  replace rr := rr.below hbw1 rr.lt
  replace rh := rh.below hbw1 rh.lt
  replace hl := hl.trans (hbw1.mono hl.size)
  clear hT hG hF hbw1 hQ QQ L 
  go_upto_region 3 with (fail)
  let L : List Sp := [sO 1 (w.heap.size) 35 [0] (fun g => aggOf g 0)]
  refine wp_region_six0 (shs L) (look6 L) (fun c => c = w.heap.size) (by kernel_rfl) (by kernel_rfl) (mk_St L [1] [1] (by kernel_rfl) (by kernel_rfl) ⟨ok_O aggOf_congr rr.lt (rfl), trivial⟩ (by simp)) ?_
  intro QQ hQ
  -- 0: load<35> *t3
  refine stepK rfl (by kernel_rfl) (fun K hK => ?_); go_simp
  apply Exists.intro; apply And.intro; (focus exact kLoad rfl rfl aggT35 rh rfl id); refine hK _ _ ?_; clear hK K
  -- 1: store<35> *t2 = t8
  refine stepS _ rfl (by kernel_rfl) (fun K hK => ?_); go_simp
  refine ⟨?_, ?_⟩
  · exact sStoreO rfl rfl rfl rfl rfl rfl rr id (by kernel_rfl) rfl (by kernel_rfl) (by decide) aggOf_congr
  rintro ⟨v1, lo1, hi1⟩ - - (rfl : v1 = undef)
  refine hK _ _ ?_; clear hK K
  refine stepN ?_
  refine hQ _ _ ?_
  intro w9 hT hG hF
  have hT' := hT
  have x2 : Row w9 (w.heap.size) 35 z32 := hF 1 _ rfl rfl (by decide)
  have hl9 : Below w.heap.size w w9 := hl.trans (hT'.below_of hl.size (by intro c hc; omega))
  clear hT hT' hG hF hQ QQ L
  go_wp2_with fail
  refine bodyPost_ret (results_c rfl aggT35 rfl x2 rfl) rfl ?_
  exact ⟨rfl, hl9⟩
theorem encs : ([] : List Int) ++ enc (300 : Int).toNat = [172, 2] := by
  show ([] : List Int) ++ enc 300 = [172, 2]
  rw [List.nil_append, enc_high (by decide), enc_low (by decide)]; rfl
theorem amt258 : ([] : List Int) ++ amtL 258 = [2, 1, 2] := by decide +kernel
theorem Bs_two {w : World} (x y : Int) : Bs (w.alloc (.cells #[.int .u8 x, .int .u8 y] 5)) (.slice (some ⟨w.heap.size, 0, none⟩) 2 2) [x, y] := by
  refine ⟨_, _, rfl, (fun h => (by cases h)), fun a ha j u hj => ?_⟩
  cases ha
  have hr := Row.new_at (w := w) (cs := #[.int .u8 x, .int .u8 y]) (t := 5) rfl
  match j, hj with
  | 0, hj =>
    cases hj
    rw [add_at]
    exact hr.cell 0
  | 1, hj =>
    cases hj
    rw [add_at]
    exact hr.cell 1
theorem below_tr {B g : Nat} {a b : World} (h : Tr (fun x => x = g) a b) (hB : B ≤ g) (hs : B ≤ a.heap.size) : Below B a b := h.below_of hs (fun _ hc => hc ▸ hB)
set_option maxRecDepth 100000 in
set_option maxHeartbeats 8000000 in
theorem lives4U (w : World) : Calls Try.prog 37 #[] w fun e w' => e = .returned (.bool true) ∧ Below w.heap.size w w' := by
  have hA : Below w.heap.size w (w.alloc (.cells #[.int .u8 128, .int .u8 0] 5)) := (Below.refl _ _).alloc (Nat.le_refl _) _
  have rd := Lib.hid (read_any _ _ _ (Bs_two (w := w) 128 0) (by decide))
  have vr := Lib.hid fun wx => var_any (.slice none 0 0) [] 300 wx (Bs.nil wx) (by decide) (by decide)
  have am := Lib.hid fun wx => amt_any (.slice none 0 0) [] 258 wx (Bs.nil wx) (by decide) (by unfold M; decide)
  have HA := Lib.hid hA
  clear hA
  go_enter Try.func37, Try.ntmps37
  go_wp2_with fail
  refine rd.out.mono ?_
  rintro e w1 ⟨g, v, rfl, hg, hs, ho, hne, hl⟩
  clear rd
  have hl1 := HA.out.trans (hl.mono HA.out.size)
  have hgB : w.heap.size ≤ g := Nat.le_trans HA.out.size hg
  obtain ⟨b, cap, rfl⟩ : ∃ b cap, v = .slice (some ⟨b, 0, none⟩) 2 cap := by
    rcases ho.2 with ⟨rfl, h0⟩ | ⟨b, cap, cur, rfl, -⟩
    · exact absurd h0 (by decide)
    · exact ⟨b, cap, rfl⟩
  have k0 : w1.cell? ⟨b, 0, none⟩ = some (.int .u8 128) := by
    have := World.ownsRow.cells ho (g := b) rfl 0 (.int .u8 128) rfl
    rwa [add_at] at this
  have k1 : w1.cell? ⟨b, 1, none⟩ = some (.int .u8 0) := by
    have := World.ownsRow.cells ho (g := b) rfl 1 (.int .u8 0) rfl
    rwa [add_at] at this
  have sv := Lib.hid (svar_bad (n := 9) hs k0 k1)
  clear hs ho hne hl hg k0 k1 HA
  have H1 := Lib.hid (show _ ∧ _ from ⟨hl1, hgB⟩)
  clear hl1 hgB
  go_wp2_with fail
  refine sv.out.mono ?_
  rintro e w2 ⟨rfl, hs, ht⟩
  clear sv
  have hl2 := H1.out.1.trans (below_tr ht H1.out.2 H1.out.1.size)
  have H2 := Lib.hid (show _ ∧ _ from ⟨hl2, hs⟩)
  clear hl2 hs ht H1
  go_wp2_with fail
  refine (vr.out _).mono ?_
  rintro e w3 ⟨v3, rfl, ho, hl⟩
  rw [encs] at ho
  have cv := ho.bs.conv (by decide)
  rw [show strOfNums [172, 2] = ByteArray.mk #[172, 2] from rfl] at cv
  have hs3 := Row.below H2.out.2 hl (Row.lt H2.out.2)
  have H3 := Lib.hid (show _ ∧ _ from ⟨H2.out.1.trans (hl.mono H2.out.1.size), hs3⟩)
  clear ho hl hs3 H2 vr
  go_wp2_with fail
  refine (am.out _).mono ?_
  rintro e w4 ⟨v4, rfl, ho, hl⟩
  rw [amt258] at ho
  have cv4 := ho.bs.conv (by decide)
  rw [show strOfNums [2, 1, 2] = ByteArray.mk #[2, 1, 2] from rfl] at cv4
  have hs4 := Row.below H3.out.2 hl (Row.lt H3.out.2)
  have er := Lib.hid (err_row hs4)
  have H4 := Lib.hid (H3.out.1.trans (hl.mono H3.out.1.size))
  clear ho hl hs4 H3 am cv
  go_wp2_with fail
  refine er.out.mono ?_
  rintro e w5 ⟨rfl, rfl⟩
  clear er
  go_wp2_with fail
  go_ret
  exact ⟨rfl, H4.out⟩
end Go.Proofs.Ytpdenhmkpiafiaa
