/-
  tallageref01.Of (164): a number as the reference's digits.
-/
import Derived.Test.YtpdenhmkpiafiaaGD
import Derived.Test.YtpdenhmkpiafiaaGE
namespace Go.Proofs.Ytpdenhmkpiafiaa
open Go Go.RowKit K6 Ref

namespace K6
/-- buildSlice: a block made, and the slice of all of it -/
def sL (i t : Nat) (kill : List Nat) (n : Nat) (cs : Array Value) : Sp := (⟨i, [], [], kill, [], [i], false, false, false⟩, ⟨fun _ x => x.v = .slice (some ⟨x.lo, 0, none⟩) n n ∧ x.hi = x.lo + 1, fun g w => (g i).hi = (g i).lo + 1 ∧ Row w (g i).lo t cs, None_, None_⟩)
theorem ok_L {w1 : World} {Z : Nat → Prop} {i t n : Nat} {kill : List Nat} {cs : Array Value} : OpOk w1 Z (sL i t kill n cs) where
  some_ := fun _ => ⟨⟨.slice (some ⟨w1.heap.size, 0, none⟩) n n, w1.heap.size, w1.heap.size + 1⟩, Nat.le_refl _, Nat.le_succ _, rfl, rfl⟩
  depV := fun _ _ _ _ h => h
  depF := fun g g' hg w h => by show (g' i).hi = (g' i).lo + 1 ∧ Row w (g' i).lo t cs; rw [hg i (.inl rfl)]; exact h
  loc := fun g w w' h hT => ⟨h.1, Row.tr h.2 hT fun hn => hn (.inr (.inr ⟨i, by simp [sL], Nat.le_refl _, by have : (g i).hi = (g i).lo + 1 := h.1; omega⟩))⟩
  xo := fun _ h => h.elim
  lo := fun _ h => h.elim
theorem left_L {l : List Sp} {i t n : Nat} {kill : List Nat} {cs : Array Value} {s : Sh} (hl : look6 l s.i = (sL i t kill n cs).2) (hs : s = (sL i t kill n cs).1) {g : Ghost} {w : World} : Left (look6 l) s g w (.slice (some ⟨w.heap.size, 0, none⟩) n n) (w.alloc (.cells cs t)) := by
  unfold Left
  rw [hl]
  subst hs
  refine ⟨⟨rfl, by simp⟩, Tr.of ((Below.refl _ _).alloc (Nat.le_refl _) _), ?_⟩
  show (gput g i _ i).hi = (gput g i _ i).lo + 1 ∧ Row _ (gput g i _ i).lo t cs
  rw [gput_self]
  exact ⟨by simp, Row.new_at rfl⟩
end K6

/-- digit j of a number -/
def d32 (a j : Nat) : Nat := a / 2 ^ (32 * j) % 2 ^ 32
/-- the first 2 i digits of a, as values -/
def ofV (a i : Nat) : List Value := (List.range (2 * i)).map fun j => .int .u32 ((d32 a j : Nat) : Int)

/-- a slice of the call's own reads as digits -/
theorem Sl_own {w : World} {base n : Nat} {v : Value} {xs : List Nat} (h : w.ownsRow base 181 1 v n (xs.map fun x => .int .u32 ((x : Nat) : Int))) (hn : n = xs.length) : Sl w v xs := by
  subst hn
  rcases h.2 with ⟨rfl, h0⟩ | ⟨g, cap, cur, rfl, hb, hg, h1, h2, h3, h4⟩
  · exact ⟨none, 0, by rw [h0], by omega, (fun _ => rfl), fun a ha => (by cases ha)⟩
  · refine ⟨_, _, rfl, h1, (fun h => (by cases h)), fun a ha => ?_⟩
    cases ha
    refine ⟨g, 0, rfl, (Array.getElem?_eq_some_iff.1 hg).1, fun i hi => ?_⟩
    have h5 := h.cells (g := g) rfl i (.int .u32 ((dg xs i : Nat) : Int)) (by rw [List.getElem?_map, dg_some hi]; rfl)
    have hadd : (⟨g, 0, none⟩ : Addr).add i = ⟨g, 0 + i, none⟩ := by unfold Addr.add; split <;> simp_all
    rw [hadd] at h5
    exact h5
theorem val_d32 (a k : Nat) : val ((List.range k).map (d32 a)) = a % 2 ^ (32 * k) := by
  induction k with
  | zero => simp [val, Nat.mod_one]
  | succ k ih =>
    rw [List.range_succ, List.map_append, val_append, ih, List.length_map, List.length_range, show 32 * (k + 1) = 32 * k + 32 by omega, Nat.pow_add, Nat.mod_mul, show B ^ k = 2 ^ (32 * k) by rw [Nat.pow_mul]]
    simp [val, d32]
theorem dig_d32 (a k : Nat) : Dig ((List.range k).map (d32 a)) := by
  intro x hx
  obtain ⟨j, _, rfl⟩ := List.mem_map.1 hx
  exact Nat.mod_lt _ (by decide)
theorem ofV_map (a i : Nat) : ofV a i = ((List.range (2 * i)).map (d32 a)).map fun x => .int .u32 ((x : Nat) : Int) := by
  unfold ofV
  rw [List.map_map]
  rfl
theorem ofV_succ (a i : Nat) : ofV a (i + 1) = ofV a i ++ [.int .u32 ((d32 a (2 * i) : Nat) : Int), .int .u32 ((d32 a (2 * i + 1) : Nat) : Int)] := by
  unfold ofV
  rw [show 2 * (i + 1) = 2 * i + 1 + 1 by omega, List.range_succ, List.range_succ]
  simp
theorem lo32 (a i : Nat) : IntKind.u32.wrap (wordsOf a i) = ((d32 a (2 * i) : Nat) : Int) := by
  unfold wordsOf d32
  rw [show 32 * (2 * i) = 64 * i by omega, IntKind.wrap_u32]
  have : a / 2 ^ (64 * i) % 2 ^ 64 % 2 ^ 32 = a / 2 ^ (64 * i) % 2 ^ 32 := Nat.mod_mod_of_dvd _ (by decide)
  rw [← this]
  omega
theorem hi32 (a i : Nat) : IntKind.u32.wrap (wordsOf a i / 4294967296) = ((d32 a (2 * i + 1) : Nat) : Int) := by
  unfold wordsOf d32
  rw [show 32 * (2 * i + 1) = 64 * i + 32 by omega, Nat.pow_add, ← Nat.div_div_eq_div_mul, IntKind.wrap_u32]
  generalize a / 2 ^ (64 * i) = x
  omega

set_option maxRecDepth 100000 in
set_option maxHeartbeats 4000000 in
theorem of164 (a : Nat) (ha : a < M) (w : World) :
    Calls Try.prog 164 #[.agg (W4 a)] w fun e w' => ∃ v, e = .returned v ∧ Sl w' v (digs a) ∧ Below w.heap.size w w' := by
  go_enter Try.func164, Try.ntmps164
  go_wp2_with fail
  go_loopg [3, 4] 4 (fun gg s3 s4 wr => ∃ i, i + gg = 4 ∧ s4 = .int .i64 ((i : Nat) : Int) ∧ Below w.heap.size w wr ∧ Row wr w.heap.size 31 (W4 a) ∧ wr.ownsRow (w.heap.size + 1) 181 1 s3 (2 * i) (ofV a i))
  case atStart => exact ⟨0, rfl, rfl, by go_grown, Row.new_at rfl, by simp [ofV, World.ownsRow]⟩
  case round =>
    obtain ⟨i, hi, rfl, hl, r0, ho⟩ := hrel
    by_cases hlt : i < 4
    · have H := Lib.hid (show _ ∧ _ ∧ _ from ⟨hl, r0, ho⟩)
      clear hl r0 ho
      have hd : decide ((i : Int) < 4) = true := by simp; omega
      go_upto_region 5 with (fail)
      obtain ⟨hl, r0, ho⟩ := H.out
      refine wp_abs (fun w5 => Below w.heap.size w w5 ∧ Row w5 w.heap.size 31 (W4 a) ∧ w5.ownsRow (w.heap.size + 1) 181 1 u3 (2 * i) (ofV a i)) ⟨hl, r0, ho⟩ ?_
      clear hl r0 ho H
      rintro w5 ⟨hl, r0, ho⟩
      obtain ⟨x0, hx0⟩ : ∃ x, IntKind.u32.wrap (wordsOf a i) = x := ⟨_, rfl⟩
      obtain ⟨x1, hx1⟩ : ∃ x, IntKind.u32.wrap (wordsOf a i / 4294967296) = x := ⟨_, rfl⟩
      have hI : (i : Int) < 4 := by omega
      have hown : ∀ b, u3.ownBlock = some b → u3.ownBlock = some b ∧ b < w5.heap.size := fun b hb => ⟨hb, (ho.lt b hb).2⟩
      let L : List Sp := [sL 10 181 [] 2 #[.int .u32 (x0), .int .u32 (x1)], sP 11 [10] [10] (w.heap.size + 1) 181 u3 (2 * i + 2) (ofV a (i + 1))]
      refine wp_region_six (shs L) (look6 L) (fun b => u3.ownBlock = some b) (by kernel_rfl) (by kernel_rfl) (mk_St L [11] [11] (by kernel_rfl) (by kernel_rfl) ⟨ok_L, ok_P hown, trivial⟩ (by simp)) ?_
      intro QQ hQ
      -- 0: t3
      refine stepK rfl (by kernel_rfl) (fun K hK => ?_); go_simp
      apply Exists.intro; apply And.intro; (focus (intro wk hk; go_simp; exact ⟨rfl, rfl⟩)); refine hK _ _ ?_; clear hK K
      -- 1: t4
      refine stepK rfl (by kernel_rfl) (fun K hK => ?_); go_simp
      apply Exists.intro; apply And.intro; (focus (intro wk hk; go_simp; exact ⟨rfl, rfl⟩)); refine hK _ _ ?_; clear hK K
      -- 2: indexAddr<31> t1[t10]
      refine stepK rfl (by kernel_rfl) (fun K hK => ?_); go_simp
      apply Exists.intro; apply And.intro; (focus (intro wk hk; go_simp; exact ⟨rfl, rfl⟩)); refine hK _ _ ?_; clear hK K
      -- 3: load<29> *t11
      refine stepK rfl (by kernel_rfl) (fun K hK => ?_); go_simp
      apply Exists.intro; apply And.intro; (focus (intro wk hk; have cc := (K6.Row.tr r0 hk.undrew id).at_ i (by omega); go_simp; exact ⟨rfl, rfl⟩)); refine hK _ _ ?_; clear hK K
      -- 4: convert<29->181> t12
      refine stepK rfl (by kernel_rfl) (fun K hK => ?_); go_simp
      apply Exists.intro; apply And.intro; (focus (intro wk hk; go_simp; exact ⟨rfl, rfl⟩)); refine hK _ _ ?_; clear hK K
      -- 5: t4
      refine stepK rfl (by kernel_rfl) (fun K hK => ?_); go_simp
      apply Exists.intro; apply And.intro; (focus (intro wk hk; go_simp; exact ⟨rfl, rfl⟩)); refine hK _ _ ?_; clear hK K
      -- 6: indexAddr<31> t1[t14]
      refine stepK rfl (by kernel_rfl) (fun K hK => ?_); go_simp
      apply Exists.intro; apply And.intro; (focus (intro wk hk; go_simp; exact ⟨rfl, rfl⟩)); refine hK _ _ ?_; clear hK K
      -- 7: load<29> *t15
      refine stepK rfl (by kernel_rfl) (fun K hK => ?_); go_simp
      apply Exists.intro; apply And.intro; (focus (intro wk hk; have cc := (K6.Row.tr r0 hk.undrew id).at_ i (by omega); go_simp; exact ⟨rfl, rfl⟩)); refine hK _ _ ?_; clear hK K
      -- 8: shr<29> t16, 32u <136>
      refine stepK rfl (by kernel_rfl) (fun K hK => ?_); go_simp
      apply Exists.intro; apply And.intro; (focus (intro wk hk; go_simp; exact ⟨rfl, rfl⟩)); refine hK _ _ ?_; clear hK K
      -- 9: convert<29->181> t17
      refine stepK rfl (by kernel_rfl) (fun K hK => ?_); go_simp
      apply Exists.intro; apply And.intro; (focus (intro wk hk; go_simp; exact ⟨rfl, rfl⟩)); refine hK _ _ ?_; clear hK K
      -- 10: buildSlice<153> len 2 0:t13, 1:t18
      refine stepS _ rfl (by kernel_rfl) (fun K hK => ?_); go_simp
      refine ⟨?_, ?_⟩
      · intro wk hk hg hu; go_simp; exact left_L rfl rfl
      rintro ⟨v10, lo10, hi10⟩ hlo10 hhi10 ⟨e10, f10⟩
      replace e10 : v10 = .slice (some ⟨lo10, 0, none⟩) 2 2 := e10; replace f10 : hi10 = lo10 + 1 := f10; replace hlo10 : _ ≤ lo10 := hlo10; subst e10; subst f10
      refine hK _ _ ?_; clear hK K
      -- 11: call builtin append<153,153>(t9, t19)
      refine stepS _ rfl (by kernel_rfl) (fun K hK => ?_); go_simp
      refine ⟨?_, ?_⟩
      · intro wk hk hg hu; have u10 := hu 10 (show 10 ∈ [10] by decide); have r10 : Row wk lo10 181 #[.int .u32 x0, .int .u32 x1] := u10.2; have how := own_tr ho hk.undrew (fun _ _ => id); obtain ⟨v2, w2, hrun, ho2, hgb, -, hw2⟩ := run_append_own_at (P := Try.prog) wk (w.heap.size + 1) 153 153 181 _ _ 1 4 rfl rfl rfl rfl rfl rfl (by decide) u3 (2 * i) (ofV a i) how ⟨lo10, 0, none⟩ 2 2 [.int .u32 x0, .int .u32 x1] rfl (by intro j u hj; match j, hj with | 0, hj => (cases hj; exact r10.cell 0) | 1, hj => (cases hj; exact r10.cell 1)) (by simp [Value.oneCell']) (by simp only [maxLen]; omega) (by omega) (by have h1 := r0.lt; have h2 := hk.undrew.size; omega); rw [run_append_op rfl rfl rfl hrun]; exact left_P rfl rfl hgb (by rw [ofV_succ, ← lo32, ← hi32, hx0, hx1]; exact ho2) hw2
      rintro ⟨v11, lo11, hi11⟩ - - hG11
      refine hK _ _ ?_; clear hK K
      -- 12: assign t20
      refine stepKz rfl (fun K hK => ?_); go_simp
      apply Exists.intro; apply And.intro; (focus (intro wk hk; go_simp; exact ⟨rfl, rfl⟩)); refine hK _ _ ?_; clear hK K
      refine stepN ?_
      refine hQ _ _ ?_
      intro w6 hT hG hF
      have hO : w6.ownsRow (w.heap.size + 1) 181 1 v11 (2 * i + 2) (ofV a (i + 1)) := (hF 11 _ rfl rfl (by decide)).2
      have hT2 := hT.undrew
      have hl6 : Below w.heap.size w w6 := hl.trans (hT2.below_of hl.size (by intro c hc; have := (ho.lt c hc).1; omega))
      have r6 : Row w6 w.heap.size 31 (W4 a) := K6.Row.tr r0 hT2 (fun hc => by have := (ho.lt _ hc).1; omega)
      have H := Lib.hid (show _ ∧ _ ∧ _ from ⟨hl6, r6, hO⟩)
      clear hT hT2 hG hF hQ QQ L hO hl6 r6 hl r0 ho hown hG11
      go_wp2_with fail
      go_roundg (gk - 1)
      case measure => omega
      case rel => exact ⟨i + 1, by omega, by go_num, H.out.1, H.out.2.1, H.out.2.2⟩
    · obtain rfl : i = 4 := by omega
      have hS : Sl wr u3 ((List.range 8).map (d32 a)) := Sl_own (base := w.heap.size + 1) (n := 2 * 4) (by rw [← ofV_map a 4]; exact ho) (by simp)
      have hT := trim_any u3 _ wr (dig_d32 a 8) hS (by simp)
      rw [val_d32, Nat.mod_eq_of_lt (show a < 2 ^ (32 * 8) from ha)] at hT
      have HT := Lib.hid hT
      clear hS hT r0 ho
      go_wp2_with fail
      refine HT.out.mono ?_
      rintro e w' ⟨rfl, u, rfl, hu⟩
      go_wp2_with fail
      go_ret
      exact ⟨_, rfl, hu, hl⟩
end Go.Proofs.Ytpdenhmkpiafiaa
