/-
  event.Text (71), and what lives of the layer (34).
-/
import Derived.Test.YtpdenhmkpiafiaaEvName
import Derived.Test.YtpdenhmkpiafiaaEvNew
import Derived.Test.YtpdenhmkpiafiaaEvBuild
namespace Go.Proofs.Ytpdenhmkpiafiaa
open Go Go.RowKit K6

/-- how many digits a number has -/
def djF : Nat → Nat → Nat
  | 0, _ => 1
  | f + 1, a => if a < 10 then 1 else djF f (a / 10) + 1
def dj (a : Nat) : Nat := djF 77 a
theorem djF_is (f : Nat) : ∀ a j, 1 ≤ j → j ≤ f + 1 → a / 10 ^ j = 0 → (j = 1 ∨ a / 10 ^ (j - 1) ≠ 0) → djF f a = j := by
  induction f with
  | zero => intro a j h1 h2 _ _; show 1 = j; omega
  | succ f ih =>
    intro a j h1 h2 h3 h4
    show (if a < 10 then 1 else djF f (a / 10) + 1) = j
    by_cases h : a < 10
    · rw [if_pos h]
      rcases h4 with h4 | h4
      · exact h4.symm
      · match j, h1 with
        | 1, _ => rfl
        | j + 2, _ =>
          refine absurd (Nat.div_eq_of_lt (Nat.lt_of_lt_of_le h ?_)) h4
          show 10 ≤ 10 ^ (j + 1)
          rw [Nat.pow_succ]
          have := Nat.one_le_pow j 10 (by decide)
          omega
    · rw [if_neg h]
      match j, h1 with
      | 1, _ => exfalso; rw [Nat.pow_one] at h3; omega
      | j + 2, _ =>
        rw [ih (a / 10) (j + 1) (by omega) (by omega) (by rw [Nat.div_div_eq_div_mul, ← Nat.pow_succ']; exact h3) ?_]
        right
        rcases h4 with h4 | h4
        · omega
        · show a / 10 / 10 ^ j ≠ 0
          rw [Nat.div_div_eq_div_mul, ← Nat.pow_succ']
          exact h4
/-- a number's text -/
def decT (a : Nat) : ByteArray := strOfNums (decs a (dj a))
theorem txt_dec {w w' : World} {a : Nat} {e : Ending} (h : Txt w a e w') : e = .returned (.string (decT a)) ∧ Below w.heap.size w w' := by
  obtain ⟨j, h1, h2, h3, h4, rfl, hb⟩ := h
  refine ⟨?_, hb⟩
  unfold decT dj
  rw [djF_is 77 a j h1 h2 h3 h4]
theorem djF_le (f : Nat) : ∀ a, djF f a ≤ f + 1 := by
  induction f with
  | zero => intro a; exact Nat.le_refl 1
  | succ f ih =>
    intro a
    show (if a < 10 then 1 else djF f (a / 10) + 1) ≤ _
    have := ih (a / 10)
    split <;> omega
theorem decT_size (a : Nat) : (decT a).size ≤ 78 := by
  have h : (decT a).size = (decs a (dj a)).length := strOfNums_size _
  rw [h]
  have h2 : (decs a (dj a)).length = dj a := by unfold decs; simp
  rw [h2]
  exact djF_le 77 a
/-- an event's text -/
def txL (k : Int) (l : List Nat) : List UInt8 := (nmOf k).data.toList ++ l.flatMap fun a => 32 :: (decT a).data.toList
def textT (k : Int) (l : List Nat) : ByteArray := ⟨(txL k l).toArray⟩
theorem txL_nil (k : Int) : txL k [] = (nmOf k).data.toList := List.append_nil _
theorem txL_app (k : Int) (l : List Nat) (a : Nat) : txL k (l ++ [a]) = txL k l ++ (32 :: (decT a).data.toList) := by
  unfold txL
  rw [List.flatMap_append, ← List.append_assoc]
  congr 1
  exact List.append_nil _
theorem nm_size (k : Int) : (nmOf k).data.toList.length ≤ 20 := by
  unfold nmOf
  split
  · rename_i h
    obtain ⟨i, rfl⟩ : ∃ i : Nat, k = (i : Int) := ⟨k.toNat, by omega⟩
    have hi : i < 27 := by omega
    have hall : (List.range 27).all (fun i => decide ((nmB.getD i unkB).data.toList.length ≤ 20)) = true := by kernel_rfl
    have := List.all_eq_true.1 hall i (List.mem_range.2 hi)
    exact of_decide_eq_true this
  · exact of_decide_eq_true (by kernel_rfl)
theorem txL_len (k : Int) (l : List Nat) : (txL k l).length ≤ 20 + 79 * l.length := by
  unfold txL
  rw [List.length_append]
  have h0 := nm_size k
  have h1 : (l.flatMap fun a => (32 : UInt8) :: (decT a).data.toList).length ≤ 79 * l.length := by
    induction l with
    | nil => exact Nat.le_refl 0
    | cons a l ih =>
      rw [List.flatMap_cons, List.length_append, List.length_cons, List.length_cons]
      have := decT_size a
      have h2 : (decT a).data.toList.length = (decT a).size := by rw [Array.length_toList]; rfl
      omega
  omega
theorem byteC_app (a b : List UInt8) : Lib.byteCells (a ++ b) = Lib.byteCells a ++ Lib.byteCells b := List.map_append
theorem byteC_len (a : List UInt8) : (Lib.byteCells a).length = a.length := List.length_map _
theorem str32 : Lib.strCells (ByteArray.mk #[32]) = Lib.byteCells [32] := rfl
theorem strC (s : ByteArray) : Lib.strCells s = Lib.byteCells s.data.toList := rfl
theorem tx_step (k : Int) (l : List Nat) (x i : Nat) (hx : l[i]? = some x) : (Lib.byteCells (txL k (l.take i)) ++ Lib.strCells (ByteArray.mk #[32])) ++ Lib.strCells (decT x) = Lib.byteCells (txL k (l.take (i + 1))) := by
  rw [List.take_add_one, hx, Option.toList_some, txL_app, str32, strC, ← byteC_app, ← byteC_app, List.append_assoc]
  rfl
set_option maxRecDepth 100000 in
set_option maxHeartbeats 16000000 in
theorem evtext_at (k : Int) (v : Value) (l : List Nat) (w : World) (h : Us w v l) (hM : ∀ a ∈ l, a < M) (hL : l.length ≤ 100000) :
    Calls Try.prog 71 #[.agg #[.int .i64 k, v]] w fun e w' => e = .returned (.string (textT k l)) ∧ Below w.heap.size w w' := by
  have HC := Lib.hid (show _ ∧ _ from ⟨h, hM⟩)
  obtain ⟨q, c, rfl, -, -⟩ := h
  obtain ⟨m, hm⟩ : ∃ m, l.length = m := ⟨_, rfl⟩
  obtain ⟨B, hB⟩ : ∃ B, w.heap.size = B := ⟨_, rfl⟩
  rw [hm] at HC ⊢
  have hmi : (m : Int) ≤ 100000 := by omega
  clear hM
  go_enter Try.func71, Try.ntmps71
  go_upto_region 2 with (fail)
  refine wp_abs (Mem w [(w.heap.size, 26, #[.int .i64 k, .slice q m c]), (w.heap.size + 1, 167, #[.pointer none, .slice none 0 0])]) ⟨by go_grown, ?_, ?_, trivial⟩ ?_
  · repeat (first | (refine Row.new_at ?_; simp; done) | refine Row.alloc ?_ _)
  · repeat (first | (refine Row.new_at ?_; simp; done) | refine Row.alloc ?_ _)
  intro w0 hM
  obtain ⟨hl, r4, r5, -⟩ := hM
  simp only [hB] at r4 r5 hl ⊢
  have b0 := Bld.fresh (Nat.le_refl (B + 1)) r5
  have hB2 := r5.lt
  clear r5
  have c0 := r4.cell 0
  go_wp2_with fail
  refine (name_at _ _).mono ?_
  rintro e w1 ⟨rfl, hb1⟩
  have b1 := b0.below hb1
  replace r4 := r4.below hb1 r4.lt
  have hl1 := hl.trans (hb1.mono (by omega))
  clear c0 b0 hl
  have hs1 := b1.lt.2
  go_wp2_with fail
  refine (write_at _ b1 (by have := nm_size k; rw [Array.length_toList] at this; show 0 + (nmOf k).data.size ≤ _; omega) (by omega)).mono ?_
  rintro e w2 ⟨rfl, b2, hb2, ho2⟩
  replace r4 := r4.others ho2 (by omega) (by decide)
  have hl2 := hl1.trans (hb2.mono (by omega))
  clear b1 hl1 hb1 hb2 ho2 hs1 hB2
  have c1 := r4.cell 1
  have hl2' := Lib.hid (show _ ∧ _ from ⟨hl2, b2⟩)
  clear hl2 b2
  go_wp2_with fail
  go_loopg [5, 13] m (fun gg s5 s13 wr => ∃ (i : Nat), i + gg = m ∧ s13 = .int .i64 (i : Int) ∧ Hid (Below B w wr ∧ Bld wr (B + 1) (B + 1) (Lib.byteCells (txL k (l.take i)))))
  case atStart => exact ⟨0, by omega, rfl, Lib.hid ⟨hl2'.out.1, by have h := hl2'.out.2; rw [List.take_zero, txL_nil]; exact h⟩⟩
  case round =>
    clear r4 c1 hl2'
    obtain ⟨i, him, rfl, hinv⟩ := hrel
    by_cases hi : i < m
    · obtain ⟨x, hx⟩ : ∃ x, l[i]? = some x := ⟨_, List.getElem?_eq_getElem (by omega)⟩
      obtain ⟨hl, hbd⟩ := hinv.out
      have hl' : Below w.heap.size w wr := by rw [hB]; exact hl
      obtain ⟨g, o, c', hu, hg, hcs⟩ := (HC.out.1.below hl').elem hx
      simp only [Value.slice.injEq] at hu
      obtain ⟨rfl, -, -⟩ := hu
      have hxM : x < M := HC.out.2 x (List.mem_of_getElem? hx)
      have HH := Lib.hid (show _ ∧ _ from ⟨hl, hbd⟩)
      have hst := Lib.hid (tx_step k l x i hx)
      have hsz : (Lib.byteCells (txL k (l.take i))).length ≤ 20 + 79 * 100000 := by
        rw [byteC_len]
        have := txL_len k (l.take i)
        rw [List.length_take] at this
        omega
      have hlo := hbd.lt.2
      clear hl hbd hinv hl' hx
      have hlt : (i : Int) < (m : Int) := by omega
      go_upto_region 5 with (fail)
      let L : List Sp := [sA 2 31 [3] #[.int .u64 0, .int .u64 0, .int .u64 0, .int .u64 0], sT 3 2 31 [1] (fun g => aggOf g 1)]
      refine wp_region_six0 (shs L) (look6 L) (None_) (by kernel_rfl) (by kernel_rfl) (mk_St L [] [] (by kernel_rfl) (by kernel_rfl) ⟨ok_A, ok_T aggOf_congr, trivial⟩ (by simp)) ?_
      intro QQ hQ
      -- 0: indexAddr<23> t11[t13]
      refine stepK rfl (by kernel_rfl) (fun K hK => ?_); go_simp
      apply Exists.intro; apply And.intro; (focus (intro wk hk; go_simp; exact ⟨rfl, rfl⟩)); refine hK _ _ ?_; clear hK K
      -- 1: load<31> *t15
      refine stepK rfl (by kernel_rfl) (fun K hK => ?_); go_simp
      apply Exists.intro; apply And.intro; (focus exact kLoadE rfl rfl aggT31 hcs (show (W4 x).toList.length = 4 from rfl) hg id); refine hK _ _ ?_; clear hK K
      -- 2: alloc<31>
      refine stepS _ rfl (by kernel_rfl) (fun K hK => ?_); go_simp
      refine ⟨?_, ?_⟩
      · intro wk hk hg hu; go_simp; exact left_A rfl rfl
      rintro ⟨v2, lo2, hi2⟩ hlo2 hhi2 ⟨e2, f2⟩
      replace e2 : v2 = .pointer (some ⟨lo2, 0, none⟩) := e2; replace f2 : hi2 = lo2 + 1 := f2; replace hlo2 : _ ≤ lo2 := hlo2; subst e2; subst f2
      refine hK _ _ ?_; clear hK K
      -- 3: store<31> *t5 = t16
      refine stepS _ rfl (by kernel_rfl) (fun K hK => ?_); go_simp
      refine ⟨?_, ?_⟩
      · exact sStoreT rfl rfl rfl rfl rfl rfl rfl (by kernel_rfl) rfl (by kernel_rfl) (by decide) aggOf_congr
      rintro ⟨v3, lo3, hi3⟩ - - (rfl : v3 = undef)
      refine hK _ _ ?_; clear hK K
      refine stepN ?_
      refine hQ _ _ ?_
      intro w1 hT hG hF
      have hb1 := hT.below
      have r5 : Row w1 lo2 31 (W4 x) := (hF 3 _ rfl rfl (by decide)).2
      clear hT hG hF hQ QQ L hcs
      have b1 := HH.out.2.below hb1
      have hl1 := HH.out.1.trans (hb1.mono (by omega))
      have hs1 := b1.lt.2
      have hne : lo2 ≠ B + 1 := by omega
      have H1 := Lib.hid (show _ ∧ _ from ⟨r5, hl1⟩)
      clear r5 hl1 hb1 HH
      go_wp2_with fail
      refine (write_at _ b1 (by show _ + 1 ≤ _; omega) (by omega)).mono ?_
      rintro e w2 ⟨rfl, b2, hb2, ho2⟩
      have r5 := Row.others H1.out.1 ho2 hne (by decide)
      have hl2 := H1.out.2.trans (hb2.mono (by omega))
      obtain ⟨y0, y1, y2, y3, hW⟩ : ∃ y0 y1 y2 y3 : Int, W4 x = #[.int .u64 y0, .int .u64 y1, .int .u64 y2, .int .u64 y3] := ⟨_, _, _, _, rfl⟩
      have kt := fun wx => textU hxM wx
      simp only [hW] at kt r5
      replace kt := Lib.hid kt
      have d0 : w2.cell? ⟨lo2, 0, none⟩ = some (.int .u64 y0) := r5.cell 0
      have d1 : w2.cell? ⟨lo2, 1, none⟩ = some (.int .u64 y1) := r5.cell 1
      have d2 : w2.cell? ⟨lo2, 2, none⟩ = some (.int .u64 y2) := r5.cell 2
      have d3 : w2.cell? ⟨lo2, 3, none⟩ = some (.int .u64 y3) := r5.cell 3
      have H2 := Lib.hid (show _ ∧ _ from ⟨b2, hl2⟩)
      clear b1 b2 hb2 ho2 H1 r5 hl2 hs1 hW
      go_wp2_with fail
      refine (kt.out _).mono ?_
      rintro e w3 ht
      obtain ⟨rfl, hb3⟩ := txt_dec ht
      clear ht kt d0 d1 d2 d3
      have b3 := H2.out.1.below hb3
      have hl3 := H2.out.2.trans (hb3.mono (by have := H2.out.1.lt.2; omega))
      have hs3 := b3.lt.2
      have H3 := Lib.hid hl3
      clear hl3 hb3 H2
      go_wp2_with fail
      refine (write_at _ b3 (by rw [List.length_append]; have := decT_size x; show _ + 1 + _ ≤ _; omega) (by omega)).mono ?_
      rintro e w4 ⟨rfl, b4, hb4, -⟩
      rw [hst.out] at b4
      have H4 := Lib.hid (show _ ∧ _ from ⟨H3.out.trans (hb4.mono (by omega)), b4⟩)
      clear b3 b4 hb4 H3 hs3 hst
      go_wp2_with fail
      go_roundg (gk - 1)
      case measure => omega
      case rel => exact ⟨i + 1, by omega, by go_num, Lib.hid ⟨H4.out.1, H4.out.2⟩⟩
    · obtain rfl : i = m := by omega
      have hlt : ¬ (i : Int) < (i : Int) := by omega
      obtain ⟨hl, hbd⟩ := hinv.out
      rw [List.take_of_length_le (by omega)] at hbd
      have hs := hbd.lt.2
      have H := Lib.hid hl
      clear hl hinv
      go_wp2_with fail
      refine (string_at _ hbd (by omega)).mono ?_
      rintro e w2 ⟨rfl, hb2, -⟩
      have H2 := Lib.hid (H.out.trans (hb2.mono (by omega)))
      clear hb2 hbd H
      go_wp2_with fail
      go_ret
      exact ⟨rfl, by first | exact H2.out | (rw [hB]; exact H2.out)⟩
theorem Ns_two {w : World} (x y : Int) : Ns (w.alloc (.cells #[.int .i64 x, .int .i64 y] 3)) (.slice (some ⟨w.heap.size, 0, none⟩) 2 2) [x, y] := by
  refine ⟨_, _, rfl, fun _ => ⟨w.heap.size, 0, rfl, ?_, fun i hi => ?_⟩⟩
  · simp
  · have hr := Row.new_at (w := w) (cs := #[.int .i64 x, .int .i64 y]) (t := 3) rfl
    rw [Nat.zero_add]
    match i, hi with
    | 0, _ => exact hr.cell 0
    | 1, _ => exact hr.cell 1
theorem text12 : textT 6 [1, 2] = ByteArray.mk #[100, 101, 112, 111, 115, 105, 116, 32, 49, 32, 50] := by
  first | decide +kernel | kernel_rfl
set_option maxRecDepth 100000 in
set_option maxHeartbeats 8000000 in
theorem lives14U (w : World) : Calls Try.prog 34 #[] w fun e w' => e = .returned (.bool true) ∧ Below w.heap.size w w' := by
  have hA : Below w.heap.size w (w.alloc (.cells #[.int .i64 1, .int .i64 2] 3)) := (Below.refl _ _).alloc (Nat.le_refl _) _
  have nw := Lib.hid (new_any 6 _ _ _ (Ns_two (w := w) 1 2) (by decide) (by decide))
  have HA := Lib.hid hA
  clear hA
  go_enter Try.func34, Try.ntmps34
  go_wp2_with fail
  refine nw.out.mono ?_
  rintro e w1 ⟨v, rfl, ho, hb⟩
  clear nw
  have K := Lib.hid (evtext_at 6 v [1, 2] w1 (show Us w1 v [1, 2] from ho.us) (by intro a ha; unfold M; simp at ha; rcases ha with rfl | rfl <;> decide) (by decide))
  rw [text12] at K
  have H1 := Lib.hid (HA.out.trans (hb.mono HA.out.size))
  clear ho hb HA
  go_wp2_with fail
  refine K.out.mono ?_
  rintro e w2 ⟨rfl, hb⟩
  have H2 := Lib.hid (H1.out.trans (hb.mono H1.out.size))
  clear K hb H1
  go_wp2_with fail
  go_ret
  exact ⟨rfl, H2.out⟩
end Go.Proofs.Ytpdenhmkpiafiaa
