/-
  The reference's Name (193, 80) and Text (72).
-/
import Derived.Test.YtpdenhmkpiafiaaEvText
import Derived.Test.YtpdenhmkpiafiaaRefForm2
namespace Go.Proofs.Ytpdenhmkpiafiaa
open Go Go.RowKit K6

def nmR : Array Value := #[.string (ByteArray.mk #[109, 105, 110, 116]), .string (ByteArray.mk #[112, 97, 117, 115, 101]), .string (ByteArray.mk #[115, 116, 114, 97, 116, 101, 103, 121]), .string (ByteArray.mk #[97, 108, 108, 111, 119]), .string (ByteArray.mk #[116, 114, 97, 110, 115, 102, 101, 114]), .string (ByteArray.mk #[100, 101, 112, 111, 115, 105, 116]), .string (ByteArray.mk #[100, 111, 110, 97, 116, 101]), .string (ByteArray.mk #[111, 112, 101, 114, 97, 116, 111, 114]), .string (ByteArray.mk #[100, 101, 108, 101, 103, 97, 116, 101]), .string (ByteArray.mk #[101, 120, 105, 116]), .string (ByteArray.mk #[99, 111, 109, 112, 108, 101, 116, 101]), .string (ByteArray.mk #[100, 101, 108, 97, 121]), .string (ByteArray.mk #[115, 101, 114, 118, 105, 99, 101]), .string (ByteArray.mk #[115, 101, 116]), .string (ByteArray.mk #[106, 111, 105, 110]), .string (ByteArray.mk #[108, 101, 97, 118, 101]), .string (ByteArray.mk #[97, 108, 108, 111, 99, 97, 116, 101]), .string (ByteArray.mk #[109, 97, 116, 117, 114, 101]), .string (ByteArray.mk #[115, 108, 97, 115, 104]), .string (ByteArray.mk #[98, 117, 114, 110]), .string (ByteArray.mk #[115, 117, 98, 109, 105, 116]), .string (ByteArray.mk #[112, 111, 115, 116]), .string (ByteArray.mk #[100, 105, 115, 97, 98, 108, 101]), .string (ByteArray.mk #[99, 108, 97, 105, 109, 101, 114]), .string (ByteArray.mk #[99, 108, 97, 105, 109]), .string (ByteArray.mk #[115, 112, 108, 105, 116])]
theorem nmR_at : ∀ i, i < 26 → nmR[i]? = some (.string (nmB.getD (i + 1) unkB)) := fun i hi => by
  have h : i = 0 ∨ i = 1 ∨ i = 2 ∨ i = 3 ∨ i = 4 ∨ i = 5 ∨ i = 6 ∨ i = 7 ∨ i = 8 ∨ i = 9 ∨ i = 10 ∨ i = 11 ∨ i = 12 ∨ i = 13 ∨ i = 14 ∨ i = 15 ∨ i = 16 ∨ i = 17 ∨ i = 18 ∨ i = 19 ∨ i = 20 ∨ i = 21 ∨ i = 22 ∨ i = 23 ∨ i = 24 ∨ i = 25 := by omega
  rcases h with rfl | rfl | rfl | rfl | rfl | rfl | rfl | rfl | rfl | rfl | rfl | rfl | rfl | rfl | rfl | rfl | rfl | rfl | rfl | rfl | rfl | rfl | rfl | rfl | rfl | rfl <;> rfl
set_option maxRecDepth 100000 in
set_option maxHeartbeats 8000000 in
theorem refnames_at (w : World) : Calls Try.prog 193 #[] w fun e w' => e = .returned (.slice (some ⟨w.heap.size, 0, none⟩) 26 26) ∧ Row w' w.heap.size 9 nmR ∧ Below w.heap.size w w' := by
  go_enter Try.func193, Try.ntmps193
  go_wp2_with fail
  go_ret
  exact ⟨rfl, show Row (w.alloc (.cells nmR 9)) w.heap.size 9 nmR from Row.new_at rfl, by go_grown⟩
set_option maxRecDepth 100000 in
set_option maxHeartbeats 8000000 in
theorem refname_at (k : Int) (w : World) : Calls Try.prog 80 #[.int .i64 k] w fun e w' => e = .returned (.string (nmOf k)) ∧ Below w.heap.size w w' := by
  obtain ⟨g, hg⟩ : ∃ g, w.heap.size = g := ⟨_, rfl⟩
  obtain ⟨S, hS⟩ : ∃ S, nmOf k = S := ⟨_, rfl⟩
  have kn := Lib.hid (refnames_at w)
  rw [hg] at kn ⊢
  rw [hS]
  have hS' := Lib.hid hS
  clear hS hg
  go_enter Try.func80, Try.ntmps80
  go_wp2_with fail
  refine kn.out.mono ?_
  rintro e w1 ⟨rfl, hr, hb⟩
  have H := Lib.hid hb
  clear kn hb
  by_cases h1 : k < 1
  · have e : S = unkB := by rw [← hS'.out]; unfold nmOf; rw [if_neg (by omega)]
    replace e := Lib.hid e
    clear hr hS'
    go_wp2_with fail
    go_ret
    exact ⟨by rw [e.out]; first | rfl | (simp; done), H.out⟩
  · by_cases h2 : 26 < k
    · have e : S = unkB := by rw [← hS'.out]; unfold nmOf; rw [if_neg (by omega)]
      replace e := Lib.hid e
      clear hr hS'
      go_wp2_with fail
      go_ret
      exact ⟨by rw [e.out]; first | rfl | (simp; done), H.out⟩
    · obtain ⟨i, hi⟩ : ∃ i : Nat, k - 1 = (i : Int) := ⟨(k - 1).toNat, by omega⟩
      have e : nmB.getD (i + 1) unkB = S := by rw [← hS'.out]; unfold nmOf; rw [if_pos (by omega), show k.toNat = i + 1 by omega]
      have c0 : w1.cell? ⟨g, i, none⟩ = some (.string S) := by rw [← e, ← nmR_at i (by omega)]; exact hr.cell i
      have hw : IntKind.i64.wrap (i : Int) = (i : Int) := by rw [IntKind.wrap_i64]; omega
      have hw1 : IntKind.i64.wrap (k - 1) = (i : Int) := by rw [IntKind.wrap_i64]; omega
      have hlt : (i : Int) < 26 := by omega
      have hge : (0 : Int) ≤ (i : Int) := by omega
      clear e hr hS'
      go_wp2_with fail
      go_ret
      exact ⟨by first | rfl | (simp; done), H.out⟩
theorem textT_nil (k : Int) : textT k [] = nmOf k := by
  unfold textT
  rw [txL_nil, Array.toArray_toList]
theorem textT_size (k : Int) (l : List Nat) : (textT k l).size ≤ 20 + 79 * l.length := by
  have h : (textT k l).size = (txL k l).length := by unfold textT; simp [ByteArray.size]
  rw [h]
  exact txL_len k l
theorem textT_step (k : Int) (l : List Nat) (x i : Nat) (hx : l[i]? = some x) : textT k (l.take i) ++ (ByteArray.mk #[32] ++ decT x) = textT k (l.take (i + 1)) := by
  unfold textT
  rw [List.take_add_one, hx, Option.toList_some, txL_app]
  apply ByteArray.ext
  rw [ByteArray.data_append, ByteArray.data_append]
  apply Array.ext'
  simp
set_option maxRecDepth 100000 in
set_option maxHeartbeats 16000000 in
theorem reftext_at (k : Int) (v : Value) (l : List Nat) (w : World) (h : Us w v l) (hM : ∀ a ∈ l, a < M) (hL : l.length ≤ 100000) :
    Calls Try.prog 72 #[.agg #[.int .i64 k, v]] w fun e w' => e = .returned (.string (textT k l)) ∧ Below w.heap.size w w' := by
  have HC := Lib.hid (show _ ∧ _ from ⟨h, hM⟩)
  obtain ⟨q, c, rfl, -, -⟩ := h
  obtain ⟨m, hm⟩ : ∃ m, l.length = m := ⟨_, rfl⟩
  obtain ⟨B, hB⟩ : ∃ B, w.heap.size = B := ⟨_, rfl⟩
  rw [hm] at HC ⊢
  have hmi : (m : Int) ≤ 100000 := by omega
  obtain ⟨S0, hS0⟩ : ∃ S, textT k [] = S := ⟨_, rfl⟩
  obtain ⟨SE, hSE⟩ : ∃ S, textT k l = S := ⟨_, rfl⟩
  have kn := fun wx => refname_at k wx
  rw [← textT_nil, hS0] at kn
  replace kn := Lib.hid kn
  have hE := Lib.hid (show _ ∧ _ from ⟨hS0, hSE⟩)
  rw [hSE]
  clear hM hS0 hSE
  go_enter Try.func72, Try.ntmps72
  go_upto_region 1 with (fail)
  refine wp_abs (Mem w [(w.heap.size, 26, #[.int .i64 k, .slice q m c])]) ⟨by go_grown, ?_, trivial⟩ ?_
  · repeat (first | (refine Row.new_at ?_; simp; done) | refine Row.alloc ?_ _)
  intro w0 hM
  obtain ⟨hl, r4, -⟩ := hM
  simp only [hB] at r4 hl ⊢
  have c0 := r4.cell 0
  go_wp2_with fail
  refine (kn.out _).mono ?_
  rintro e w1 ⟨rfl, hb1⟩
  replace r4 := r4.below hb1 r4.lt
  have hl1 := Lib.hid (hl.trans (hb1.mono (by have := hl.size; omega)))
  have c1 := r4.cell 1
  clear c0 hl kn hb1 r4
  go_wp2_with fail
  go_loopg [3, 12] m (fun gg s3 s12 wr => ∃ (i : Nat) (S : ByteArray), i + gg = m ∧ s12 = .int .i64 (i : Int) ∧ s3 = .string S ∧ Hid (textT k (l.take i) = S) ∧ Hid (Below B w wr))
  case atStart => exact ⟨0, S0, by omega, rfl, rfl, Lib.hid (by rw [List.take_zero]; exact hE.out.1), hl1⟩
  case round =>
    clear c1 hl1
    obtain ⟨i, S, him, rfl, rfl, hS, hinv⟩ := hrel
    by_cases hi : i < m
    · obtain ⟨x, hx⟩ : ∃ x, l[i]? = some x := ⟨_, List.getElem?_eq_getElem (by omega)⟩
      have hl' : Below w.heap.size w wr := by rw [hB]; exact hinv.out
      obtain ⟨g, o, c', hu, hg, hcs⟩ := (HC.out.1.below hl').elem hx
      simp only [Value.slice.injEq] at hu
      obtain ⟨rfl, -, -⟩ := hu
      have hxM : x < M := HC.out.2 x (List.mem_of_getElem? hx)
      have hst := textT_step k l x i hx
      have hz := textT_size k (l.take i)
      rw [hS.out] at hst hz
      rw [List.length_take] at hz
      have hz2 := decT_size x
      have kt : ∀ wx, Calls Try.prog 101 #[.agg (W4 x)] wx fun e w' => e = .returned (.string (decT x)) ∧ Below wx.heap.size wx w' := fun wx => (refText_any x hxM wx).mono fun e w' ht => txt_dec ht
      obtain ⟨D, hD⟩ : ∃ D, decT x = D := ⟨_, rfl⟩
      rw [hD] at kt hst hz2
      replace kt := Lib.hid kt
      obtain ⟨T, hT0⟩ : ∃ T, ByteArray.mk #[32] ++ D = T := ⟨_, rfl⟩
      have hTs : T.size = 1 + D.size := by rw [← hT0, ByteArray.size_append]; rfl
      rw [hT0] at hst
      obtain ⟨S', hS'⟩ : ∃ S', S ++ T = S' := ⟨_, rfl⟩
      rw [hS'] at hst
      obtain ⟨nd, hnd⟩ : ∃ n, D.size = n := ⟨_, rfl⟩
      obtain ⟨nt, hnt⟩ : ∃ n, T.size = n := ⟨_, rfl⟩
      obtain ⟨ns, hns⟩ : ∃ n, S.size = n := ⟨_, rfl⟩
      rw [hnd] at hz2 hTs
      rw [hnt] at hTs
      rw [hns] at hz
      have h1s : (ByteArray.mk #[32]).size = 1 := rfl
      have HS := Lib.hid hst
      clear hl' hx hst hxM hD hS
      have hlt : (i : Int) < (m : Int) := by omega
      go_upto_region 4 with (fail)
      let L : List Sp := [sA 2 31 [3] #[.int .u64 0, .int .u64 0, .int .u64 0, .int .u64 0], sT 3 2 31 [1] (fun g => aggOf g 1)]
      refine wp_region_six0 (shs L) (look6 L) (None_) (by kernel_rfl) (by kernel_rfl) (mk_St L [] [] (by kernel_rfl) (by kernel_rfl) ⟨ok_A, ok_T aggOf_congr, trivial⟩ (by simp)) ?_
      intro QQ hQ
      -- 0: indexAddr<23> t10[t12]
      refine stepK rfl (by kernel_rfl) (fun K hK => ?_); go_simp
      apply Exists.intro; apply And.intro; (focus (intro wk hk; go_simp; exact ⟨rfl, rfl⟩)); refine hK _ _ ?_; clear hK K
      -- 1: load<31> *t14
      refine stepK rfl (by kernel_rfl) (fun K hK => ?_); go_simp
      apply Exists.intro; apply And.intro; (focus exact kLoadA rfl rfl aggT31 hcs rfl hg id); refine hK _ _ ?_; clear hK K
      -- 2: alloc<31>
      refine stepS _ rfl (by kernel_rfl) (fun K hK => ?_); go_simp
      refine ⟨?_, ?_⟩
      · intro wk hk hg hu; go_simp; exact left_A rfl rfl
      rintro ⟨v2, lo2, hi2⟩ hlo2 hhi2 ⟨e2, f2⟩
      replace e2 : v2 = .pointer (some ⟨lo2, 0, none⟩) := e2; replace f2 : hi2 = lo2 + 1 := f2; replace hlo2 : _ ≤ lo2 := hlo2; subst e2; subst f2
      refine hK _ _ ?_; clear hK K
      -- 3: store<31> *t5 = t15
      refine stepS _ rfl (by kernel_rfl) (fun K hK => ?_); go_simp
      refine ⟨?_, ?_⟩
      · exact sStoreT rfl rfl rfl rfl rfl rfl rfl (by kernel_rfl) rfl (by kernel_rfl) (by decide) aggOf_congr
      rintro ⟨v3, lo3, hi3⟩ - - (rfl : v3 = undef)
      refine hK _ _ ?_; clear hK K
      refine stepN ?_
      refine hQ _ _ ?_
      intro w1 hT hG hF
      have hb1 := hT.below
      have r5 : Row w1 lo2 31 (W4 x) := (hF 3 _ rfl rfl (by decide)).2
      clear hT hG hF hQ QQ L hcs
      obtain ⟨y0, y1, y2, y3, hW⟩ : ∃ y0 y1 y2 y3 : Int, W4 x = #[.int .u64 y0, .int .u64 y1, .int .u64 y2, .int .u64 y3] := ⟨_, _, _, _, rfl⟩
      replace kt := kt.out
      simp only [hW] at kt r5
      replace kt := Lib.hid kt
      have d0 : w1.cell? ⟨lo2, 0, none⟩ = some (.int .u64 y0) := r5.cell 0
      have d1 : w1.cell? ⟨lo2, 1, none⟩ = some (.int .u64 y1) := r5.cell 1
      have d2 : w1.cell? ⟨lo2, 2, none⟩ = some (.int .u64 y2) := r5.cell 2
      have d3 : w1.cell? ⟨lo2, 3, none⟩ = some (.int .u64 y3) := r5.cell 3
      have hl1 := Lib.hid (hinv.out.trans (hb1.mono (by have := hinv.out.size; omega)))
      have hs1 : B ≤ w1.heap.size := by have := hinv.out.size; have := hb1.size; omega
      clear r5 hb1 hinv hW
      go_wp2_with fail
      refine (kt.out _).mono ?_
      rintro e w2 ⟨rfl, hb2⟩
      have hl2 := Lib.hid (hl1.out.trans (hb2.mono hs1))
      clear hb2 hl1 kt d0 d1 d2 d3
      go_wp2_with fail
      go_roundg (gk - 1)
      case measure => omega
      case rel => exact ⟨i + 1, S', by omega, by go_num, by first | rfl | (rw [hT0, hS']), Lib.hid HS.out.symm, hl2⟩
    · obtain rfl : i = m := by omega
      have hlt : ¬ (i : Int) < (i : Int) := by omega
      have hSS : S = SE := by
        rw [← hS.out, ← hE.out.2, List.take_of_length_le (by omega)]
      subst hSS
      clear hS
      go_wp2_with fail
      go_ret
      exact ⟨rfl, hinv.out⟩
end Go.Proofs.Ytpdenhmkpiafiaa
