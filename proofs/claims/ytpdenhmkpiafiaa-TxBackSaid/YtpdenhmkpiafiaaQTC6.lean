/-
  What the statement rests on, part 7: RefSrc2 EvPlain EvOwn TxOwn TxFmt TxSame.
-/
import Derived.Deep.OwnRows
import Derived.Test.YtpdenhmkpiafiaaQTC1
import Derived.Test.YtpdenhmkpiafiaaQTC4
import Derived.Test.YtpdenhmkpiafiaaQTC5
namespace Go.Proofs.Ytpdenhmkpiafiaa
open Go Go.RowKit K6
theorem SR.e1 {w : World} {g : Nat} {q : Option Nat} {e : Int} {xs : List Int} (h : SR w g q e xs) : w.cell? ⟨g, 1, none⟩ = some (.int .i64 e) := by
  obtain ⟨-, -, -, -, v, hs, -⟩ := h
  exact hs.cell 1
theorem SR.b0 {w : World} {g : Nat} {q : Option Nat} {e : Int} {xs : List Int} (h : SR w g q e xs) : ∃ a c, w.cell? ⟨g, 0, none⟩ = some (.slice a xs.length c) := by
  obtain ⟨-, -, -, -, v, hs, hv⟩ := h
  have c0 : w.cell? ⟨g, 0, none⟩ = some v := hs.cell 0
  rcases hv with ⟨rfl, a, rfl, -⟩ | ⟨b, o, c, -, rfl, -⟩
  · exact ⟨_, _, c0⟩
  · exact ⟨_, _, c0⟩
theorem SR.hd {w : World} {g : Nat} {q : Option Nat} {e d : Int} {ds : List Int} (h : SR w g q e (d :: ds)) : ∃ b o c, w.cell? ⟨g, 0, none⟩ = some (.slice (some ⟨b, o, none⟩) (ds.length + 1) c) ∧ w.cell? ⟨b, o, none⟩ = some (.int .u8 d) := by
  obtain ⟨-, -, -, -, v, hs, hv⟩ := h
  have c0 : w.cell? ⟨g, 0, none⟩ = some v := hs.cell 0
  rcases hv with ⟨hv, -⟩ | ⟨b, o, c, -, rfl, -, -, h5⟩
  · cases hv
  · exact ⟨b, o, c, c0, h5 0 d rfl⟩
def hrow (i : Nat) (O : List Int) : Array Value := (bv (O.take i ++ List.replicate (32 - i) 0)).toArray
theorem hrow_size {i : Nat} {O : List Int} (hi : i ≤ O.length) (h32 : O.length ≤ 32) : (hrow i O).size = 32 := by
  unfold hrow
  rw [List.size_toArray, bv_len, List.length_append, List.length_take, List.length_replicate]
  omega
theorem hrow_0 (O : List Int) : zr32 = hrow 0 O := by
  unfold hrow
  rw [List.take_zero, List.nil_append, zr32_bv]
theorem hrow_set {i : Nat} {O : List Int} {y : Int} (hi : i < 32) (hy : O[i]? = some y) : (hrow i O).setIfInBounds i (.int .u8 y) = hrow (i + 1) O := by
  obtain ⟨hl, rfl⟩ := List.getElem?_eq_some_iff.1 hy
  have hlen : (O.take i).length = i := by rw [List.length_take]; omega
  unfold hrow bv
  rw [List.setIfInBounds_toArray, ← List.map_set, List.set_append_right _ _ (by omega), hlen, Nat.sub_self, show 32 - i = (32 - (i + 1)) + 1 by omega, List.replicate_succ, List.set_cons_zero, List.take_succ_eq_append_getElem hl, List.append_assoc, List.singleton_append]
theorem hrow_end {E : Int} {O : List Int} (h : (O.length = 32 ∧ E = 0) ∨ (O = [] ∧ E ≠ 0)) : hrow O.length O = (bv (if E = 0 then O else List.replicate 32 0)).toArray := by
  rcases h with ⟨h, rfl⟩ | ⟨rfl, h⟩
  · unfold hrow
    rw [if_pos rfl, List.take_length, h, Nat.sub_self, List.replicate_zero, List.append_nil]
  · unfold hrow
    rw [if_neg h]
    rfl
set_option maxRecDepth 100000 in
set_option maxHeartbeats 8000000 in
theorem rhash_at {w : World} {g : Nat} {q : Option Nat} {e : Int} {xs : List Int} (h : SR w g q e xs) (hq : ∀ b, q = some b → b < w.heap.size) :
    Calls Try.prog 180 #[.pointer (some ⟨g, 0, none⟩)] w (GotR w g q (.agg (bv (gH (e, xs)).1).toArray) (gH (e, xs)).2) := by
  have hgl := h.lt
  have hOc : ((tkO 32 e xs).length = 32 ∧ tkE 32 e xs = 0) ∨ (tkO 32 e xs = [] ∧ tkE 32 e xs ≠ 0) := by
    unfold tkO tkE
    split
    · split
      · left; rw [List.length_take]; omega
      · right; decide
    · rename_i h1; exact .inr ⟨rfl, h1⟩
  have tk0 := fun wk (hk : SR wk g q e xs) => rtake_at 32 hk
  unfold RTook at tk0
  unfold gH gT
  simp only
  obtain ⟨E, hE⟩ : ∃ E : Int, tkE 32 e xs = E := ⟨_, rfl⟩
  obtain ⟨O, hO⟩ : ∃ O : List Int, tkO 32 e xs = O := ⟨_, rfl⟩
  obtain ⟨R, hR⟩ : ∃ R : List Int, tkR 32 e xs = R := ⟨_, rfl⟩
  rw [hE, hO] at hOc
  simp only [hE, hO, hR] at tk0 ⊢
  rw [← hrow_end hOc]
  replace tk0 := Lib.hid tk0
  obtain ⟨m, hm⟩ : ∃ m, O.length = m := ⟨_, rfl⟩
  have hm32 : m ≤ 32 := by
    rcases hOc with ⟨h, -⟩ | ⟨h, -⟩
    · omega
    · rw [h, List.length_nil] at hm; omega
  have h0 := Lib.hid h
  clear hE hO hR hOc h
  go_enter Try.func180, Try.ntmps180
  go_upto_region 2 with (fail)
  refine wp_abs (Mem w [(w.heap.size, 35, zr32), (w.heap.size + 1, 35, zr32)]) ⟨by go_grown, ?_, ?_, trivial⟩ ?_
  · repeat (first | (refine Row.new_at ?_; simp; done) | refine Row.alloc ?_ _)
  · repeat (first | (refine Row.new_at ?_; simp; done) | refine Row.alloc ?_ _)
  intro w0 hM
  obtain ⟨hl, r0, rT, -⟩ := hM
  have tk := Lib.hid (tk0.out w0 (h0.out.below hl))
  have HL := Lib.hid (show _ ∧ _ ∧ _ from ⟨hl, r0, rT⟩)
  clear hl r0 rT tk0 h0
  go_wp2_with fail
  refine tk.out.mono ?_
  rintro r w1 ⟨v, rfl, ho, hs, ht⟩
  obtain ⟨hl, r0, rT⟩ := HL.out
  have hsz := r0.lt
  have hsz2 := rT.lt
  replace r0 := K6.Row.tr r0 ht (by omega)
  replace rT := K6.Row.tr rT ht (by omega)
  replace ht : Tr (fun b => b = g) w w1 := (Tr.of hl : Tr (fun b => b = g) w w0).trans ht
  have hbv : ∀ b, v.ownBlock = some b → b ≠ w.heap.size + 1 := fun b hb e => by have := (ho.lt b hb).1; omega
  have hb9 := ho.bs
  obtain ⟨a, c, rfl, hno, hcell⟩ := hb9
  rw [hm]
  have hall := Lib.hid (show ∀ i wr, i < m → Tr (fun b => b = w.heap.size + 1) w1 wr → ∃ b y, a = some ⟨b, 0, none⟩ ∧ O[i]? = some y ∧ wr.cell? ⟨b, i, none⟩ = some (.int .u8 y) from fun i wr hi hT => by
    have hbs := ho.keep hT hbv
    rcases hbs.2 with ⟨-, h0⟩ | ⟨b, cap, cur, he, -⟩
    · omega
    · have hO : O[i]? = some O[i] := List.getElem?_eq_getElem (by omega)
      injection he with he
      refine ⟨b, O[i], he, hO, ?_⟩
      obtain ⟨a2, c2, e2, -, h1⟩ := hbs.bs
      injection e2 with e2
      have := h1 ⟨b, 0, none⟩ (e2.symm.trans he) i (.int .u8 O[i]) (by unfold bv; rw [List.getElem?_map, hO]; rfl)
      rw [add_at, Nat.zero_add] at this
      exact this)
  have H0 := Lib.hid (show _ ∧ _ ∧ _ ∧ _ ∧ _ from ⟨hs, ht, r0, hgl, hq⟩)
  have rT0 : Row w1 (w.heap.size + 1) 35 (hrow 0 O) := rT.congr (hrow_0 O)
  clear tk HL hl ho hs ht r0 rT hbv hno hcell hsz hsz2 hgl hq
  go_wp2_with fail
  go_loopg [4, 5, 9] m (fun gg s4 s5 s9 wr => ∃ i : Nat, i + gg = m ∧ s9 = .int .i64 (i : Int) ∧ Row wr (w.heap.size + 1) 35 (hrow i O) ∧ Tr (fun b => b = w.heap.size + 1) w1 wr)
  case atStart => exact ⟨0, by omega, rfl, rT0, Tr.refl _ _⟩
  case round =>
    obtain ⟨i, him, rfl, rT, hT⟩ := hrel
    by_cases hi : i < m
    · obtain ⟨b, y, rfl, hy, c1⟩ := hall.out i wr hi hT
      have hlt : (i : Int) < (m : Int) := by omega
      have h32 : (i : Int) < 32 := by omega
      have f0 := rT.frozen i
      obtain ⟨u9, c9⟩ : ∃ u, wr.cell? ⟨w.heap.size + 1, i, none⟩ = some u := ⟨_, (rT.cell i).trans (Array.getElem?_eq_getElem (by rw [hrow_size (by omega) (by omega)]; omega))⟩
      have hT2 := hT.trans (tr_cell (X := fun b => b = w.heap.size + 1) (w := wr) (p := ⟨w.heap.size + 1, i, none⟩) (u := .int .u8 y) rfl)
      have rT2 := (rT.set i (.int .u8 y)).congr (hrow_set (by omega) hy)
      have H := Lib.hid (show _ ∧ _ from ⟨hT2, rT2⟩)
      clear hT2 rT2 rT hT hy
      go_wp2_with fail
      go_roundg (gk - 1)
      case measure => omega
      case rel => exact ⟨i + 1, by omega, by go_num, H.out.2, H.out.1⟩
    · obtain rfl : i = m := by omega
      have hlt : ¬ (i : Int) < (i : Int) := by omega
      obtain ⟨hs, ht, r0, hgl, hq⟩ := H0.out
      have r0' := K6.Row.tr r0 hT (by omega)
      have hs' := hs.keep hT (by omega) (fun b hb e => by have := hq b hb; omega)
      have ht' := ht.trans_new hT (fun b hb hlt => by have hb' : b = w.heap.size + 1 := hb; omega)
      have rL := rT
      have hsl := hrow_size (i := i) (O := O) (by omega) (by omega)
      have hone : (hrow i O).all (·.oneCell') = true := bv_one _
      have hinf : (Try.prog.info? 35).map (·.size) = some (hrow i O).size := by rw [hsl]; kernel_rfl
      clear hall H0 hT hs ht r0 rT
      have r0 := r0'
      have hs := hs'
      have ht := ht'
      clear r0' hs' ht'
      go_upto_region 7 with (fail)
      go_upto_region 7 with (fail)
      let L : List Sp := [sO 1 (w.heap.size) 35 [0] (fun g => aggOf g 0)]
      refine wp_region_six0 (shs L) (look6 L) (fun c => c = w.heap.size) (by kernel_rfl) (by kernel_rfl) (mk_St L [1] [1] (by kernel_rfl) (by kernel_rfl) ⟨ok_O aggOf_congr r0.lt (rfl), trivial⟩ (by simp)) ?_
      intro QQ hQ
      refine stepK rfl (by kernel_rfl) (fun K hK => ?_); go_simp
      apply Exists.intro; apply And.intro; (focus exact kLoad rfl rfl aggR35 rL hsl id); refine hK _ _ ?_; clear hK K
      refine stepS _ rfl (by kernel_rfl) (fun K hK => ?_); go_simp
      refine ⟨?_, ?_⟩
      · exact sStoreO rfl rfl rfl rfl rfl rfl r0 id hinf hsl.symm hone (by decide) aggOf_congr
      rintro ⟨v1, lo1, hi1⟩ - - (rfl : v1 = undef)
      refine hK _ _ ?_; clear hK K
      refine stepN ?_
      refine hQ _ _ ?_
      intro w9 hT hG hF
      have x0 : Row w9 (w.heap.size) 35 (hrow i O) := hF 1 _ rfl rfl (by decide)
      have hs9 := hs.keep hT (fun hc => by have hc' : g = w.heap.size := hc; omega) (fun b hb hc => by have hc' : b = w.heap.size := hc; have := hq b hb; omega)
      have ht9 := ht.trans_new hT (fun b hb hlt => by have hb' : b = w.heap.size := hb; omega)
      clear hT hG hF hQ QQ L
      go_wp2_with fail
      refine bodyPost_ret (results_c rfl aggR35 rfl x0 hsl) rfl ?_
      exact ⟨rfl, hs9, ht9⟩
theorem made_bv (n : Nat) : madeCells #[Value.int .u8 0] n = (bv (List.replicate n 0)).toArray := by
  apply Array.ext
  · simp [madeCells, bv]
  · intro i h1 h2
    simp [madeCells, bv, Nat.mod_one]
theorem make8 (n : Nat) (hn : n < 10000000000) (w : World) : (Instr.makeSlice 33 (.int .i64 (n : Int)) (.int .i64 (n : Int))).run Try.prog w = .ok (.slice (some ⟨w.heap.size, 0, none⟩) n n) (w.alloc (.cells (bv (List.replicate n 0)).toArray 5)) := by
  rw [← made_bv]
  exact run_make_row' 33 5 (.int .u8 0) 1 Try.underlying33 (by kernel_rfl) rfl .i64 .i64 n (by omega) (by omega) w
theorem made_own (n : Nat) (hn : n < 10000000000) (w : World) : Ob (w.alloc (.cells (bv (List.replicate n 0)).toArray 5)) w.heap.size (.slice (some ⟨w.heap.size, 0, none⟩) n n) (List.replicate n 0) := by
  unfold Ob
  rw [List.length_replicate]
  refine ⟨by rw [bv_len, List.length_replicate, Nat.mul_one], .inr ⟨w.heap.size, n, _, rfl, Nat.le_refl _, Row.new_at rfl, Nat.le_refl _, by simp only [maxLen]; omega, by rw [List.size_toArray, bv_len, List.length_replicate, Nat.mul_one], ?_⟩⟩
  rw [List.take_of_length_le (by rw [bv_len, List.length_replicate, Nat.mul_one]; exact Nat.le_refl _)]
theorem rfrom32 {L : List Int} (hL : L.length = 32) (hb : By L) {w : World} {base : Nat} {v : Value} (h : Ob w base v L) : Calls Try.prog 96 #[v] w (Ret w (.tuple #[.agg (W4 (beV L)), .bool true])) := by
  have hf : ∀ i, (L.getD i 0).toNat < 256 := fun i => by
    rcases Nat.lt_or_ge i L.length with h | h
    · rw [List.getD_eq_getElem?_getD, List.getElem?_eq_getElem h]
      have := hb _ (List.getElem_mem h)
      show (L[i]).toNat < 256
      omega
    · rw [List.getD_eq_getElem?_getD, List.getElem?_eq_none h]; decide
  have hbs := h.bs
  have hlt := h.lt
  rcases h.2 with ⟨-, h0⟩ | ⟨g, cap, cur, rfl, -⟩
  · omega
  obtain ⟨a, c, e, -, h1⟩ := hbs
  injection e with e1 e2 e3
  subst e1
  rw [hL]
  refine (refFrom_any (some ⟨g, 0, none⟩) 32 cap (fun j => (L.getD j 0).toNat) w hf (fun _ => ⟨g, 0, rfl, (hlt g rfl).2, fun i hi => ?_⟩)).mono fun _ _ h => ?_
  · have hi2 : i < L.length := by omega
    have hx := hb _ (List.getElem_mem hi2)
    have := h1 _ rfl i (.int .u8 L[i]) (by unfold bv; rw [List.getElem?_map, List.getElem?_eq_getElem hi2]; rfl)
    rw [add_at] at this
    rw [this, List.getD_eq_getElem?_getD, List.getElem?_eq_getElem hi2]
    show some (Value.int .u8 L[i]) = some (Value.int .u8 ((L[i].toNat : Nat) : Int))
    rw [Int.toNat_of_nonneg hx.1]
  · have h2 := pair_ret h
    rw [if_pos rfl, decide_eq_true rfl, fromN_beV hL 32 (Nat.le_refl _), Nat.sub_self, Nat.pow_zero, Nat.mul_one, List.take_of_length_le (by omega)] at h2
    exact h2
set_option maxRecDepth 100000 in
set_option maxHeartbeats 8000000 in
theorem ramt_f {w : World} {g : Nat} {q : Option Nat} {e : Int} {xs : List Int} (h : SR w g q e xs) (hq : ∀ b, q = some b → b < w.heap.size) (h0 : byO e xs = 0) (h1 : tkE 1 e xs ≠ 0) (h2 : tkR 1 e xs = []) :
    Calls Try.prog 179 #[.pointer (some ⟨g, 0, none⟩)] w (GotR w g q (.agg #[.int .u64 0, .int .u64 0, .int .u64 0, .int .u64 0]) (tkE 1 e xs, [])) := by
  have hgl := h.lt
  have hA : Below w.heap.size w (w.alloc (.cells #[Value.int .u64 0, .int .u64 0, .int .u64 0, .int .u64 0] 31)) := (Below.refl _ _).alloc (Nat.le_refl _) _
  have hsz : (w.alloc (.cells #[Value.int .u64 0, .int .u64 0, .int .u64 0, .int .u64 0] 31)).heap.size = w.heap.size + 1 := by simp
  have r0 : Row (w.alloc (.cells #[Value.int .u64 0, .int .u64 0, .int .u64 0, .int .u64 0] 31)) w.heap.size 31 #[.int .u64 0, .int .u64 0, .int .u64 0, .int .u64 0] := Row.new_at rfl
  have hby := rbyte_at (h.below hA)
  rw [h0, h2] at hby
  obtain ⟨k, hk⟩ : ∃ k, tkE 1 e xs = k := ⟨_, rfl⟩
  rw [hk] at h1 hby ⊢
  replace hby := Lib.hid hby
  have R0 := Lib.hid (show _ ∧ _ ∧ _ from ⟨hA, hsz, r0⟩)
  have hkq : (k != 0) = true := by simpa using h1
  clear h hA hsz r0 h0 h2 hk h1
  go_enter Try.func179, Try.ntmps179
  go_wp2_with fail
  refine hby.out.mono ?_
  rintro r w1 ⟨rfl, hs, ht⟩
  have c1 := hs.e1
  have r0 := K6.Row.tr R0.out.2.2 ht (by omega)
  replace ht : Tr (fun b => b = g) w w1 := (Tr.of R0.out.1 : Tr (fun b => b = g) w _).trans ht
  clear hby R0
  go_upto_region 3 with (fail)
  let L : List Sp := [sO 1 (w.heap.size) 31 [0] (fun g => aggOf g 0)]
  refine wp_region_six0 (shs L) (look6 L) (fun c => c = w.heap.size) (by kernel_rfl) (by kernel_rfl) (mk_St L [1] [1] (by kernel_rfl) (by kernel_rfl) ⟨ok_O aggOf_congr r0.lt (rfl), trivial⟩ (by simp)) ?_
  intro QQ hQ
  refine stepK rfl (by kernel_rfl) (fun K hK => ?_); go_simp
  apply Exists.intro; apply And.intro; (focus (intro wk hk; go_simp; exact ⟨rfl, rfl⟩)); refine hK _ _ ?_; clear hK K
  refine stepS _ rfl (by kernel_rfl) (fun K hK => ?_); go_simp
  refine ⟨?_, ?_⟩
  · exact sStoreO rfl rfl rfl rfl rfl rfl r0 id (by kernel_rfl) rfl (by kernel_rfl) (by decide) aggOf_congr
  rintro ⟨v1, lo1, hi1⟩ - - (rfl : v1 = undef)
  refine hK _ _ ?_; clear hK K
  refine stepN ?_
  refine hQ _ _ ?_
  intro w9 hT hG hF
  clear c1 hkq
  have x0 : Row w9 (w.heap.size) 31 (#[.int .u64 0, .int .u64 0, .int .u64 0, .int .u64 0]) := hF 1 _ rfl rfl (by decide)
  have hs9 := hs.keep hT (fun hc => by have hc' : g = w.heap.size := hc; omega) (fun b hb hc => by have hc' : b = w.heap.size := hc; have := hq b hb; omega)
  have ht9 := ht.trans_new hT (fun b hb hlt => by have hb' : b = w.heap.size := hb; omega)
  clear hT hG hF hQ QQ L
  go_wp2_with fail
  refine bodyPost_ret (results_c rfl aggT31 rfl x0 rfl) rfl ?_
  exact ⟨rfl, hs9, ht9⟩
set_option maxRecDepth 100000 in
set_option maxHeartbeats 8000000 in
theorem ramt_big {w : World} {g n : Nat} {q : Option Nat} {cs : List Int} (h : SR w g q 0 ((n : Int) :: cs)) (hq : ∀ b, q = some b → b < w.heap.size) (hn : 32 < n) (hn2 : n < 256) :
    Calls Try.prog 179 #[.pointer (some ⟨g, 0, none⟩)] w (GotR w g q (.agg #[.int .u64 0, .int .u64 0, .int .u64 0, .int .u64 0]) (4, [])) := by
  have hgl := h.lt
  have hA : Below w.heap.size w (w.alloc (.cells #[Value.int .u64 0, .int .u64 0, .int .u64 0, .int .u64 0] 31)) := (Below.refl _ _).alloc (Nat.le_refl _) _
  have hsz : (w.alloc (.cells #[Value.int .u64 0, .int .u64 0, .int .u64 0, .int .u64 0] 31)).heap.size = w.heap.size + 1 := by simp
  have r0 : Row (w.alloc (.cells #[Value.int .u64 0, .int .u64 0, .int .u64 0, .int .u64 0] 31)) w.heap.size 31 #[.int .u64 0, .int .u64 0, .int .u64 0, .int .u64 0] := Row.new_at rfl
  have hn3 : (32 : Int) < (n : Int) := by omega
  have hby := rbyte_at (h.below hA)
  rw [show byO 0 ((n : Int) :: cs) = (n : Int) from by unfold byO tkO; simp, show tkE 1 0 ((n : Int) :: cs) = 0 from by unfold tkE; simp, show tkR 1 0 ((n : Int) :: cs) = cs from by unfold tkR; simp] at hby
  replace hby := Lib.hid hby
  have R0 := Lib.hid (show _ ∧ _ ∧ _ from ⟨hA, hsz, r0⟩)
  have wn : IntKind.i64.wrap (n : Int) = (n : Int) := by rw [IntKind.wrap_i64]; omega
  clear h hA hsz r0
  go_enter Try.func179, Try.ntmps179
  go_wp2_with fail
  refine hby.out.mono ?_
  rintro r w1 ⟨rfl, hs, ht⟩
  have c1 := hs.e1
  have r1 := K6.Row.tr R0.out.2.2 ht (by omega)
  replace ht : Tr (fun b => b = g) w w1 := (Tr.of R0.out.1 : Tr (fun b => b = g) w _).trans ht
  clear hby R0
  have wr := Lib.hid (wrong_at 4 hs)
  have HS := Lib.hid (show _ ∧ _ from ⟨ht, r1⟩)
  clear hs ht r1
  go_wp2_with fail
  refine wr.out.mono ?_
  rintro r w3 ⟨⟨u, rfl⟩, hs, ht3⟩
  have r0 := K6.Row.tr HS.out.2 ht3 (by omega)
  have ht : Tr (fun b => b = g) w w3 := HS.out.1.trans ht3
  clear HS wr ht3 c1
  go_upto_region 6 with (fail)
  let L : List Sp := [sO 1 (w.heap.size) 31 [0] (fun g => aggOf g 0)]
  refine wp_region_six0 (shs L) (look6 L) (fun c => c = w.heap.size) (by kernel_rfl) (by kernel_rfl) (mk_St L [1] [1] (by kernel_rfl) (by kernel_rfl) ⟨ok_O aggOf_congr r0.lt (rfl), trivial⟩ (by simp)) ?_
  intro QQ hQ
  refine stepK rfl (by kernel_rfl) (fun K hK => ?_); go_simp
  apply Exists.intro; apply And.intro; (focus (intro wk hk; go_simp; exact ⟨rfl, rfl⟩)); refine hK _ _ ?_; clear hK K
  refine stepS _ rfl (by kernel_rfl) (fun K hK => ?_); go_simp
  refine ⟨?_, ?_⟩
  · exact sStoreO rfl rfl rfl rfl rfl rfl r0 id (by kernel_rfl) rfl (by kernel_rfl) (by decide) aggOf_congr
  rintro ⟨v1, lo1, hi1⟩ - - (rfl : v1 = undef)
  refine hK _ _ ?_; clear hK K
  refine stepN ?_
  refine hQ _ _ ?_
  intro w9 hT hG hF
  have x0 : Row w9 (w.heap.size) 31 (#[.int .u64 0, .int .u64 0, .int .u64 0, .int .u64 0]) := hF 1 _ rfl rfl (by decide)
  have hs9 := hs.keep hT (fun hc => by have hc' : g = w.heap.size := hc; omega) (fun b hb hc => by have hc' : b = w.heap.size := hc; have := hq b hb; omega)
  have ht9 := ht.trans_new hT (fun b hb hlt => by have hb' : b = w.heap.size := hb; omega)
  clear hT hG hF hQ QQ L
  go_wp2_with fail
  refine bodyPost_ret (results_c rfl aggT31 rfl x0 rfl) rfl ?_
  exact ⟨rfl, hs9, ht9⟩
set_option maxRecDepth 100000 in
set_option maxHeartbeats 8000000 in
theorem ramt_lead {w : World} {g n : Nat} {q : Option Nat} {ds : List Int} (h : SR w g q 0 ((n : Int) :: 0 :: ds)) (hq : ∀ b, q = some b → b < w.heap.size) (hn : n ≤ 32) (h0 : 0 < n) :
    Calls Try.prog 179 #[.pointer (some ⟨g, 0, none⟩)] w (GotR w g q (.agg #[.int .u64 0, .int .u64 0, .int .u64 0, .int .u64 0]) (4, [])) := by
  have hgl := h.lt
  have hA : Below w.heap.size w (w.alloc (.cells #[Value.int .u64 0, .int .u64 0, .int .u64 0, .int .u64 0] 31)) := (Below.refl _ _).alloc (Nat.le_refl _) _
  have hsz : (w.alloc (.cells #[Value.int .u64 0, .int .u64 0, .int .u64 0, .int .u64 0] 31)).heap.size = w.heap.size + 1 := by simp
  have r0 : Row (w.alloc (.cells #[Value.int .u64 0, .int .u64 0, .int .u64 0, .int .u64 0] 31)) w.heap.size 31 #[.int .u64 0, .int .u64 0, .int .u64 0, .int .u64 0] := Row.new_at rfl
  have hn3 : (n : Int) ≤ 32 := by omega
  have hn4 : (0 : Int) < (n : Int) := by omega
  have hby := rbyte_at (h.below hA)
  rw [show byO 0 ((n : Int) :: 0 :: ds) = (n : Int) from by unfold byO tkO; simp, show tkE 1 0 ((n : Int) :: 0 :: ds) = 0 from by unfold tkE; simp, show tkR 1 0 ((n : Int) :: 0 :: ds) = 0 :: ds from by unfold tkR; simp] at hby
  replace hby := Lib.hid hby
  have R0 := Lib.hid (show _ ∧ _ ∧ _ from ⟨hA, hsz, r0⟩)
  have wn : IntKind.i64.wrap (n : Int) = (n : Int) := by rw [IntKind.wrap_i64]; omega
  clear h hA hsz r0
  go_enter Try.func179, Try.ntmps179
  go_wp2_with fail
  refine hby.out.mono ?_
  rintro r w1 ⟨rfl, hs, ht⟩
  have c1 := hs.e1
  have r1 := K6.Row.tr R0.out.2.2 ht (by omega)
  replace ht : Tr (fun b => b = g) w w1 := (Tr.of R0.out.1 : Tr (fun b => b = g) w _).trans ht
  clear hby R0
  have wr := Lib.hid (wrong_at 4 hs)
  have HS := Lib.hid (show _ ∧ _ from ⟨ht, r1⟩)
  obtain ⟨b, o, cp, k0, k1⟩ := hs.hd
  have hpos : (0 : Int) < ((ds.length + 1 : Nat) : Int) := by omega
  clear hs ht r1
  go_wp2_with fail
  refine wr.out.mono ?_
  rintro r w3 ⟨⟨u, rfl⟩, hs, ht3⟩
  have r0 := K6.Row.tr HS.out.2 ht3 (by omega)
  have ht : Tr (fun b => b = g) w w3 := HS.out.1.trans ht3
  clear HS wr ht3 c1 k0 k1 hpos
  go_upto_region 9 with (fail)
  let L : List Sp := [sO 1 (w.heap.size) 31 [0] (fun g => aggOf g 0)]
  refine wp_region_six0 (shs L) (look6 L) (fun c => c = w.heap.size) (by kernel_rfl) (by kernel_rfl) (mk_St L [1] [1] (by kernel_rfl) (by kernel_rfl) ⟨ok_O aggOf_congr r0.lt (rfl), trivial⟩ (by simp)) ?_
  intro QQ hQ
  refine stepK rfl (by kernel_rfl) (fun K hK => ?_); go_simp
  apply Exists.intro; apply And.intro; (focus (intro wk hk; go_simp; exact ⟨rfl, rfl⟩)); refine hK _ _ ?_; clear hK K
  refine stepS _ rfl (by kernel_rfl) (fun K hK => ?_); go_simp
  refine ⟨?_, ?_⟩
  · exact sStoreO rfl rfl rfl rfl rfl rfl r0 id (by kernel_rfl) rfl (by kernel_rfl) (by decide) aggOf_congr
  rintro ⟨v1, lo1, hi1⟩ - - (rfl : v1 = undef)
  refine hK _ _ ?_; clear hK K
  refine stepN ?_
  refine hQ _ _ ?_
  intro w9 hT hG hF
  have x0 : Row w9 (w.heap.size) 31 (#[.int .u64 0, .int .u64 0, .int .u64 0, .int .u64 0]) := hF 1 _ rfl rfl (by decide)
  have hs9 := hs.keep hT (fun hc => by have hc' : g = w.heap.size := hc; omega) (fun b hb hc => by have hc' : b = w.heap.size := hc; have := hq b hb; omega)
  have ht9 := ht.trans_new hT (fun b hb hlt => by have hb' : b = w.heap.size := hb; omega)
  clear hT hG hF hQ QQ L
  go_wp2_with fail
  refine bodyPost_ret (results_c rfl aggT31 rfl x0 rfl) rfl ?_
  exact ⟨rfl, hs9, ht9⟩
set_option maxRecDepth 100000 in
set_option maxHeartbeats 8000000 in
theorem ramt_z {w : World} {g : Nat} {q : Option Nat} {cs : List Int} (h : SR w g q 0 (((0 : Nat) : Int) :: cs)) (hq : ∀ b, q = some b → b < w.heap.size)  :
    Calls Try.prog 179 #[.pointer (some ⟨g, 0, none⟩)] w (GotR w g q (.agg (W4 0)) (0, cs)) := by
  have hgl := h.lt
  have hA : Below w.heap.size w (w.alloc (.cells #[Value.int .u64 0, .int .u64 0, .int .u64 0, .int .u64 0] 31)) := (Below.refl _ _).alloc (Nat.le_refl _) _
  have hsz : (w.alloc (.cells #[Value.int .u64 0, .int .u64 0, .int .u64 0, .int .u64 0] 31)).heap.size = w.heap.size + 1 := by simp
  have r0 : Row (w.alloc (.cells #[Value.int .u64 0, .int .u64 0, .int .u64 0, .int .u64 0] 31)) w.heap.size 31 #[.int .u64 0, .int .u64 0, .int .u64 0, .int .u64 0] := Row.new_at rfl
  obtain ⟨n, hn0⟩ : ∃ n : Nat, 0 = n := ⟨_, rfl⟩
  rw [hn0] at h
  have hn : n ≤ 32 := by omega
  have hn3 : (n : Int) ≤ 32 := by omega
  have hn4 : (n : Int) ≤ 0 := by omega
  have hby0 : By (cs) := fun x hx => h.2.1 x (List.mem_cons_of_mem _ hx)
  have hE : tkE n 0 (cs) = 0 := by unfold tkE; subst hn0; simp
  have hO : tkO n 0 (cs) = [] := by unfold tkO; subst hn0; simp
  have hR : tkR n 0 (cs) = cs := by unfold tkR; subst hn0; simp
  have HE := Lib.hid (show _ ∧ _ ∧ _ from ⟨hE, hO, hR⟩)
  have hOby : By ([]) := By.nil
  have hOl : ([] : List Int).length = n := by exact hn0
  obtain ⟨k, hk⟩ : ∃ k, 32 - n = k := ⟨_, rfl⟩
  have ek : (32 : Int) - (n : Int) = (k : Int) := by omega
  have wk : IntKind.i64.wrap (k : Int) = (k : Int) := by rw [IntKind.wrap_i64]; omega
  have mk := make8 k (by omega)
  have hzb : By (List.replicate k 0) := fun x hx => by rw [(List.mem_replicate.1 hx).2]; omega
  have HO := Lib.hid (show _ ∧ _ ∧ _ ∧ _ from ⟨hOby, hOl, hk, hzb⟩)
  clear hOby hOl hk hzb
  clear hE hO hR hby0 hn0
  have hby := rbyte_at (h.below hA)
  rw [show byO 0 ((n : Int) :: cs) = (n : Int) from by unfold byO tkO; simp, show tkE 1 0 ((n : Int) :: cs) = 0 from by unfold tkE; simp, show tkR 1 0 ((n : Int) :: cs) = cs from by unfold tkR; simp] at hby
  replace hby := Lib.hid hby
  have R0 := Lib.hid (show _ ∧ _ ∧ _ from ⟨hA, hsz, r0⟩)
  have wn : IntKind.i64.wrap (n : Int) = (n : Int) := by rw [IntKind.wrap_i64]; omega
  clear h hA hsz r0
  go_enter Try.func179, Try.ntmps179
  go_wp2_with fail
  refine hby.out.mono ?_
  rintro r w1 ⟨rfl, hs, ht⟩
  have c1 := hs.e1
  have r1 := K6.Row.tr R0.out.2.2 ht (by omega)
  replace ht : Tr (fun b => b = g) w w1 := (Tr.of R0.out.1 : Tr (fun b => b = g) w _).trans ht
  clear hby R0
  obtain ⟨a0, cp, k0⟩ := hs.b0
  have tk := rtake_at n hs
  unfold RTook at tk
  rw [HE.out.1, HE.out.2.1, HE.out.2.2] at tk
  replace tk := Lib.hid tk
  have HS := Lib.hid (show _ ∧ _ from ⟨ht, r1⟩)
  have hsw := r1.lt
  clear hs ht r1 HE
  go_wp2_with fail
  refine tk.out.mono ?_
  rintro r w2 ⟨v, rfl, ho, hs, ht3⟩
  have r0 := K6.Row.tr HS.out.2 ht3 (by omega)
  have ht : Tr (fun b => b = g) w w2 := HS.out.1.trans ht3
  clear HS tk ht3 c1 k0
  have c1 := hs.e1
  have ha : Below w2.heap.size w2 (w2.alloc (.cells (bv (List.replicate k 0)).toArray 5)) := (Below.refl _ _).alloc (Nat.le_refl _) _
  have hoA := made_own k (by omega) w2
  have hkl : k ≤ 32 := by have h9 := HO.out.2.2.1; omega
  obtain ⟨v2, w3, hrun, ho2, hg, -⟩ := append_run hoA (ho.bs.below ha) (by rw [List.length_replicate]; show k + 0 ≤ _; omega) (by simp)
  have hl3 : Below w2.heap.size w2 w3 := grew_below (Nat.le_refl _) (fun b hb => (hoA.lt b hb).1) hg
  have hlen : (List.replicate k 0 ++ ([] : List Int)).length = 32 := by have h8 := HO.out.2.1; have h9 := HO.out.2.2.1; rw [List.length_append, List.length_replicate]; simp at h8; show k + 0 = 32; omega
  have k96 := Lib.hid (rfrom32 hlen (HO.out.2.2.2.app HO.out.1) ho2)
  rw [beV_zeros] at k96
  obtain ⟨y0, y1, y2, y3, hW⟩ : ∃ y0 y1 y2 y3 : Int, W4 (beV ([])) = #[.int .u64 y0, .int .u64 y1, .int .u64 y2, .int .u64 y3] := ⟨_, _, _, _, rfl⟩
  rw [hW] at k96
  replace hW := Lib.hid hW
  have HS := Lib.hid (show _ ∧ _ ∧ _ ∧ _ from ⟨hs, ht, r0, hl3⟩)
  clear ha hoA ho hg hl3 hlen hs ht r0 HO ho2 hkl
  go_wp2_with (at_builtin; refine wpList_app rfl rfl rfl rfl hrun ?_)
  refine k96.out.mono ?_
  rintro r w4 ⟨rfl, hb4⟩
  obtain ⟨hs, ht, r0, hl3⟩ := HS.out
  have hl4 := hl3.trans (hb4.mono hl3.size)
  clear HS k96 hrun hl3 hb4
  have HL := Lib.hid (show _ ∧ _ ∧ _ ∧ _ from ⟨hs, ht, r0, hl4⟩)
  clear hs ht r0 hl4
  go_upto_region 14 with (fail)
  obtain ⟨hs, ht, r0, hl4⟩ := HL.out
  have hA4 : Below w4.heap.size w4 (w4.alloc (.cells #[.int .u64 y0, .int .u64 y1, .int .u64 y2, .int .u64 y3] 31)) := (Below.refl _ _).alloc (Nat.le_refl _) _
  have hl5 := hl4.trans (hA4.mono hl4.size)
  refine wp_abs (fun wx => SR wx g q 0 (cs) ∧ Tr (fun b => b = g) w wx ∧ Row wx w.heap.size 31 #[.int .u64 0, .int .u64 0, .int .u64 0, .int .u64 0] ∧ Row wx w4.heap.size 31 #[.int .u64 y0, .int .u64 y1, .int .u64 y2, .int .u64 y3]) ⟨hs.below hl5, ht.trans (Tr.of hl5), r0.below hl5 r0.lt, Row.new_at rfl⟩ ?_
  have h05 : w.heap.size < w4.heap.size := Nat.lt_of_lt_of_le r0.lt hl4.size
  clear hs ht r0 hl4 hA4 hl5 HL c1
  rintro w8 ⟨hs, ht, r0, r5⟩
  go_upto_region 14 with (fail)
  let L : List Sp := [sO 1 (w.heap.size) 31 [0] (fun g => aggOf g 0)]
  refine wp_region_six0 (shs L) (look6 L) (fun c => c = w.heap.size) (by kernel_rfl) (by kernel_rfl) (mk_St L [1] [1] (by kernel_rfl) (by kernel_rfl) ⟨ok_O aggOf_congr r0.lt (rfl), trivial⟩ (by simp)) ?_
  intro QQ hQ
  refine stepK rfl (by kernel_rfl) (fun K hK => ?_); go_simp
  apply Exists.intro; apply And.intro; (focus exact kLoad rfl rfl aggT31 r5 rfl id); refine hK _ _ ?_; clear hK K
  refine stepS _ rfl (by kernel_rfl) (fun K hK => ?_); go_simp
  refine ⟨?_, ?_⟩
  · exact sStoreO rfl rfl rfl rfl rfl rfl r0 id (by kernel_rfl) rfl (by kernel_rfl) (by decide) aggOf_congr
  rintro ⟨v1, lo1, hi1⟩ - - (rfl : v1 = undef)
  refine hK _ _ ?_; clear hK K
  refine stepN ?_
  refine hQ _ _ ?_
  intro w9 hT hG hF
  have x0 : Row w9 (w.heap.size) 31 (#[.int .u64 y0, .int .u64 y1, .int .u64 y2, .int .u64 y3]) := hF 1 _ rfl rfl (by decide)
  have hs9 := hs.keep hT (fun hc => by have hc' : g = w.heap.size := hc; omega) (fun b hb hc => by have hc' : b = w.heap.size := hc; have := hq b hb; omega)
  have ht9 := ht.trans_new hT (fun b hb hlt => by have hb' : b = w.heap.size := hb; omega)
  clear hT hG hF hQ QQ L
  go_wp2_with fail
  refine bodyPost_ret (results_c rfl aggT31 rfl x0 rfl) rfl ?_
  exact ⟨by rw [← hW.out]; rfl, hs9, ht9⟩
set_option maxRecDepth 100000 in
set_option maxHeartbeats 8000000 in
theorem ramt_e {w : World} {g n : Nat} {q : Option Nat} (h : SR w g q 0 ((n : Int) :: [])) (hq : ∀ b, q = some b → b < w.heap.size) (hn : n ≤ 32) (h0 : 0 < n) :
    Calls Try.prog 179 #[.pointer (some ⟨g, 0, none⟩)] w (GotR w g q (.agg #[.int .u64 0, .int .u64 0, .int .u64 0, .int .u64 0]) (3, [])) := by
  have hgl := h.lt
  have hA : Below w.heap.size w (w.alloc (.cells #[Value.int .u64 0, .int .u64 0, .int .u64 0, .int .u64 0] 31)) := (Below.refl _ _).alloc (Nat.le_refl _) _
  have hsz : (w.alloc (.cells #[Value.int .u64 0, .int .u64 0, .int .u64 0, .int .u64 0] 31)).heap.size = w.heap.size + 1 := by simp
  have r0 : Row (w.alloc (.cells #[Value.int .u64 0, .int .u64 0, .int .u64 0, .int .u64 0] 31)) w.heap.size 31 #[.int .u64 0, .int .u64 0, .int .u64 0, .int .u64 0] := Row.new_at rfl
  have hn3 : (n : Int) ≤ 32 := by omega
  have hn4 : (0 : Int) < (n : Int) := by omega
  have hby0 : By ([]) := fun x hx => h.2.1 x (List.mem_cons_of_mem _ hx)
  have hE : tkE n 0 ([]) = 3 := by unfold tkE; rw [if_pos rfl, if_neg (by simp; omega)]
  have hO : tkO n 0 ([]) = [] := by unfold tkO; rw [if_pos rfl, if_neg (by simp; omega)]
  have hR : tkR n 0 ([]) = [] := by unfold tkR; rw [if_pos rfl, if_neg (by simp; omega)]
  have HE := Lib.hid (show _ ∧ _ ∧ _ from ⟨hE, hO, hR⟩)
  clear hE hO hR hby0
  have hby := rbyte_at (h.below hA)
  rw [show byO 0 ((n : Int) :: []) = (n : Int) from by unfold byO tkO; simp, show tkE 1 0 ((n : Int) :: []) = 0 from by unfold tkE; simp, show tkR 1 0 ((n : Int) :: []) = [] from by unfold tkR; simp] at hby
  replace hby := Lib.hid hby
  have R0 := Lib.hid (show _ ∧ _ ∧ _ from ⟨hA, hsz, r0⟩)
  have wn : IntKind.i64.wrap (n : Int) = (n : Int) := by rw [IntKind.wrap_i64]; omega
  clear h hA hsz r0
  go_enter Try.func179, Try.ntmps179
  go_wp2_with fail
  refine hby.out.mono ?_
  rintro r w1 ⟨rfl, hs, ht⟩
  have c1 := hs.e1
  have r1 := K6.Row.tr R0.out.2.2 ht (by omega)
  replace ht : Tr (fun b => b = g) w w1 := (Tr.of R0.out.1 : Tr (fun b => b = g) w _).trans ht
  clear hby R0
  obtain ⟨a0, cp, k0⟩ := hs.b0
  have tk := rtake_at n hs
  unfold RTook at tk
  rw [HE.out.1, HE.out.2.1, HE.out.2.2] at tk
  replace tk := Lib.hid tk
  have HS := Lib.hid (show _ ∧ _ from ⟨ht, r1⟩)
  have hsw := r1.lt
  clear hs ht r1 HE
  go_wp2_with fail
  refine tk.out.mono ?_
  rintro r w2 ⟨v, rfl, ho, hs, ht3⟩
  have r0 := K6.Row.tr HS.out.2 ht3 (by omega)
  have ht : Tr (fun b => b = g) w w2 := HS.out.1.trans ht3
  clear HS tk ht3 c1 k0
  have c1 := hs.e1
  clear ho hsw
  go_upto_region 12 with (fail)
  let L : List Sp := [sO 1 (w.heap.size) 31 [0] (fun g => aggOf g 0)]
  refine wp_region_six0 (shs L) (look6 L) (fun c => c = w.heap.size) (by kernel_rfl) (by kernel_rfl) (mk_St L [1] [1] (by kernel_rfl) (by kernel_rfl) ⟨ok_O aggOf_congr r0.lt (rfl), trivial⟩ (by simp)) ?_
  intro QQ hQ
  refine stepK rfl (by kernel_rfl) (fun K hK => ?_); go_simp
  apply Exists.intro; apply And.intro; (focus (intro wk hk; go_simp; exact ⟨rfl, rfl⟩)); refine hK _ _ ?_; clear hK K
  refine stepS _ rfl (by kernel_rfl) (fun K hK => ?_); go_simp
  refine ⟨?_, ?_⟩
  · exact sStoreO rfl rfl rfl rfl rfl rfl r0 id (by kernel_rfl) rfl (by kernel_rfl) (by decide) aggOf_congr
  rintro ⟨v1, lo1, hi1⟩ - - (rfl : v1 = undef)
  refine hK _ _ ?_; clear hK K
  refine stepN ?_
  refine hQ _ _ ?_
  intro w9 hT hG hF
  have x0 : Row w9 (w.heap.size) 31 (#[.int .u64 0, .int .u64 0, .int .u64 0, .int .u64 0]) := hF 1 _ rfl rfl (by decide)
  have hs9 := hs.keep hT (fun hc => by have hc' : g = w.heap.size := hc; omega) (fun b hb hc => by have hc' : b = w.heap.size := hc; have := hq b hb; omega)
  have ht9 := ht.trans_new hT (fun b hb hlt => by have hb' : b = w.heap.size := hb; omega)
  clear hT hG hF hQ QQ L
  go_wp2_with fail
  refine bodyPost_ret (results_c rfl aggT31 rfl x0 rfl) rfl ?_
  exact ⟨rfl, hs9, ht9⟩
set_option maxRecDepth 100000 in
set_option maxHeartbeats 8000000 in
theorem ramt_f2 {w : World} {g n : Nat} {q : Option Nat} {d : Int} {ds : List Int} (h : SR w g q 0 ((n : Int) :: d :: ds)) (hq : ∀ b, q = some b → b < w.heap.size) (hn : n ≤ 32) (h0 : 0 < n) (hd : d ≠ 0) (hm : n ≤ (d :: ds).length) :
    Calls Try.prog 179 #[.pointer (some ⟨g, 0, none⟩)] w (GotR w g q (.agg (W4 (beV ((d :: ds).take n)))) (0, (d :: ds).drop n)) := by
  have hgl := h.lt
  have hA : Below w.heap.size w (w.alloc (.cells #[Value.int .u64 0, .int .u64 0, .int .u64 0, .int .u64 0] 31)) := (Below.refl _ _).alloc (Nat.le_refl _) _
  have hsz : (w.alloc (.cells #[Value.int .u64 0, .int .u64 0, .int .u64 0, .int .u64 0] 31)).heap.size = w.heap.size + 1 := by simp
  have r0 : Row (w.alloc (.cells #[Value.int .u64 0, .int .u64 0, .int .u64 0, .int .u64 0] 31)) w.heap.size 31 #[.int .u64 0, .int .u64 0, .int .u64 0, .int .u64 0] := Row.new_at rfl
  have hn3 : (n : Int) ≤ 32 := by omega
  have hn4 : (0 : Int) < (n : Int) := by omega
  have hdq : (d == 0) = false := by rw [beq_eq_false_iff_ne]; exact hd
  have hby0 : By (d :: ds) := fun x hx => h.2.1 x (List.mem_cons_of_mem _ hx)
  have hE : tkE n 0 (d :: ds) = 0 := by unfold tkE; rw [if_pos rfl, if_pos hm]
  have hO : tkO n 0 (d :: ds) = (d :: ds).take n := by unfold tkO; rw [if_pos rfl, if_pos hm]
  have hR : tkR n 0 (d :: ds) = (d :: ds).drop n := by unfold tkR; rw [if_pos rfl, if_pos hm]
  have HE := Lib.hid (show _ ∧ _ ∧ _ from ⟨hE, hO, hR⟩)
  have hOby : By ((d :: ds).take n) := hby0.take _
  have hOl : ((d :: ds).take n : List Int).length = n := by rw [List.length_take]; omega
  obtain ⟨k, hk⟩ : ∃ k, 32 - n = k := ⟨_, rfl⟩
  have ek : (32 : Int) - (n : Int) = (k : Int) := by omega
  have wk : IntKind.i64.wrap (k : Int) = (k : Int) := by rw [IntKind.wrap_i64]; omega
  have mk := make8 k (by omega)
  have hzb : By (List.replicate k 0) := fun x hx => by rw [(List.mem_replicate.1 hx).2]; omega
  have HO := Lib.hid (show _ ∧ _ ∧ _ ∧ _ from ⟨hOby, hOl, hk, hzb⟩)
  clear hOby hOl hk hzb
  clear hE hO hR hby0 hd hm
  have hby := rbyte_at (h.below hA)
  rw [show byO 0 ((n : Int) :: d :: ds) = (n : Int) from by unfold byO tkO; simp, show tkE 1 0 ((n : Int) :: d :: ds) = 0 from by unfold tkE; simp, show tkR 1 0 ((n : Int) :: d :: ds) = d :: ds from by unfold tkR; simp] at hby
  replace hby := Lib.hid hby
  have R0 := Lib.hid (show _ ∧ _ ∧ _ from ⟨hA, hsz, r0⟩)
  have wn : IntKind.i64.wrap (n : Int) = (n : Int) := by rw [IntKind.wrap_i64]; omega
  clear h hA hsz r0
  go_enter Try.func179, Try.ntmps179
  go_wp2_with fail
  refine hby.out.mono ?_
  rintro r w1 ⟨rfl, hs, ht⟩
  have c1 := hs.e1
  have r1 := K6.Row.tr R0.out.2.2 ht (by omega)
  replace ht : Tr (fun b => b = g) w w1 := (Tr.of R0.out.1 : Tr (fun b => b = g) w _).trans ht
  clear hby R0
  obtain ⟨b, o, cp, k0, k1⟩ := hs.hd
  have hpos : (0 : Int) < ((ds.length + 1 : Nat) : Int) := by omega
  have tk := rtake_at n hs
  unfold RTook at tk
  rw [HE.out.1, HE.out.2.1, HE.out.2.2] at tk
  replace tk := Lib.hid tk
  have HS := Lib.hid (show _ ∧ _ from ⟨ht, r1⟩)
  have hsw := r1.lt
  clear hs ht r1 HE
  go_wp2_with fail
  refine tk.out.mono ?_
  rintro r w2 ⟨v, rfl, ho, hs, ht3⟩
  have r0 := K6.Row.tr HS.out.2 ht3 (by omega)
  have ht : Tr (fun b => b = g) w w2 := HS.out.1.trans ht3
  clear HS tk ht3 c1 k0 k1 hpos hdq
  have c1 := hs.e1
  have ha : Below w2.heap.size w2 (w2.alloc (.cells (bv (List.replicate k 0)).toArray 5)) := (Below.refl _ _).alloc (Nat.le_refl _) _
  have hoA := made_own k (by omega) w2
  have hkl : k ≤ 32 := by have h9 := HO.out.2.2.1; omega
  obtain ⟨v2, w3, hrun, ho2, hg, -⟩ := append_run hoA (ho.bs.below ha) (by rw [List.length_replicate, HO.out.2.1]; omega) (by simp)
  have hl3 : Below w2.heap.size w2 w3 := grew_below (Nat.le_refl _) (fun b hb => (hoA.lt b hb).1) hg
  have hlen : (List.replicate k 0 ++ (d :: ds).take n).length = 32 := by rw [List.length_append, List.length_replicate, HO.out.2.1]; have := HO.out.2.2.1; omega
  have k96 := Lib.hid (rfrom32 hlen (HO.out.2.2.2.app HO.out.1) ho2)
  rw [beV_zeros] at k96
  obtain ⟨y0, y1, y2, y3, hW⟩ : ∃ y0 y1 y2 y3 : Int, W4 (beV ((d :: ds).take n)) = #[.int .u64 y0, .int .u64 y1, .int .u64 y2, .int .u64 y3] := ⟨_, _, _, _, rfl⟩
  rw [hW] at k96
  replace hW := Lib.hid hW
  have HS := Lib.hid (show _ ∧ _ ∧ _ ∧ _ from ⟨hs, ht, r0, hl3⟩)
  clear ha hoA ho hg hl3 hlen hs ht r0 HO ho2 hkl
  go_wp2_with (at_builtin; refine wpList_app rfl rfl rfl rfl hrun ?_)
  refine k96.out.mono ?_
  rintro r w4 ⟨rfl, hb4⟩
  obtain ⟨hs, ht, r0, hl3⟩ := HS.out
  have hl4 := hl3.trans (hb4.mono hl3.size)
  clear HS k96 hrun hl3 hb4
  have HL := Lib.hid (show _ ∧ _ ∧ _ ∧ _ from ⟨hs, ht, r0, hl4⟩)
  clear hs ht r0 hl4
  go_upto_region 14 with (fail)
  obtain ⟨hs, ht, r0, hl4⟩ := HL.out
  have hA4 : Below w4.heap.size w4 (w4.alloc (.cells #[.int .u64 y0, .int .u64 y1, .int .u64 y2, .int .u64 y3] 31)) := (Below.refl _ _).alloc (Nat.le_refl _) _
  have hl5 := hl4.trans (hA4.mono hl4.size)
  refine wp_abs (fun wx => SR wx g q 0 ((d :: ds).drop n) ∧ Tr (fun b => b = g) w wx ∧ Row wx w.heap.size 31 #[.int .u64 0, .int .u64 0, .int .u64 0, .int .u64 0] ∧ Row wx w4.heap.size 31 #[.int .u64 y0, .int .u64 y1, .int .u64 y2, .int .u64 y3]) ⟨hs.below hl5, ht.trans (Tr.of hl5), r0.below hl5 r0.lt, Row.new_at rfl⟩ ?_
  have h05 : w.heap.size < w4.heap.size := Nat.lt_of_lt_of_le r0.lt hl4.size
  clear hs ht r0 hl4 hA4 hl5 HL c1
  rintro w8 ⟨hs, ht, r0, r5⟩
  go_upto_region 14 with (fail)
  let L : List Sp := [sO 1 (w.heap.size) 31 [0] (fun g => aggOf g 0)]
  refine wp_region_six0 (shs L) (look6 L) (fun c => c = w.heap.size) (by kernel_rfl) (by kernel_rfl) (mk_St L [1] [1] (by kernel_rfl) (by kernel_rfl) ⟨ok_O aggOf_congr r0.lt (rfl), trivial⟩ (by simp)) ?_
  intro QQ hQ
  refine stepK rfl (by kernel_rfl) (fun K hK => ?_); go_simp
  apply Exists.intro; apply And.intro; (focus exact kLoad rfl rfl aggT31 r5 rfl id); refine hK _ _ ?_; clear hK K
  refine stepS _ rfl (by kernel_rfl) (fun K hK => ?_); go_simp
  refine ⟨?_, ?_⟩
  · exact sStoreO rfl rfl rfl rfl rfl rfl r0 id (by kernel_rfl) rfl (by kernel_rfl) (by decide) aggOf_congr
  rintro ⟨v1, lo1, hi1⟩ - - (rfl : v1 = undef)
  refine hK _ _ ?_; clear hK K
  refine stepN ?_
  refine hQ _ _ ?_
  intro w9 hT hG hF
  have x0 : Row w9 (w.heap.size) 31 (#[.int .u64 y0, .int .u64 y1, .int .u64 y2, .int .u64 y3]) := hF 1 _ rfl rfl (by decide)
  have hs9 := hs.keep hT (fun hc => by have hc' : g = w.heap.size := hc; omega) (fun b hb hc => by have hc' : b = w.heap.size := hc; have := hq b hb; omega)
  have ht9 := ht.trans_new hT (fun b hb hlt => by have hb' : b = w.heap.size := hb; omega)
  clear hT hG hF hQ QQ L
  go_wp2_with fail
  refine bodyPost_ret (results_c rfl aggT31 rfl x0 rfl) rfl ?_
  exact ⟨by rw [← hW.out], hs9, ht9⟩
set_option maxRecDepth 100000 in
set_option maxHeartbeats 8000000 in
theorem ramt_s {w : World} {g n : Nat} {q : Option Nat} {d : Int} {ds : List Int} (h : SR w g q 0 ((n : Int) :: d :: ds)) (hq : ∀ b, q = some b → b < w.heap.size) (hn : n ≤ 32) (h0 : 0 < n) (hd : d ≠ 0) (hm : (d :: ds).length < n) :
    Calls Try.prog 179 #[.pointer (some ⟨g, 0, none⟩)] w (GotR w g q (.agg #[.int .u64 0, .int .u64 0, .int .u64 0, .int .u64 0]) (3, [])) := by
  have hgl := h.lt
  have hA : Below w.heap.size w (w.alloc (.cells #[Value.int .u64 0, .int .u64 0, .int .u64 0, .int .u64 0] 31)) := (Below.refl _ _).alloc (Nat.le_refl _) _
  have hsz : (w.alloc (.cells #[Value.int .u64 0, .int .u64 0, .int .u64 0, .int .u64 0] 31)).heap.size = w.heap.size + 1 := by simp
  have r0 : Row (w.alloc (.cells #[Value.int .u64 0, .int .u64 0, .int .u64 0, .int .u64 0] 31)) w.heap.size 31 #[.int .u64 0, .int .u64 0, .int .u64 0, .int .u64 0] := Row.new_at rfl
  have hn3 : (n : Int) ≤ 32 := by omega
  have hn4 : (0 : Int) < (n : Int) := by omega
  have hdq : (d == 0) = false := by rw [beq_eq_false_iff_ne]; exact hd
  have hby0 : By (d :: ds) := fun x hx => h.2.1 x (List.mem_cons_of_mem _ hx)
  have hE : tkE n 0 (d :: ds) = 3 := by unfold tkE; rw [if_pos rfl, if_neg (by omega)]
  have hO : tkO n 0 (d :: ds) = [] := by unfold tkO; rw [if_pos rfl, if_neg (by omega)]
  have hR : tkR n 0 (d :: ds) = [] := by unfold tkR; rw [if_pos rfl, if_neg (by omega)]
  have HE := Lib.hid (show _ ∧ _ ∧ _ from ⟨hE, hO, hR⟩)
  clear hE hO hR hby0 hd hm
  have hby := rbyte_at (h.below hA)
  rw [show byO 0 ((n : Int) :: d :: ds) = (n : Int) from by unfold byO tkO; simp, show tkE 1 0 ((n : Int) :: d :: ds) = 0 from by unfold tkE; simp, show tkR 1 0 ((n : Int) :: d :: ds) = d :: ds from by unfold tkR; simp] at hby
  replace hby := Lib.hid hby
  have R0 := Lib.hid (show _ ∧ _ ∧ _ from ⟨hA, hsz, r0⟩)
  have wn : IntKind.i64.wrap (n : Int) = (n : Int) := by rw [IntKind.wrap_i64]; omega
  clear h hA hsz r0
  go_enter Try.func179, Try.ntmps179
  go_wp2_with fail
  refine hby.out.mono ?_
  rintro r w1 ⟨rfl, hs, ht⟩
  have c1 := hs.e1
  have r1 := K6.Row.tr R0.out.2.2 ht (by omega)
  replace ht : Tr (fun b => b = g) w w1 := (Tr.of R0.out.1 : Tr (fun b => b = g) w _).trans ht
  clear hby R0
  obtain ⟨b, o, cp, k0, k1⟩ := hs.hd
  have hpos : (0 : Int) < ((ds.length + 1 : Nat) : Int) := by omega
  have tk := rtake_at n hs
  unfold RTook at tk
  rw [HE.out.1, HE.out.2.1, HE.out.2.2] at tk
  replace tk := Lib.hid tk
  have HS := Lib.hid (show _ ∧ _ from ⟨ht, r1⟩)
  have hsw := r1.lt
  clear hs ht r1 HE
  go_wp2_with fail
  refine tk.out.mono ?_
  rintro r w2 ⟨v, rfl, ho, hs, ht3⟩
  have r0 := K6.Row.tr HS.out.2 ht3 (by omega)
  have ht : Tr (fun b => b = g) w w2 := HS.out.1.trans ht3
  clear HS tk ht3 c1 k0 k1 hpos hdq
  have c1 := hs.e1
  clear ho hsw
  go_upto_region 12 with (fail)
  let L : List Sp := [sO 1 (w.heap.size) 31 [0] (fun g => aggOf g 0)]
  refine wp_region_six0 (shs L) (look6 L) (fun c => c = w.heap.size) (by kernel_rfl) (by kernel_rfl) (mk_St L [1] [1] (by kernel_rfl) (by kernel_rfl) ⟨ok_O aggOf_congr r0.lt (rfl), trivial⟩ (by simp)) ?_
  intro QQ hQ
  refine stepK rfl (by kernel_rfl) (fun K hK => ?_); go_simp
  apply Exists.intro; apply And.intro; (focus (intro wk hk; go_simp; exact ⟨rfl, rfl⟩)); refine hK _ _ ?_; clear hK K
  refine stepS _ rfl (by kernel_rfl) (fun K hK => ?_); go_simp
  refine ⟨?_, ?_⟩
  · exact sStoreO rfl rfl rfl rfl rfl rfl r0 id (by kernel_rfl) rfl (by kernel_rfl) (by decide) aggOf_congr
  rintro ⟨v1, lo1, hi1⟩ - - (rfl : v1 = undef)
  refine hK _ _ ?_; clear hK K
  refine stepN ?_
  refine hQ _ _ ?_
  intro w9 hT hG hF
  have x0 : Row w9 (w.heap.size) 31 (#[.int .u64 0, .int .u64 0, .int .u64 0, .int .u64 0]) := hF 1 _ rfl rfl (by decide)
  have hs9 := hs.keep hT (fun hc => by have hc' : g = w.heap.size := hc; omega) (fun b hb hc => by have hc' : b = w.heap.size := hc; have := hq b hb; omega)
  have ht9 := ht.trans_new hT (fun b hb hlt => by have hb' : b = w.heap.size := hb; omega)
  clear hT hG hF hQ QQ L
  go_wp2_with fail
  refine bodyPost_ret (results_c rfl aggT31 rfl x0 rfl) rfl ?_
  exact ⟨rfl, hs9, ht9⟩
theorem ramt_at {w : World} {g : Nat} {q : Option Nat} {e : Int} {xs : List Int} (h : SR w g q e xs) (hq : ∀ b, q = some b → b < w.heap.size) :
    Calls Try.prog 179 #[.pointer (some ⟨g, 0, none⟩)] w (GotR w g q (.agg (W4 (gA (e, xs)).1)) (gA (e, xs)).2) := by
  by_cases he : e = 0
  · subst he
    match xs, h with
    | [], h =>
      have h2 := ramt_f h hq (by unfold byO tkO; simp) (by unfold tkE; simp) (by unfold tkR; simp)
      rw [show tkE 1 0 [] = 3 from by unfold tkE; simp, W4_zero] at h2
      exact h2
    | c :: cs, h =>
      have hc := h.2.1 c (List.mem_cons_self ..)
      obtain ⟨n, rfl⟩ : ∃ n : Nat, c = (n : Int) := ⟨c.toNat, by omega⟩
      unfold gA
      rw [if_pos rfl]
      simp only
      by_cases h32 : 32 < n
      · rw [if_pos (.inl (by omega))]
        have h2 := ramt_big h hq h32 (by omega)
        rw [W4_zero] at h2
        exact h2
      · by_cases hz : n = 0
        · subst hz
          rw [if_neg (by rintro (h | ⟨h, -⟩) <;> omega), if_pos (by simp)]
          exact ramt_z h hq
        · match cs, h with
          | [], h =>
            rw [if_neg (by rintro (h | ⟨-, h⟩); omega; cases h), if_neg (by simp; omega)]
            have h2 := ramt_e h hq (by omega) (by omega)
            rw [W4_zero] at h2
            exact h2
          | d :: ds, h =>
            by_cases hd : d = 0
            · subst hd
              rw [if_pos (.inr ⟨by omega, rfl⟩)]
              have h2 := ramt_lead h hq (by omega) (by omega)
              rw [W4_zero] at h2
              exact h2
            · rw [if_neg (by rintro (h | ⟨-, h⟩); omega; exact hd (Option.some.inj h))]
              by_cases hm : n ≤ (d :: ds).length
              · rw [if_pos (by rw [Int.toNat_natCast]; exact hm)]
                have h2 := ramt_f2 h hq (by omega) (by omega) hd hm
                rw [Int.toNat_natCast]
                exact h2
              · rw [if_neg (by rw [Int.toNat_natCast]; exact hm)]
                have h2 := ramt_s h hq (by omega) (by omega) hd (by omega)
                rw [W4_zero] at h2
                exact h2
  · have hx := h.1 he
    subst hx
    have h2 := ramt_f h hq (by unfold byO tkO; rw [if_neg he]; rfl) (by unfold tkE; rw [if_neg he]; exact he) (by unfold tkR; rw [if_neg he])
    rw [show tkE 1 e [] = e from by unfold tkE; rw [if_neg he], W4_zero] at h2
    unfold gA
    rw [if_neg he]
    exact h2
end Go.Proofs.Ytpdenhmkpiafiaa
namespace Go.Proofs.Ytpdenhmkpiafiaa
open Go Go.RowKit K6
theorem gV_by {most : Int} {s : St} (h : By s.2) : By (gV most s).2.2 := by
  unfold gV svR
  simp only
  split
  · exact h.drop _
  · exact By.nil
theorem gA_by {s : St} (h : By s.2) : By (gA s).2.2 := by
  unfold gA
  split
  · split
    · exact By.nil
    · rename_i c cs e
      rw [e] at h
      split
      · exact By.nil
      · split
        · exact h.tail.drop _
        · exact By.nil
  · exact By.nil
abbrev Short : St := (3, [])
theorem take_app_cases {α : Type} (a b : List α) (j : Nat) : (j < a.length ∧ (a ++ b).take j = a.take j) ∨ (a.length ≤ j ∧ (a ++ b).take j = a ++ b.take (j - a.length)) := by
  rcases Nat.lt_or_ge j a.length with h | h
  · exact .inl ⟨h, List.take_append_of_le_length (by omega)⟩
  · refine .inr ⟨h, ?_⟩
    rw [List.take_append, List.take_of_length_le h]
end Go.Proofs.Ytpdenhmkpiafiaa
namespace Go.Proofs.Ytpdenhmkpiafiaa
open Go Go.RowKit K6
structure AppT (ts te z : Nat) : Prop where
  ht : Try.prog.underlying ts = some (.slice te)
  ex : ∃ i zv, Try.prog.info? te = some i ∧ i.zero = some zv ∧ i.size = z ∧ i.bytes ≤ 4096 ∧ zv.cells.size = z
  pos : 0 < z
theorem append1 {ts te z : Nat} (T : AppT ts te z) {w : World} {base n b : Nat} {v : Value} {zs : List Value} {cs : Array Value} (h : w.ownsRow base te z v n zs) (hr : Row w b te cs) (hs : cs.size = z) (h1 : cs.all (·.oneCell') = true) (hL : n ≤ 1000000) (hb : base ≤ w.heap.size) :
    ∃ v' w', (Builtin.append_ #[ts, ts] ts #[v, .slice (some ⟨b, 0, none⟩) 1 1]).run Try.prog w = .ok v' w' ∧ w'.ownsRow base te z v' (n + 1) (zs ++ cs.toList) ∧ w.grownBy w' v.ownBlock ∧ (v'.ownBlock = v.ownBlock ∨ v'.ownBlock = some w.heap.size) := by
  obtain ⟨i, zv, hi, hz, hsz, hby, hzc⟩ := T.ex
  have hB : (n + 1) * i.bytes ≤ (n + 1) * 4096 := Nat.mul_le_mul_left _ hby
  obtain ⟨v', w', hrun, ho, hg, -, hw⟩ := run_append_own_at (P := Try.prog) w base ts ts te i zv z i.bytes T.ht hi hz hsz rfl hzc T.pos v n zs h ⟨b, 0, none⟩ 1 1 cs.toList (by rw [Array.length_toList, hs, Nat.one_mul]) (fun j u hj => by
    rw [add_at, Nat.zero_add, hr.cell]
    simpa using hj) (fun u hu => by
    rw [Array.all_eq_true_iff_forall_mem] at h1
    exact h1 u (by simpa using hu)) (by simp only [maxLen]; omega) (by omega) hb
  exact ⟨v', w', hrun, ho, hg, hw⟩
theorem own_lt {w : World} {base te z n : Nat} {v : Value} {zs : List Value} (h : w.ownsRow base te z v n zs) (b : Nat) (hb : v.ownBlock = some b) : base ≤ b ∧ b < w.heap.size := by
  rcases h.2 with ⟨rfl, -⟩ | ⟨g, cap, cur, rfl, h1, hg, -⟩
  · cases hb
  · have h2 : some g = some b := hb
    injection h2 with h2
    subst h2
    exact ⟨h1, (Array.getElem?_eq_some_iff.1 hg).1⟩
theorem own_sl {w : World} {base te z n : Nat} {v : Value} {zs : List Value} (h : w.ownsRow base te z v n zs) : ∃ q c, v = .slice q n c := by
  rcases h.2 with ⟨rfl, h0⟩ | ⟨g, cap, cur, rfl, -⟩
  · exact ⟨none, 0, by rw [h0]⟩
  · exact ⟨_, _, rfl⟩
theorem own_sl3 {w : World} {base te z n : Nat} {v : Value} {zs : List Value} (h : w.ownsRow base te z v n zs) : ∃ q m c, v = .slice q m c := by
  obtain ⟨q, c, e⟩ := own_sl h
  exact ⟨q, n, c, e⟩
theorem own_base {w : World} {b b' te z n : Nat} {v : Value} {zs : List Value} (h : w.ownsRow b te z v n zs) (hb : b' ≤ b) : w.ownsRow b' te z v n zs := by
  refine ⟨h.1, ?_⟩
  rcases h.2 with h0 | ⟨g, cap, cur, rfl, h1, rest⟩
  · exact .inl h0
  · exact .inr ⟨g, cap, cur, rfl, Nat.le_trans hb h1, rest⟩
theorem own_nil (w : World) (b te z : Nat) : w.ownsRow b te z (.slice none 0 0) 0 [] := ⟨(Nat.zero_mul z).symm, .inl ⟨rfl, rfl⟩⟩
set_option maxRecDepth 100000 in
theorem appT23 : AppT 23 31 4 := ⟨rfl, ⟨_, _, rfl, rfl, rfl, by decide, rfl⟩, by decide⟩
theorem uw_snoc (l : List Nat) (a : Nat) : uw (l ++ [a]) = uw l ++ (W4 a).toList := by
  rw [uw_app]
  congr 1
def evc (e : Ev) : List Value := [.int .i64 e.k, e.v]
def evcs (E : List Ev) : List Value := E.flatMap evc
theorem evcs_snoc (E : List Ev) (e : Ev) : evcs (E ++ [e]) = evcs E ++ evc e := by
  unfold evcs
  rw [List.flatMap_append]
  congr 1
theorem evcs_get : ∀ (E : List Ev) (i j : Nat) (e : Ev), E[i]? = some e → j < 2 → (evcs E)[i * 2 + j]? = (evc e)[j]?
  | [], i, j, e, h, _ => by simp at h
  | x :: E, i, j, e, h, hj => by
    show (evc x ++ evcs E)[i * 2 + j]? = _
    match i with
    | 0 =>
      have h' : some x = some e := h
      injection h' with h'
      subst h'
      rw [List.getElem?_append_left (by show _ < 2; omega), Nat.zero_mul, Nat.zero_add]
    | i + 1 =>
      rw [List.getElem?_append_right (by show 2 ≤ _; omega), show (i + 1) * 2 + j - (evc x).length = i * 2 + j from by show (i + 1) * 2 + j - 2 = _; omega]
      exact evcs_get E i j e h hj
def EvIn (w : World) (base : Nat) (v : Value) (e : Ev) : Prop := EvOk w e ∧ ∀ b, e.v.ownBlock = some b → base ≤ b ∧ b < w.heap.size ∧ v.ownBlock ≠ some b
def Eo (w : World) (base : Nat) (v : Value) (E : List Ev) : Prop := w.ownsRow base 26 2 v E.length (evcs E) ∧ ∀ e ∈ E, EvIn w base v e
theorem Eo.nil (w : World) (b : Nat) : Eo w b (.slice none 0 0) [] := ⟨own_nil _ _ _ _, fun _ h => (by cases h)⟩
theorem Eo.base {w : World} {b b' : Nat} {v : Value} {E : List Ev} (h : Eo w b v E) (hb : b' ≤ b) : Eo w b' v E :=
  ⟨own_base h.1 hb, fun e he => ⟨(h.2 e he).1, fun c hc => ⟨Nat.le_trans hb ((h.2 e he).2 c hc).1, ((h.2 e he).2 c hc).2⟩⟩⟩
theorem EvIn.keep {X : Nat → Prop} {w w' : World} {base : Nat} {v : Value} {e : Ev} (h : EvIn w base v e) (hT : Tr X w w') (hX : ∀ b, base ≤ b → v.ownBlock ≠ some b → ¬ X b) : EvIn w' base v e :=
  ⟨⟨h.1.us.keep hT fun b hb => hX b (h.2 b hb).1 (h.2 b hb).2.2, h.1.lt, h.1.lo, h.1.hi⟩, fun b hb => ⟨(h.2 b hb).1, Nat.lt_of_lt_of_le (h.2 b hb).2.1 hT.size, (h.2 b hb).2.2⟩⟩
theorem Eo.keep {X : Nat → Prop} {w w' : World} {base : Nat} {v : Value} {E : List Ev} (h : Eo w base v E) (hT : Tr X w w') (hX : ∀ b, base ≤ b → ¬ X b) : Eo w' base v E :=
  ⟨own_tr h.1 hT fun b hb => hX b (own_lt h.1 b hb).1, fun e he => (h.2 e he).keep hT fun b hb _ => hX b hb⟩
theorem Eo.below {w w' : World} {base : Nat} {v : Value} {E : List Ev} (h : Eo w base v E) (hb : Below w.heap.size w w') : Eo w' base v E := h.keep (X := None_) (Tr.of hb) (fun _ _ => id)
theorem Eo.es {w : World} {base : Nat} {v : Value} {E : List Ev} (h : Eo w base v E) : Es w v E := by
  rcases id h.1.2 with ⟨rfl, h0⟩ | ⟨g, cap, cur, rfl, h1, hg, rest⟩
  · refine ⟨none, 0, by rw [h0], fun h => ?_, fun e he => (h.2 e he).1⟩
    rw [h0] at h
    exact absurd h (Nat.lt_irrefl 0)
  · refine ⟨some ⟨g, 0, none⟩, cap, rfl, fun _ => ⟨g, 0, rfl, (Array.getElem?_eq_some_iff.1 hg).1, fun i e he => ?_⟩, fun e he => (h.2 e he).1⟩
    have hc := fun j (hj : j < 2) (u : Value) (hu : (evc e)[j]? = some u) => World.ownsRow.cells h.1 (g := g) rfl (i * 2 + j) u ((evcs_get E i j e he hj).trans hu)
    refine ⟨?_, ?_⟩
    · have h2 := hc 0 (by decide) _ rfl
      rw [add_off] at h2
      exact h2
    · have h2 := hc 1 (by decide) _ rfl
      rw [add_off, ← Nat.add_assoc] at h2
      exact h2
theorem Eo.push {w w' : World} {base lo hi : Nat} {v v' : Value} {E : List Ev} {e : Ev} (h : Eo w base v E) (hT : Tr (fun c => v.ownBlock = some c) w w') (ho : w'.ownsRow base 26 2 v' (E.length + 1) (evcs E ++ evc e))
    (hG : Grew v ⟨v', lo, hi⟩) (hlo : w.heap.size ≤ lo) (he : EvIn w base v e) : Eo w' base v' (E ++ [e]) := by
  refine ⟨by rw [List.length_append, evcs_snoc]; exact ho, fun x hx => ?_⟩
  have hx' : EvIn w base v x := by
    rcases List.mem_append.1 hx with hx | hx
    · exact h.2 x hx
    · rw [List.mem_singleton.1 hx]; exact he
  have h2 := hx'.keep hT fun b _ hv hb => hv hb
  refine ⟨h2.1, fun b hb => ⟨(h2.2 b hb).1, (h2.2 b hb).2.1, fun hv => ?_⟩⟩
  have h3 := hx'.2 b hb
  rcases hG with hG | ⟨hG, -⟩
  · exact h3.2.2 (hG.symm.trans hv)
  · have h4 : some lo = some b := hG.symm.trans hv
    injection h4 with h4
    omega
def GotV (w : World) (lo hi g : Nat) (v : Value) (e : Int) (xs : List Int) (r : Ending) (w' : World) : Prop := r = .returned v ∧ SA w' lo hi g e xs ∧ Tr (fun b => b = g) w w'
theorem svar_V {w : World} {lo hi g k : Nat} {e e1 most : Int} {xs x1 : List Int} (h : SA w lo hi g e xs) (hg : gV most (e, xs) = (k, e1, x1)) : Calls Try.prog 60 #[.pointer (some ⟨g, 0, none⟩), .int .i64 most] w (GotV w lo hi g (.int .i64 (k : Int)) e1 x1) := by
  refine (svar_at most h).mono ?_
  rintro r w' ⟨rfl, hs, ht⟩
  unfold gV at hg
  simp only [Prod.mk.injEq] at hg
  obtain ⟨rfl, rfl, rfl⟩ := hg
  exact ⟨rfl, hs, ht⟩
theorem samt_V {w : World} {lo hi g a : Nat} {e e1 : Int} {xs x1 : List Int} (h : SA w lo hi g e xs) (hhi : hi ≤ w.heap.size) (hg : gA (e, xs) = (a, e1, x1)) : Calls Try.prog 62 #[.pointer (some ⟨g, 0, none⟩)] w (GotV w lo hi g (.agg (W4 a)) e1 x1) := by
  refine (samt_at h hhi).mono ?_
  rintro r w' ⟨rfl, hs, ht⟩
  rw [hg] at hs ⊢
  exact ⟨rfl, hs, ht⟩
def RGotV (w : World) (g : Nat) (q : Option Nat) (v : Value) (e : Int) (xs : List Int) (r : Ending) (w' : World) : Prop := r = .returned v ∧ SR w' g q e xs ∧ Tr (fun b => b = g) w w'
theorem rvar_V {w : World} {g k : Nat} {q : Option Nat} {e e1 most : Int} {xs x1 : List Int} (h : SR w g q e xs) (hg : gV most (e, xs) = (k, e1, x1)) : Calls Try.prog 178 #[.pointer (some ⟨g, 0, none⟩), .int .i64 most] w (RGotV w g q (.int .i64 (k : Int)) e1 x1) := by
  refine (rvar_at most h).mono ?_
  rintro r w' ⟨rfl, hs, ht⟩
  rw [hg] at hs ⊢
  exact ⟨rfl, hs, ht⟩
theorem ramt_V {w : World} {g a : Nat} {q : Option Nat} {e e1 : Int} {xs x1 : List Int} (h : SR w g q e xs) (hq : ∀ b, q = some b → b < w.heap.size) (hg : gA (e, xs) = (a, e1, x1)) : Calls Try.prog 179 #[.pointer (some ⟨g, 0, none⟩)] w (RGotV w g q (.agg (W4 a)) e1 x1) := by
  refine (ramt_at h hq).mono ?_
  rintro r w' ⟨rfl, hs, ht⟩
  rw [hg] at hs ⊢
  exact ⟨rfl, hs, ht⟩
theorem tri {α : Type} (x : α × Int × List Int) : ∃ k e xs, x = (k, e, xs) := ⟨x.1, x.2.1, x.2.2, rfl⟩
theorem SR.loc' {g : Nat} {q : Option Nat} {e : Int} {xs : List Int} (w w' : World) (h : SR w g q e xs) (hT : Tr (fun b => ¬ (b = g ∨ q = some b)) w w') : SR w' g q e xs := h.keep hT (fun hx => hx (.inl rfl)) (fun _ hb hx => hx (.inr hb))
end Go.Proofs.Ytpdenhmkpiafiaa
namespace Go.Proofs.Ytpdenhmkpiafiaa
open Go Go.RowKit K6
theorem Rs.keep {α : Type} {f : α → List Value} {z : Nat} {X : Nat → Prop} {w w' : World} {u : Value} {l : List α} (h : Rs f z w u l) (hT : Tr X w w') (hx : ∀ b, u.ownBlock = some b → ¬ X b) : Rs f z w' u l := by
  obtain ⟨q, c, rfl, h⟩ := h
  refine ⟨q, c, rfl, fun h0 => ?_⟩
  obtain ⟨g, o, rfl, hg, hc⟩ := h h0
  exact ⟨g, o, rfl, Nat.lt_of_lt_of_le hg hT.size, fun i x hx' j v hj => (World.cell?_of_block (hT.block g hg (hx g rfl))).trans (hc i x hx' j v hj)⟩
theorem flat_get {α : Type} (f : α → List Value) {z : Nat} : ∀ (l : List α), (∀ x ∈ l, (f x).length = z) → ∀ (i j : Nat) (x : α), l[i]? = some x → j < z → (l.flatMap f)[i * z + j]? = (f x)[j]?
  | [], _, i, j, x, h, _ => by simp at h
  | y :: l, hl, i, j, x, h, hj => by
    rw [List.flatMap_cons]
    have hy := hl y (List.mem_cons_self ..)
    match i with
    | 0 =>
      have h' : some y = some x := h
      injection h' with h'
      subst h'
      rw [List.getElem?_append_left (by omega), Nat.zero_mul, Nat.zero_add]
    | i + 1 =>
      rw [List.getElem?_append_right (by rw [Nat.succ_mul]; omega), show (i + 1) * z + j - (f y).length = i * z + j from by rw [Nat.succ_mul]; omega]
      exact flat_get f l (fun x hx => hl x (List.mem_cons_of_mem _ hx)) i j x h hj
theorem own_rs {α : Type} {f : α → List Value} {te z base : Nat} {w : World} {v : Value} {l : List α} (h : w.ownsRow base te z v l.length (l.flatMap f)) (hz : ∀ x ∈ l, (f x).length = z) : Rs f z w v l := by
  rcases id h.2 with ⟨rfl, h0⟩ | ⟨g, cap, cur, rfl, h1, hg, rest⟩
  · refine ⟨none, 0, by rw [h0], fun h => ?_⟩
    rw [h0] at h
    exact absurd h (Nat.lt_irrefl 0)
  · refine ⟨some ⟨g, 0, none⟩, cap, rfl, fun _ => ⟨g, 0, rfl, (Array.getElem?_eq_some_iff.1 hg).1, fun i x hx j u hj => ?_⟩⟩
    have hxz := hz x (List.mem_of_getElem? hx)
    have hjz : j < z := by have := (List.getElem?_eq_some_iff.1 hj).1; omega
    have h2 := World.ownsRow.cells h (g := g) rfl (i * z + j) u ((flat_get f l hz i j x hx hjz).trans hj)
    rw [add_off, ← Nat.add_assoc] at h2
    exact h2
def Oi (w : World) (base : Nat) (v : Value) (l : List Int) : Prop := w.ownsRow base 3 1 v l.length (l.flatMap icl)
def Oh (w : World) (base : Nat) (v : Value) (l : List (List Int)) : Prop := w.ownsRow base 35 32 v l.length (l.flatMap bv)
theorem Oi.is {w : World} {base : Nat} {v : Value} {l : List Int} (h : Oi w base v l) : Is w v l := own_rs h fun _ _ => rfl
theorem Oh.hs {w : World} {base : Nat} {v : Value} {l : List (List Int)} (h : Oh w base v l) (hl : HsOk l) : Hs w v l := own_rs h fun x hx => by rw [bv_len]; exact (hl x hx).1
theorem Oi.nil (w : World) (b : Nat) : Oi w b (.slice none 0 0) [] := own_nil _ _ _ _
theorem Oh.nil (w : World) (b : Nat) : Oh w b (.slice none 0 0) [] := own_nil _ _ _ _
theorem flat_snoc {α : Type} (f : α → List Value) (l : List α) (x : α) : (l ++ [x]).flatMap f = l.flatMap f ++ f x := by
  rw [List.flatMap_append]
  congr 1
  exact List.append_nil _
def LfIn (w : World) (base : Nat) (v : Value) (x : Lf) : Prop := LfOk w x ∧ ∀ b, x.pv.ownBlock = some b → base ≤ b ∧ b < w.heap.size ∧ v.ownBlock ≠ some b
def Lo (w : World) (base : Nat) (v : Value) (l : List Lf) : Prop := w.ownsRow base 198 7 v l.length (l.flatMap lfc) ∧ ∀ x ∈ l, LfIn w base v x
theorem Lo.nil (w : World) (b : Nat) : Lo w b (.slice none 0 0) [] := ⟨own_nil _ _ _ _, fun _ h => (by cases h)⟩
theorem Lo.base {w : World} {b b' : Nat} {v : Value} {l : List Lf} (h : Lo w b v l) (hb : b' ≤ b) : Lo w b' v l :=
  ⟨own_base h.1 hb, fun x hx => ⟨(h.2 x hx).1, fun c hc => ⟨Nat.le_trans hb ((h.2 x hx).2 c hc).1, ((h.2 x hx).2 c hc).2⟩⟩⟩
theorem LfIn.keep {X : Nat → Prop} {w w' : World} {base : Nat} {v : Value} {x : Lf} (h : LfIn w base v x) (hT : Tr X w w') (hX : ∀ b, base ≤ b → v.ownBlock ≠ some b → ¬ X b) : LfIn w' base v x :=
  ⟨⟨h.1.p.keep hT fun b hb => hX b (h.2 b hb).1 (h.2 b hb).2.2, h.1.h, h.1.a, h.1.i, h.1.t⟩, fun b hb => ⟨(h.2 b hb).1, Nat.lt_of_lt_of_le (h.2 b hb).2.1 hT.size, (h.2 b hb).2.2⟩⟩
theorem Lo.keep {X : Nat → Prop} {w w' : World} {base : Nat} {v : Value} {l : List Lf} (h : Lo w base v l) (hT : Tr X w w') (hX : ∀ b, base ≤ b → ¬ X b) : Lo w' base v l :=
  ⟨own_tr h.1 hT fun b hb => hX b (own_lt h.1 b hb).1, fun x hx => (h.2 x hx).keep hT fun b hb _ => hX b hb⟩
theorem Lo.below {w w' : World} {base : Nat} {v : Value} {l : List Lf} (h : Lo w base v l) (hb : Below w.heap.size w w') : Lo w' base v l := h.keep (X := None_) (Tr.of hb) (fun _ _ => id)
theorem Lo.ls {w : World} {base : Nat} {v : Value} {l : List Lf} (h : Lo w base v l) : Ls w v l := ⟨own_rs h.1 fun _ _ => rfl, fun x hx => (h.2 x hx).1⟩
theorem Lo.push {w w' : World} {base lo hi : Nat} {v v' : Value} {l : List Lf} {x : Lf} (h : Lo w base v l) (hT : Tr (fun c => v.ownBlock = some c) w w') (ho : w'.ownsRow base 198 7 v' (l.length + 1) (l.flatMap lfc ++ lfc x))
    (hG : Grew v ⟨v', lo, hi⟩) (hlo : w.heap.size ≤ lo) (he : LfIn w base v x) : Lo w' base v' (l ++ [x]) := by
  refine ⟨by rw [List.length_append, flat_snoc]; exact ho, fun y hy => ?_⟩
  have hy' : LfIn w base v y := by
    rcases List.mem_append.1 hy with hy | hy
    · exact h.2 y hy
    · rw [List.mem_singleton.1 hy]; exact he
  have h2 := hy'.keep hT fun b _ hv hb => hv hb
  refine ⟨h2.1, fun b hb => ⟨(h2.2 b hb).1, (h2.2 b hb).2.1, fun hv => ?_⟩⟩
  have h3 := hy'.2 b hb
  rcases hG with hG | ⟨hG, -⟩
  · exact h3.2.2 (hG.symm.trans hv)
  · have h4 : some lo = some b := hG.symm.trans hv
    injection h4 with h4
    omega
set_option maxRecDepth 100000 in
theorem appT22 : AppT 22 3 1 := ⟨rfl, ⟨_, _, rfl, rfl, rfl, by decide, rfl⟩, by decide⟩
set_option maxRecDepth 100000 in
theorem appT111 : AppT 111 35 32 := ⟨rfl, ⟨_, _, rfl, rfl, rfl, by decide, rfl⟩, by decide⟩
set_option maxRecDepth 100000 in
theorem appT112 : AppT 112 198 7 := ⟨rfl, ⟨_, _, rfl, rfl, rfl, by decide, rfl⟩, by decide⟩
end Go.Proofs.Ytpdenhmkpiafiaa
namespace Go.Proofs.Ytpdenhmkpiafiaa
open Go Go.RowKit K6
structure Fmt {α : Type} (rd : St → α × St) (en : α → List Int) (ok : α → Prop) : Prop where
  put : ∀ x r, ok x → rd (0, en x ++ r) = (x, 0, r)
  cut : ∀ x j, ok x → j < (en x).length → (rd (0, (en x).take j)).2 = Short
  stay : ∀ e, e ≠ 0 → (rd (e, [])).2 = (e, [])
  cl : ∀ s : St, (s.1 ≠ 0 → s.2 = []) → ((rd s).2.1 ≠ 0 → (rd s).2.2 = [])
  by_ : ∀ s : St, By s.2 → By (rd s).2.2
  back : ∀ xs x r, By xs → rd (0, xs) = (x, 0, r) → xs = en x ++ r ∧ ok x
def gN (most : Int) (s : St) : Int × St := (((gV most s).1 : Int), (gV most s).2)
theorem fN (most : Int) (hm : most < 9223372036854775808) : Fmt (gN most) (fun n => enc n.toNat) (fun n => 0 ≤ n ∧ n ≤ most) where
  put n r h := by
    unfold gN
    rw [gV_enc (most := most) r (by omega) (by omega)]
    show ((n.toNat : Int), (0, r)) = _
    rw [Int.toNat_of_nonneg h.1]
  cut n j h hj := by
    unfold gN
    rw [gV_cut (by omega) hj]
  stay e he := by
    unfold gN
    rw [gV_fault he]
  cl s h h2 := by
    unfold gN gV svR at *
    simp only at *
    rw [if_neg h2]
  by_ s h := gV_by h
  back xs n r hb h := by
    unfold gN at h
    obtain ⟨m, e, r', hg⟩ : ∃ m e r', gV most (0, xs) = (m, e, r') := ⟨_, _, _, rfl⟩
    rw [hg] at h
    simp only [Prod.mk.injEq] at h
    obtain ⟨rfl, rfl, rfl⟩ := h
    obtain ⟨h1, h2, h3⟩ := gV_back hb hg
    exact ⟨by rw [Int.toNat_natCast]; exact h1, by omega, h2⟩
theorem fA : Fmt gA amtL (fun a => a < M) where
  put a r h := gA_amt r h
  cut a j h hj := by rw [gA_cut h hj]
  stay e he := by rw [gA_fault he]
  cl s h h2 := by
    revert h2
    unfold gA
    split
    · split
      · intro _; rfl
      · split
        · intro _; rfl
        · split
          · intro h2; exact absurd rfl h2
          · intro _; rfl
    · intro _; rfl
  by_ s h := gA_by h
  back xs a r hb h := gA_back hb h
theorem gH_by {s : St} (h : By s.2) : By (gH s).2.2 := by
  unfold gH gT tkR
  simp only
  split
  · split
    · exact h.drop _
    · exact By.nil
  · exact By.nil
theorem fH : Fmt gH (fun y => y) (fun y => y.length = 32 ∧ By y) where
  put y r h := by
    unfold gH gT tkO tkE tkR
    have h1 : 32 ≤ (y ++ r).length := by rw [List.length_append, h.1]; omega
    simp only [if_pos h1, if_true]
    rw [← h.1, List.take_left, List.drop_left]
  cut y j h hj := by
    unfold gH gT tkO tkE tkR
    have h1 : ¬ 32 ≤ (y.take j).length := by rw [List.length_take]; omega
    simp only [if_neg h1, if_true]
  stay e he := by rw [gH_fault he]
  cl s h h2 := by
    revert h2
    unfold gH gT tkO tkE tkR
    simp only
    by_cases h0 : s.1 = 0
    · by_cases h1 : 32 ≤ s.2.length
      · simp only [if_pos h0, if_pos h1]; intro h2; exact absurd rfl h2
      · simp only [if_pos h0, if_neg h1]; intro _; trivial
    · simp only [if_neg h0]; intro _; trivial
  by_ s h := gH_by h
  back xs y r hb h := by
    unfold gH gT tkO tkE tkR at h
    by_cases h1 : 32 ≤ xs.length
    · simp only [if_pos h1, if_true, Prod.mk.injEq, true_and] at h
      obtain ⟨rfl, rfl⟩ := h
      exact ⟨(List.take_append_drop 32 xs).symm, by rw [List.length_take]; omega, hb.take _⟩
    · simp only [if_neg h1, if_true, Prod.mk.injEq] at h
      exact absurd h.2.1 (by decide)
def rSeq {α β : Type} (r1 : St → α × St) (r2 : α → St → β × St) (s : St) : (α × β) × St := (((r1 s).1, (r2 (r1 s).1 (r1 s).2).1), (r2 (r1 s).1 (r1 s).2).2)
theorem Fmt.seq {α β : Type} {r1 : St → α × St} {en1 : α → List Int} {ok1 : α → Prop} {r2 : α → St → β × St} {en2 : α → β → List Int} {ok2 : α → β → Prop} (h1 : Fmt r1 en1 ok1) (h2 : ∀ x, Fmt (r2 x) (en2 x) (ok2 x)) :
    Fmt (rSeq r1 r2) (fun p => en1 p.1 ++ en2 p.1 p.2) (fun p => ok1 p.1 ∧ ok2 p.1 p.2) where
  put p r h := by
    unfold rSeq
    rw [List.append_assoc, h1.put _ _ h.1]
    simp only
    rw [(h2 _).put _ _ h.2]
  cut p j h hj := by
    unfold rSeq
    rcases take_app_cases (en1 p.1) (en2 p.1 p.2) j with ⟨h3, h4⟩ | ⟨h3, h4⟩
    · rw [h4]
      simp only
      rw [h1.cut _ _ h.1 h3]
      exact (h2 _).stay 3 (by decide)
    · rw [h4, h1.put _ _ h.1]
      simp only
      rw [List.length_append] at hj
      exact (h2 _).cut _ _ h.2 (by omega)
  stay e he := by
    unfold rSeq
    simp only
    rw [h1.stay e he]
    exact (h2 _).stay e he
  cl s h := by
    unfold rSeq
    exact (h2 _).cl _ (h1.cl s h)
  by_ s h := by
    unfold rSeq
    exact (h2 _).by_ _ (h1.by_ s h)
  back xs p r hb h := by
    unfold rSeq at h
    obtain ⟨a, e, ys, hg⟩ : ∃ a e ys, r1 (0, xs) = (a, e, ys) := ⟨_, _, _, rfl⟩
    have hc := h1.cl (0, xs) (fun h => absurd rfl h)
    have hb1 := h1.by_ (0, xs) hb
    rw [hg] at h hc hb1
    simp only [Prod.mk.injEq] at h hc hb1
    by_cases he : e = 0
    · subst he
      obtain ⟨h3, h4⟩ := h1.back xs a ys hb hg
      obtain ⟨b, e2, zs, hg2⟩ : ∃ b e2 zs, r2 a (0, ys) = (b, e2, zs) := ⟨_, _, _, rfl⟩
      rw [hg2] at h
      obtain ⟨rfl, h5⟩ := h
      simp only [Prod.mk.injEq] at h5
      obtain ⟨rfl, rfl⟩ := h5
      obtain ⟨h6, h7⟩ := (h2 a).back ys b zs hb1 hg2
      exact ⟨by rw [h3, h6, List.append_assoc], h4, h7⟩
    · rw [hc he] at h
      have h3 := (h2 a).stay e he
      rw [h.2] at h3
      simp only [Prod.mk.injEq] at h3
      exact absurd h3.1.symm he
def gMany {α : Type} (one : St → α × St) : Nat → St → List α × St
  | 0, s => ([], s)
  | n + 1, s => if s.1 = 0 then ((one s).1 :: (gMany one n (one s).2).1, (gMany one n (one s).2).2) else ([], s)
theorem gMany_stop {α : Type} (one : St → α × St) (n : Nat) {s : St} (h : s.1 ≠ 0) : gMany one n s = ([], s) := by
  cases n with
  | zero => rfl
  | succ n => show (if _ then _ else _) = _; rw [if_neg h]
theorem gMany_go {α : Type} (one : St → α × St) (n : Nat) {s : St} (h : s.1 = 0) : gMany one (n + 1) s = ((one s).1 :: (gMany one n (one s).2).1, (gMany one n (one s).2).2) := by
  show (if _ then _ else _) = _
  rw [if_pos h]
theorem gMany_len {α : Type} (one : St → α × St) (n : Nat) : ∀ s : St, (gMany one n s).1.length ≤ n := by
  induction n with
  | zero => intro s; exact Nat.le_refl 0
  | succ n ih =>
    intro s
    by_cases h : s.1 = 0
    · rw [gMany_go one n h]; exact Nat.succ_le_succ (ih _)
    · rw [gMany_stop one _ h]; exact Nat.zero_le _
theorem Fmt.many {α : Type} {rd : St → α × St} {en : α → List Int} {ok : α → Prop} (h : Fmt rd en ok) (n : Nat) : Fmt (gMany rd n) (fun l => l.flatMap en) (fun l => l.length = n ∧ ∀ x ∈ l, ok x) where
  put l r hl := by
    obtain ⟨rfl, hl⟩ := hl
    induction l with
    | nil => rfl
    | cons a l ih =>
      rw [List.length_cons, gMany_go _ _ rfl, List.flatMap_cons, List.append_assoc, h.put _ _ (hl a (List.mem_cons_self ..))]
      simp only
      rw [ih fun x hx => hl x (List.mem_cons_of_mem _ hx)]
  cut l j hl hj := by
    obtain ⟨rfl, hl⟩ := hl
    induction l generalizing j with
    | nil => simp at hj
    | cons a l ih =>
      have ha := hl a (List.mem_cons_self ..)
      rw [List.length_cons, gMany_go _ _ rfl]
      rw [List.flatMap_cons] at hj ⊢
      rcases take_app_cases (en a) (l.flatMap en) j with ⟨h3, h4⟩ | ⟨h3, h4⟩
      · rw [h4]
        simp only
        rw [h.cut _ _ ha h3, gMany_stop _ _ (by decide)]
      · rw [h4, h.put _ _ ha]
        simp only
        rw [List.length_append] at hj
        exact ih _ (by omega) fun x hx => hl x (List.mem_cons_of_mem _ hx)
  stay e he := by rw [gMany_stop _ _ he]
  cl := by
    induction n with
    | zero => intro s h; exact h
    | succ n ih =>
      intro s hs
      by_cases h0 : s.1 = 0
      · rw [gMany_go _ _ h0]; exact ih _ (h.cl s hs)
      · rw [gMany_stop _ _ h0]; exact hs
  by_ := by
    induction n with
    | zero => intro s h; exact h
    | succ n ih =>
      intro s hs
      by_cases h0 : s.1 = 0
      · rw [gMany_go _ _ h0]; exact ih _ (h.by_ s hs)
      · rw [gMany_stop _ _ h0]; exact hs
  back := by
    induction n with
    | zero =>
      intro xs l r hb hr
      have hr' : (([] : List α), ((0 : Int), xs)) = (l, 0, r) := hr
      simp only [Prod.mk.injEq, true_and] at hr'
      obtain ⟨rfl, rfl⟩ := hr'
      exact ⟨rfl, rfl, fun x hx => (by cases hx)⟩
    | succ n ih =>
      intro xs l r hb hr
      rw [gMany_go _ _ rfl] at hr
      obtain ⟨a, e, ys, hg⟩ : ∃ a e ys, rd (0, xs) = (a, e, ys) := ⟨_, _, _, rfl⟩
      have hc := h.cl (0, xs) (fun h => absurd rfl h)
      have hb1 := h.by_ (0, xs) hb
      rw [hg] at hr hc hb1
      simp only [Prod.mk.injEq] at hr hc hb1
      by_cases he : e = 0
      · subst he
        obtain ⟨h3, h4⟩ := h.back xs a ys hb hg
        obtain ⟨l2, e2, zs, hg2⟩ : ∃ b e2 zs, gMany rd n (0, ys) = (b, e2, zs) := ⟨_, _, _, rfl⟩
        rw [hg2] at hr
        obtain ⟨rfl, h5⟩ := hr
        simp only [Prod.mk.injEq] at h5
        obtain ⟨rfl, rfl⟩ := h5
        obtain ⟨h6, h7, h8⟩ := ih ys l2 zs hb1 hg2
        refine ⟨by rw [h3, h6, List.flatMap_cons, List.append_assoc], by rw [List.length_cons, h7], fun x hx => ?_⟩
        rcases List.mem_cons.1 hx with rfl | hx
        · exact h4
        · exact h8 x hx
      · rw [gMany_stop _ _ he] at hr
        have h3 := hr.2
        simp only [Prod.mk.injEq] at h3
        exact absurd h3.1 he
theorem Fmt.iso {α β : Type} {rd : St → α × St} {en : α → List Int} {ok : α → Prop} (h : Fmt rd en ok) (f : α → β) (g : β → α) (hgf : ∀ x, ok x → g (f x) = x) :
    Fmt (fun s => (f (rd s).1, (rd s).2)) (fun y => en (g y)) (fun y => ok (g y) ∧ f (g y) = y) where
  put y r hy := by
    rw [h.put _ _ hy.1, hy.2]
  cut y j hy hj := h.cut _ _ hy.1 hj
  stay e he := h.stay e he
  cl s hs := h.cl s hs
  by_ s hs := h.by_ s hs
  back xs y r hb hr := by
    obtain ⟨a, e, ys, hg⟩ : ∃ a e ys, rd (0, xs) = (a, e, ys) := ⟨_, _, _, rfl⟩
    rw [hg] at hr
    simp only [Prod.mk.injEq] at hr
    obtain ⟨rfl, rfl, rfl⟩ := hr
    obtain ⟨h1, h2⟩ := h.back xs a ys hb hg
    rw [hgf a h2]
    exact ⟨h1, h2, rfl⟩
theorem Fmt.unit {α : Type} (x0 : α) : Fmt (fun s => (x0, s)) (fun _ => []) (fun x => x = x0) where
  put x r hx := by rw [hx]; rfl
  cut x j _ hj := absurd hj (Nat.not_lt_zero j)
  stay e _ := rfl
  cl s hs := hs
  by_ s hs := hs
  back xs x r _ hr := by
    simp only [Prod.mk.injEq, true_and] at hr
    exact ⟨hr.2, hr.1.symm⟩
theorem Fmt.cond {α : Type} (c : Bool) {r1 r2 : St → α × St} {en1 en2 : α → List Int} {ok1 ok2 : α → Prop} (h1 : Fmt r1 en1 ok1) (h2 : Fmt r2 en2 ok2) :
    Fmt (if c = true then r1 else r2) (if c = true then en1 else en2) (if c = true then ok1 else ok2) := by
  cases c
  · exact h2
  · exact h1
theorem Fmt.ext {α : Type} {rd rd' : St → α × St} {en en' : α → List Int} {ok ok' : α → Prop} (h : Fmt rd en ok) (h1 : rd = rd') (h2 : en = en') (h3 : ok = ok') : Fmt rd' en' ok' := by
  subst h1; subst h2; subst h3; exact h
def MI {α : Type} (one : St → α × St) (gg : Nat) (e : Int) (ys : List Int) (K LK : List α) (e3 : Int) (x3 : List Int) : Prop := ∃ L', gMany one gg (e, ys) = (L', e3, x3) ∧ K ++ L' = LK
theorem MI.start {α : Type} {one : St → α × St} {n : Nat} {e e3 : Int} {ys x3 : List Int} {L : List α} (h : gMany one n (e, ys) = (L, e3, x3)) : MI one n e ys [] L e3 x3 := ⟨L, h, rfl⟩
theorem MI.stop {α : Type} {one : St → α × St} {gg : Nat} {e e3 : Int} {ys x3 : List Int} {K LK : List α} (h : MI one gg e ys K LK e3 x3) (h0 : e ≠ 0 ∨ gg = 0) : K = LK ∧ e = e3 ∧ ys = x3 := by
  obtain ⟨L', h1, h2⟩ := h
  have h3 : gMany one gg (e, ys) = ([], e, ys) := by
    rcases h0 with h0 | rfl
    · exact gMany_stop one gg h0
    · rfl
  rw [h3] at h1
  simp only [Prod.mk.injEq] at h1
  obtain ⟨rfl, rfl, rfl⟩ := h1
  exact ⟨by rw [← h2, List.append_nil], rfl, rfl⟩
theorem MI.step {α : Type} {one : St → α × St} {gg : Nat} {e3 e4 : Int} {ys x3 y4 : List Int} {K LK : List α} {a : α} (h : MI one (gg + 1) 0 ys K LK e3 x3) (hg : one (0, ys) = (a, e4, y4)) : MI one gg e4 y4 (K ++ [a]) LK e3 x3 := by
  obtain ⟨L', h1, h2⟩ := h
  rw [gMany_go one gg rfl, hg] at h1
  simp only [Prod.mk.injEq] at h1
  exact ⟨_, Prod.ext rfl h1.2, by rw [← h2, ← h1.1, List.append_assoc]; rfl⟩
end Go.Proofs.Ytpdenhmkpiafiaa
namespace Go.Proofs.Ytpdenhmkpiafiaa
open Go Go.RowKit K6
theorem lA0 (x : Lf) : (lfc x).toArray[0]? = some (.int .i64 x.i) := rfl
theorem lA1 (x : Lf) : (lfc x).toArray[1]? = some (.int .i64 x.t) := rfl
theorem lA6 (x : Lf) : (lfc x).toArray[6]? = some (.slice x.pq x.p.length x.pc) := rfl
theorem cA0 (c : Cm) : c.cs.toArray[0]? = some (.int .i64 c.r) := rfl
theorem cA1 (c : Cm) : c.cs.toArray[1]? = some (.int .i64 c.x) := rfl
theorem cA2 (c : Cm) : c.cs.toArray[2]? = some (.int .i64 c.e) := rfl
theorem cA35 {c : Cm} (h : c.tok.length = 32) : c.cs.toArray[35]? = some (.slice c.pq c.p.length c.pc) := by rw [List.getElem?_toArray]; exact Cm.at_ h 0
theorem cA36 {c : Cm} (h : c.tok.length = 32) : c.cs.toArray[36]? = some (.slice c.lq c.l.length c.lc) := by rw [List.getElem?_toArray]; exact Cm.at_ h 1
theorem cA37 {c : Cm} (h : c.tok.length = 32) : c.cs.toArray[37]? = some (.int .i64 c.z) := by rw [List.getElem?_toArray]; exact Cm.at_ h 2
set_option maxRecDepth 100000 in
set_option maxHeartbeats 16000000 in
theorem sameLeaf_at (x y : Lf) (w : World) (hx : LfOk w x) (hy : LfOk w y) (hL : x.p.length ≤ 140737488355328) :
    Calls Try.prog 241 #[.agg (lfc x).toArray, .agg (lfc y).toArray] w fun r w' => r = .returned (.bool (decide (x.key = y.key))) ∧ Below w.heap.size w w' := by
  obtain ⟨b, hb⟩ : ∃ b, decide (x.key = y.key) = b := ⟨_, rfl⟩
  rw [hb]
  have kH := Lib.hid fun wx (hbw : Below w.heap.size w wx) => hsEq_at x.pv y.pv x.p y.p wx (hx.p.below hbw) (hy.p.below hbw) (fun z hz => (hx.h z hz).1) (fun z hz => (hy.h z hz).1) hL
  have hxa := hx.a
  have hya := hy.a
  have q1 : ∀ wx, (Op.equalIn 10000 31 (.agg (W4 x.a)) (.agg (W4 y.a))).run Try.prog wx = .ok (decide (x.a = y.a)) wx := fun wx => eqU hxa hya wx
  clear hx hy hL hxa hya
  go_enter Try.func241, Try.ntmps241
  go_upto_region 1 with (fail)
  refine wp_abs (Mem w [(w.heap.size, 198, (lfc x).toArray), (w.heap.size + 1, 198, (lfc y).toArray)]) ⟨by go_grown, by (repeat (first | (refine Row.new_at ?_; simp; done) | refine Row.alloc ?_ _)), by (repeat (first | (refine Row.new_at ?_; simp; done) | refine Row.alloc ?_ _)), trivial⟩ ?_
  intro w0 hM
  obtain ⟨hl, r2, r3, -⟩ := hM
  by_cases e1 : x.i = y.i
  · have h1 : (x.i == y.i) = true := by rw [beq_iff_eq]; exact e1
    by_cases e2 : x.t = y.t
    · have h2 : (x.t == y.t) = true := by rw [beq_iff_eq]; exact e2
      by_cases e3 : x.a = y.a
      · have hbb : decide (x.p = y.p) = b := by
          rw [← hb]
          unfold Lf.key
          simp [e1, e2, e3]
        have q2 : ∀ wx, (Op.equalIn 10000 31 (.agg (W4 x.a)) (.agg (W4 y.a))).run Try.prog wx = .ok true wx := fun wx => by rw [q1, decide_eq_true e3]
        clear q1
        rw [hbb] at kH
        have HB := Lib.hid (show _ ∧ _ from ⟨e1, e3⟩)
        clear hb hbb e1 e2 e3
        simp only [Lf.pv] at kH
        let L : List Sp := [sV 24 [] [] (fun u => u = .bool b)]
        refine wp_region_six0 (shs L) (look6 L) (None_) (by kernel_rfl) (by kernel_rfl) (mk_St L [] [] (by kernel_rfl) (by kernel_rfl) ⟨ok_V ⟨_, rfl⟩, trivial⟩ (by simp)) ?_
        intro QQ hQ
        refine stepK rfl (by kernel_rfl) (fun K hK => ?_); go_simp
        apply Exists.intro; apply And.intro; (focus (intro wk hk; go_simp; exact ⟨rfl, rfl⟩)); refine hK _ _ ?_; clear hK K
        refine stepK rfl (by kernel_rfl) (fun K hK => ?_); go_simp
        apply Exists.intro; apply And.intro; (focus (intro wk hk; have cc : wk.cell? ⟨w.heap.size, 0, none⟩ = some (.int .i64 x.i) := ((K6.Row.tr r2 hk id).cell 0).trans (lA0 x); go_simp; exact ⟨rfl, rfl⟩)); refine hK _ _ ?_; clear hK K
        refine stepK rfl (by kernel_rfl) (fun K hK => ?_); go_simp
        apply Exists.intro; apply And.intro; (focus (intro wk hk; go_simp; exact ⟨rfl, rfl⟩)); refine hK _ _ ?_; clear hK K
        refine stepK rfl (by kernel_rfl) (fun K hK => ?_); go_simp
        apply Exists.intro; apply And.intro; (focus (intro wk hk; have cc : wk.cell? ⟨w.heap.size + 1, 0, none⟩ = some (.int .i64 y.i) := ((K6.Row.tr r3 hk id).cell 0).trans (lA0 y); go_simp; exact ⟨rfl, rfl⟩)); refine hK _ _ ?_; clear hK K
        refine stepK rfl (by kernel_rfl) (fun K hK => ?_); go_simp
        apply Exists.intro; apply And.intro; (focus (intro wk hk; go_simp; exact ⟨rfl, rfl⟩)); refine hK _ _ ?_; clear hK K
        refine stepK rfl (by kernel_rfl) (fun K hK => ?_); go_simp
        apply Exists.intro; apply And.intro; (focus (intro wk hk; go_simp; exact ⟨rfl, rfl⟩)); refine hK _ _ ?_; clear hK K
        refine stepK rfl (by kernel_rfl) (fun K hK => ?_); go_simp
        first | (refine hK _ _ ?_; clear hK K) | (apply Exists.intro; apply And.intro; (focus (intro wk hk; go_simp; exact ⟨rfl, rfl⟩)); refine hK _ _ ?_; clear hK K)
        refine stepK rfl (by kernel_rfl) (fun K hK => ?_); go_simp
        first | (refine hK _ _ ?_; clear hK K) | (apply Exists.intro; apply And.intro; (focus (intro wk hk; have cc : wk.cell? ⟨w.heap.size, 1, none⟩ = some (.int .i64 x.t) := ((K6.Row.tr r2 hk id).cell 1).trans (lA1 x); go_simp; exact ⟨rfl, rfl⟩)); refine hK _ _ ?_; clear hK K)
        refine stepK rfl (by kernel_rfl) (fun K hK => ?_); go_simp
        first | (refine hK _ _ ?_; clear hK K) | (apply Exists.intro; apply And.intro; (focus (intro wk hk; go_simp; exact ⟨rfl, rfl⟩)); refine hK _ _ ?_; clear hK K)
        refine stepK rfl (by kernel_rfl) (fun K hK => ?_); go_simp
        first | (refine hK _ _ ?_; clear hK K) | (apply Exists.intro; apply And.intro; (focus (intro wk hk; have cc : wk.cell? ⟨w.heap.size + 1, 1, none⟩ = some (.int .i64 y.t) := ((K6.Row.tr r3 hk id).cell 1).trans (lA1 y); go_simp; exact ⟨rfl, rfl⟩)); refine hK _ _ ?_; clear hK K)
        refine stepK rfl (by kernel_rfl) (fun K hK => ?_); go_simp
        first | (refine hK _ _ ?_; clear hK K) | (apply Exists.intro; apply And.intro; (focus (intro wk hk; go_simp; exact ⟨rfl, rfl⟩)); refine hK _ _ ?_; clear hK K)
        refine stepK rfl (by kernel_rfl) (fun K hK => ?_); go_simp
        apply Exists.intro; apply And.intro; (focus (intro wk hk; go_simp; exact ⟨rfl, rfl⟩)); refine hK _ _ ?_; clear hK K
        refine stepK rfl (by kernel_rfl) (fun K hK => ?_); go_simp
        apply Exists.intro; apply And.intro; (focus (intro wk hk; go_simp; exact ⟨rfl, rfl⟩)); refine hK _ _ ?_; clear hK K
        refine stepK rfl (by kernel_rfl) (fun K hK => ?_); go_simp
        first | (refine hK _ _ ?_; clear hK K) | (apply Exists.intro; apply And.intro; (focus (intro wk hk; go_simp; exact ⟨rfl, rfl⟩)); refine hK _ _ ?_; clear hK K)
        refine stepK rfl (by kernel_rfl) (fun K hK => ?_); go_simp
        first | (refine hK _ _ ?_; clear hK K) | (apply Exists.intro; apply And.intro; (focus exact kLoadMid rfl rfl aggT31 r2 (lfc_a x) (W4_size x.a) id); refine hK _ _ ?_; clear hK K)
        refine stepK rfl (by kernel_rfl) (fun K hK => ?_); go_simp
        first | (refine hK _ _ ?_; clear hK K) | (apply Exists.intro; apply And.intro; (focus (intro wk hk; go_simp; exact ⟨rfl, rfl⟩)); refine hK _ _ ?_; clear hK K)
        refine stepK rfl (by kernel_rfl) (fun K hK => ?_); go_simp
        first | (refine hK _ _ ?_; clear hK K) | (apply Exists.intro; apply And.intro; (focus exact kLoadMid rfl rfl aggT31 r3 (lfc_a y) (W4_size y.a) id); refine hK _ _ ?_; clear hK K)
        refine stepK rfl (by kernel_rfl) (fun K hK => ?_); go_simp
        first | (refine hK _ _ ?_; clear hK K) | (apply Exists.intro; apply And.intro; (focus (intro wk hk; go_simp; exact ⟨rfl, rfl⟩)); refine hK _ _ ?_; clear hK K)
        refine stepK rfl (by kernel_rfl) (fun K hK => ?_); go_simp
        apply Exists.intro; apply And.intro; (focus (intro wk hk; go_simp; exact ⟨rfl, rfl⟩)); refine hK _ _ ?_; clear hK K
        refine stepK rfl (by kernel_rfl) (fun K hK => ?_); go_simp
        apply Exists.intro; apply And.intro; (focus (intro wk hk; go_simp; exact ⟨rfl, rfl⟩)); refine hK _ _ ?_; clear hK K
        refine stepK rfl (by kernel_rfl) (fun K hK => ?_); go_simp
        first | (refine hK _ _ ?_; clear hK K) | (apply Exists.intro; apply And.intro; (focus (intro wk hk; go_simp; exact ⟨rfl, rfl⟩)); refine hK _ _ ?_; clear hK K)
        refine stepK rfl (by kernel_rfl) (fun K hK => ?_); go_simp
        first | (refine hK _ _ ?_; clear hK K) | (apply Exists.intro; apply And.intro; (focus (intro wk hk; have cc : wk.cell? ⟨w.heap.size, 6, none⟩ = some (.slice x.pq x.p.length x.pc) := ((K6.Row.tr r2 hk id).cell 6).trans (lA6 x); go_simp; exact ⟨rfl, rfl⟩)); refine hK _ _ ?_; clear hK K)
        refine stepK rfl (by kernel_rfl) (fun K hK => ?_); go_simp
        first | (refine hK _ _ ?_; clear hK K) | (apply Exists.intro; apply And.intro; (focus (intro wk hk; go_simp; exact ⟨rfl, rfl⟩)); refine hK _ _ ?_; clear hK K)
        refine stepK rfl (by kernel_rfl) (fun K hK => ?_); go_simp
        first | (refine hK _ _ ?_; clear hK K) | (apply Exists.intro; apply And.intro; (focus (intro wk hk; have cc : wk.cell? ⟨w.heap.size + 1, 6, none⟩ = some (.slice y.pq y.p.length y.pc) := ((K6.Row.tr r3 hk id).cell 6).trans (lA6 y); go_simp; exact ⟨rfl, rfl⟩)); refine hK _ _ ?_; clear hK K)
        refine stepS _ rfl (by kernel_rfl) (fun K hK => ?_); go_simp
        refine ⟨?_, ?_⟩
        · intro wk hk hg hu; go_simp; refine upon_enter ((kH.out _ (hl.trans (hk.below.mono hl.size))).mono ?_); rintro e w' ⟨rfl, hb⟩; exact ⟨_, rfl, left_V (p := fun u => u = .bool b) rfl (hb) rfl⟩
        rintro ⟨v24, lo24, hi24⟩ - - (rfl : v24 = _)
        refine hK _ _ ?_; clear hK K
        refine stepK rfl (by kernel_rfl) (fun K hK => ?_); go_simp
        apply Exists.intro; apply And.intro; (focus (intro wk hk; go_simp; exact ⟨rfl, rfl⟩)); refine hK _ _ ?_; clear hK K
        refine stepK rfl (by kernel_rfl) (fun K hK => ?_); go_simp
        apply Exists.intro; apply And.intro; (focus (intro wk hk; go_simp; exact ⟨rfl, rfl⟩)); refine hK _ _ ?_; clear hK K
        refine stepN ?_
        refine hQ _ _ ?_
        intro w9 hT hG hF
        have H9 := Lib.hid (hl.trans (hT.below.mono hl.size))
        clear hT hG hF hQ QQ L hl r2 r3
        go_wp2_with fail
        go_ret
        exact ⟨rfl, H9.out⟩
      · have hbb : b = false := by rw [← hb]; exact decide_eq_false (fun h => e3 (by unfold Lf.key at h; simp only [Prod.mk.injEq] at h; exact h.2.2.1))
        subst hbb
        have q2 : ∀ wx, (Op.equalIn 10000 31 (.agg (W4 x.a)) (.agg (W4 y.a))).run Try.prog wx = .ok false wx := fun wx => by rw [q1, decide_eq_false e3]
        clear q1 hb e1 e2 e3 kH
        let L : List Sp := []
        refine wp_region_six0 (shs L) (look6 L) (None_) (by kernel_rfl) (by kernel_rfl) (mk_St L [] [] (by kernel_rfl) (by kernel_rfl) trivial (by simp)) ?_
        intro QQ hQ
        refine stepK rfl (by kernel_rfl) (fun K hK => ?_); go_simp
        apply Exists.intro; apply And.intro; (focus (intro wk hk; go_simp; exact ⟨rfl, rfl⟩)); refine hK _ _ ?_; clear hK K
        refine stepK rfl (by kernel_rfl) (fun K hK => ?_); go_simp
        apply Exists.intro; apply And.intro; (focus (intro wk hk; have cc : wk.cell? ⟨w.heap.size, 0, none⟩ = some (.int .i64 x.i) := ((K6.Row.tr r2 hk id).cell 0).trans (lA0 x); go_simp; exact ⟨rfl, rfl⟩)); refine hK _ _ ?_; clear hK K
        refine stepK rfl (by kernel_rfl) (fun K hK => ?_); go_simp
        apply Exists.intro; apply And.intro; (focus (intro wk hk; go_simp; exact ⟨rfl, rfl⟩)); refine hK _ _ ?_; clear hK K
        refine stepK rfl (by kernel_rfl) (fun K hK => ?_); go_simp
        apply Exists.intro; apply And.intro; (focus (intro wk hk; have cc : wk.cell? ⟨w.heap.size + 1, 0, none⟩ = some (.int .i64 y.i) := ((K6.Row.tr r3 hk id).cell 0).trans (lA0 y); go_simp; exact ⟨rfl, rfl⟩)); refine hK _ _ ?_; clear hK K
        refine stepK rfl (by kernel_rfl) (fun K hK => ?_); go_simp
        apply Exists.intro; apply And.intro; (focus (intro wk hk; go_simp; exact ⟨rfl, rfl⟩)); refine hK _ _ ?_; clear hK K
        refine stepK rfl (by kernel_rfl) (fun K hK => ?_); go_simp
        apply Exists.intro; apply And.intro; (focus (intro wk hk; go_simp; exact ⟨rfl, rfl⟩)); refine hK _ _ ?_; clear hK K
        refine stepK rfl (by kernel_rfl) (fun K hK => ?_); go_simp
        first | (refine hK _ _ ?_; clear hK K) | (apply Exists.intro; apply And.intro; (focus (intro wk hk; go_simp; exact ⟨rfl, rfl⟩)); refine hK _ _ ?_; clear hK K)
        refine stepK rfl (by kernel_rfl) (fun K hK => ?_); go_simp
        first | (refine hK _ _ ?_; clear hK K) | (apply Exists.intro; apply And.intro; (focus (intro wk hk; have cc : wk.cell? ⟨w.heap.size, 1, none⟩ = some (.int .i64 x.t) := ((K6.Row.tr r2 hk id).cell 1).trans (lA1 x); go_simp; exact ⟨rfl, rfl⟩)); refine hK _ _ ?_; clear hK K)
        refine stepK rfl (by kernel_rfl) (fun K hK => ?_); go_simp
        first | (refine hK _ _ ?_; clear hK K) | (apply Exists.intro; apply And.intro; (focus (intro wk hk; go_simp; exact ⟨rfl, rfl⟩)); refine hK _ _ ?_; clear hK K)
        refine stepK rfl (by kernel_rfl) (fun K hK => ?_); go_simp
        first | (refine hK _ _ ?_; clear hK K) | (apply Exists.intro; apply And.intro; (focus (intro wk hk; have cc : wk.cell? ⟨w.heap.size + 1, 1, none⟩ = some (.int .i64 y.t) := ((K6.Row.tr r3 hk id).cell 1).trans (lA1 y); go_simp; exact ⟨rfl, rfl⟩)); refine hK _ _ ?_; clear hK K)
        refine stepK rfl (by kernel_rfl) (fun K hK => ?_); go_simp
        first | (refine hK _ _ ?_; clear hK K) | (apply Exists.intro; apply And.intro; (focus (intro wk hk; go_simp; exact ⟨rfl, rfl⟩)); refine hK _ _ ?_; clear hK K)
        refine stepK rfl (by kernel_rfl) (fun K hK => ?_); go_simp
        apply Exists.intro; apply And.intro; (focus (intro wk hk; go_simp; exact ⟨rfl, rfl⟩)); refine hK _ _ ?_; clear hK K
        refine stepK rfl (by kernel_rfl) (fun K hK => ?_); go_simp
        apply Exists.intro; apply And.intro; (focus (intro wk hk; go_simp; exact ⟨rfl, rfl⟩)); refine hK _ _ ?_; clear hK K
        refine stepK rfl (by kernel_rfl) (fun K hK => ?_); go_simp
        first | (refine hK _ _ ?_; clear hK K) | (apply Exists.intro; apply And.intro; (focus (intro wk hk; go_simp; exact ⟨rfl, rfl⟩)); refine hK _ _ ?_; clear hK K)
        refine stepK rfl (by kernel_rfl) (fun K hK => ?_); go_simp
        first | (refine hK _ _ ?_; clear hK K) | (apply Exists.intro; apply And.intro; (focus exact kLoadMid rfl rfl aggT31 r2 (lfc_a x) (W4_size x.a) id); refine hK _ _ ?_; clear hK K)
        refine stepK rfl (by kernel_rfl) (fun K hK => ?_); go_simp
        first | (refine hK _ _ ?_; clear hK K) | (apply Exists.intro; apply And.intro; (focus (intro wk hk; go_simp; exact ⟨rfl, rfl⟩)); refine hK _ _ ?_; clear hK K)
        refine stepK rfl (by kernel_rfl) (fun K hK => ?_); go_simp
        first | (refine hK _ _ ?_; clear hK K) | (apply Exists.intro; apply And.intro; (focus exact kLoadMid rfl rfl aggT31 r3 (lfc_a y) (W4_size y.a) id); refine hK _ _ ?_; clear hK K)
        refine stepK rfl (by kernel_rfl) (fun K hK => ?_); go_simp
        first | (refine hK _ _ ?_; clear hK K) | (apply Exists.intro; apply And.intro; (focus (intro wk hk; go_simp; exact ⟨rfl, rfl⟩)); refine hK _ _ ?_; clear hK K)
        refine stepK rfl (by kernel_rfl) (fun K hK => ?_); go_simp
        apply Exists.intro; apply And.intro; (focus (intro wk hk; go_simp; exact ⟨rfl, rfl⟩)); refine hK _ _ ?_; clear hK K
        refine stepK rfl (by kernel_rfl) (fun K hK => ?_); go_simp
        apply Exists.intro; apply And.intro; (focus (intro wk hk; go_simp; exact ⟨rfl, rfl⟩)); refine hK _ _ ?_; clear hK K
        refine stepK rfl (by kernel_rfl) (fun K hK => ?_); go_simp
        first | (refine hK _ _ ?_; clear hK K) | (apply Exists.intro; apply And.intro; (focus (intro wk hk; go_simp; exact ⟨rfl, rfl⟩)); refine hK _ _ ?_; clear hK K)
        refine stepK rfl (by kernel_rfl) (fun K hK => ?_); go_simp
        first | (refine hK _ _ ?_; clear hK K) | (apply Exists.intro; apply And.intro; (focus (intro wk hk; go_simp; exact ⟨rfl, rfl⟩)); refine hK _ _ ?_; clear hK K)
        refine stepK rfl (by kernel_rfl) (fun K hK => ?_); go_simp
        first | (refine hK _ _ ?_; clear hK K) | (apply Exists.intro; apply And.intro; (focus (intro wk hk; go_simp; exact ⟨rfl, rfl⟩)); refine hK _ _ ?_; clear hK K)
        refine stepK rfl (by kernel_rfl) (fun K hK => ?_); go_simp
        first | (refine hK _ _ ?_; clear hK K) | (apply Exists.intro; apply And.intro; (focus (intro wk hk; go_simp; exact ⟨rfl, rfl⟩)); refine hK _ _ ?_; clear hK K)
        refine stepK rfl (by kernel_rfl) (fun K hK => ?_); go_simp
        first | (refine hK _ _ ?_; clear hK K) | (apply Exists.intro; apply And.intro; (focus (intro wk hk; go_simp; exact ⟨rfl, rfl⟩)); refine hK _ _ ?_; clear hK K)
        refine stepK rfl (by kernel_rfl) (fun K hK => ?_); go_simp
        apply Exists.intro; apply And.intro; (focus (intro wk hk; go_simp; exact ⟨rfl, rfl⟩)); refine hK _ _ ?_; clear hK K
        refine stepK rfl (by kernel_rfl) (fun K hK => ?_); go_simp
        apply Exists.intro; apply And.intro; (focus (intro wk hk; go_simp; exact ⟨rfl, rfl⟩)); refine hK _ _ ?_; clear hK K
        refine stepN ?_
        refine hQ _ _ ?_
        intro w9 hT hG hF
        have H9 := Lib.hid (hl.trans (hT.below.mono hl.size))
        clear hT hG hF hQ QQ L hl r2 r3
        go_wp2_with fail
        go_ret
        exact ⟨rfl, H9.out⟩
    · have h2 : (x.t == y.t) = false := by rw [beq_eq_false_iff_ne]; exact e2
      have hbb : b = false := by rw [← hb]; exact decide_eq_false (fun h => e2 (by unfold Lf.key at h; simp only [Prod.mk.injEq] at h; exact h.2.1))
      subst hbb
      clear q1 hb e1 e2 kH
      let L : List Sp := []
      refine wp_region_six0 (shs L) (look6 L) (None_) (by kernel_rfl) (by kernel_rfl) (mk_St L [] [] (by kernel_rfl) (by kernel_rfl) trivial (by simp)) ?_
      intro QQ hQ
      refine stepK rfl (by kernel_rfl) (fun K hK => ?_); go_simp
      apply Exists.intro; apply And.intro; (focus (intro wk hk; go_simp; exact ⟨rfl, rfl⟩)); refine hK _ _ ?_; clear hK K
      refine stepK rfl (by kernel_rfl) (fun K hK => ?_); go_simp
      apply Exists.intro; apply And.intro; (focus (intro wk hk; have cc : wk.cell? ⟨w.heap.size, 0, none⟩ = some (.int .i64 x.i) := ((K6.Row.tr r2 hk id).cell 0).trans (lA0 x); go_simp; exact ⟨rfl, rfl⟩)); refine hK _ _ ?_; clear hK K
      refine stepK rfl (by kernel_rfl) (fun K hK => ?_); go_simp
      apply Exists.intro; apply And.intro; (focus (intro wk hk; go_simp; exact ⟨rfl, rfl⟩)); refine hK _ _ ?_; clear hK K
      refine stepK rfl (by kernel_rfl) (fun K hK => ?_); go_simp
      apply Exists.intro; apply And.intro; (focus (intro wk hk; have cc : wk.cell? ⟨w.heap.size + 1, 0, none⟩ = some (.int .i64 y.i) := ((K6.Row.tr r3 hk id).cell 0).trans (lA0 y); go_simp; exact ⟨rfl, rfl⟩)); refine hK _ _ ?_; clear hK K
      refine stepK rfl (by kernel_rfl) (fun K hK => ?_); go_simp
      apply Exists.intro; apply And.intro; (focus (intro wk hk; go_simp; exact ⟨rfl, rfl⟩)); refine hK _ _ ?_; clear hK K
      refine stepK rfl (by kernel_rfl) (fun K hK => ?_); go_simp
      apply Exists.intro; apply And.intro; (focus (intro wk hk; go_simp; exact ⟨rfl, rfl⟩)); refine hK _ _ ?_; clear hK K
      refine stepK rfl (by kernel_rfl) (fun K hK => ?_); go_simp
      first | (refine hK _ _ ?_; clear hK K) | (apply Exists.intro; apply And.intro; (focus (intro wk hk; go_simp; exact ⟨rfl, rfl⟩)); refine hK _ _ ?_; clear hK K)
      refine stepK rfl (by kernel_rfl) (fun K hK => ?_); go_simp
      first | (refine hK _ _ ?_; clear hK K) | (apply Exists.intro; apply And.intro; (focus (intro wk hk; have cc : wk.cell? ⟨w.heap.size, 1, none⟩ = some (.int .i64 x.t) := ((K6.Row.tr r2 hk id).cell 1).trans (lA1 x); go_simp; exact ⟨rfl, rfl⟩)); refine hK _ _ ?_; clear hK K)
      refine stepK rfl (by kernel_rfl) (fun K hK => ?_); go_simp
      first | (refine hK _ _ ?_; clear hK K) | (apply Exists.intro; apply And.intro; (focus (intro wk hk; go_simp; exact ⟨rfl, rfl⟩)); refine hK _ _ ?_; clear hK K)
      refine stepK rfl (by kernel_rfl) (fun K hK => ?_); go_simp
      first | (refine hK _ _ ?_; clear hK K) | (apply Exists.intro; apply And.intro; (focus (intro wk hk; have cc : wk.cell? ⟨w.heap.size + 1, 1, none⟩ = some (.int .i64 y.t) := ((K6.Row.tr r3 hk id).cell 1).trans (lA1 y); go_simp; exact ⟨rfl, rfl⟩)); refine hK _ _ ?_; clear hK K)
      refine stepK rfl (by kernel_rfl) (fun K hK => ?_); go_simp
      first | (refine hK _ _ ?_; clear hK K) | (apply Exists.intro; apply And.intro; (focus (intro wk hk; go_simp; exact ⟨rfl, rfl⟩)); refine hK _ _ ?_; clear hK K)
      refine stepK rfl (by kernel_rfl) (fun K hK => ?_); go_simp
      apply Exists.intro; apply And.intro; (focus (intro wk hk; go_simp; exact ⟨rfl, rfl⟩)); refine hK _ _ ?_; clear hK K
      refine stepK rfl (by kernel_rfl) (fun K hK => ?_); go_simp
      apply Exists.intro; apply And.intro; (focus (intro wk hk; go_simp; exact ⟨rfl, rfl⟩)); refine hK _ _ ?_; clear hK K
      refine stepK rfl (by kernel_rfl) (fun K hK => ?_); go_simp
      first | (refine hK _ _ ?_; clear hK K) | (apply Exists.intro; apply And.intro; (focus (intro wk hk; go_simp; exact ⟨rfl, rfl⟩)); refine hK _ _ ?_; clear hK K)
      refine stepK rfl (by kernel_rfl) (fun K hK => ?_); go_simp
      first | (refine hK _ _ ?_; clear hK K) | (apply Exists.intro; apply And.intro; (focus (intro wk hk; go_simp; exact ⟨rfl, rfl⟩)); refine hK _ _ ?_; clear hK K)
      refine stepK rfl (by kernel_rfl) (fun K hK => ?_); go_simp
      first | (refine hK _ _ ?_; clear hK K) | (apply Exists.intro; apply And.intro; (focus (intro wk hk; go_simp; exact ⟨rfl, rfl⟩)); refine hK _ _ ?_; clear hK K)
      refine stepK rfl (by kernel_rfl) (fun K hK => ?_); go_simp
      first | (refine hK _ _ ?_; clear hK K) | (apply Exists.intro; apply And.intro; (focus (intro wk hk; go_simp; exact ⟨rfl, rfl⟩)); refine hK _ _ ?_; clear hK K)
      refine stepK rfl (by kernel_rfl) (fun K hK => ?_); go_simp
      first | (refine hK _ _ ?_; clear hK K) | (apply Exists.intro; apply And.intro; (focus (intro wk hk; go_simp; exact ⟨rfl, rfl⟩)); refine hK _ _ ?_; clear hK K)
      refine stepK rfl (by kernel_rfl) (fun K hK => ?_); go_simp
      apply Exists.intro; apply And.intro; (focus (intro wk hk; go_simp; exact ⟨rfl, rfl⟩)); refine hK _ _ ?_; clear hK K
      refine stepK rfl (by kernel_rfl) (fun K hK => ?_); go_simp
      apply Exists.intro; apply And.intro; (focus (intro wk hk; go_simp; exact ⟨rfl, rfl⟩)); refine hK _ _ ?_; clear hK K
      refine stepK rfl (by kernel_rfl) (fun K hK => ?_); go_simp
      first | (refine hK _ _ ?_; clear hK K) | (apply Exists.intro; apply And.intro; (focus (intro wk hk; go_simp; exact ⟨rfl, rfl⟩)); refine hK _ _ ?_; clear hK K)
      refine stepK rfl (by kernel_rfl) (fun K hK => ?_); go_simp
      first | (refine hK _ _ ?_; clear hK K) | (apply Exists.intro; apply And.intro; (focus (intro wk hk; go_simp; exact ⟨rfl, rfl⟩)); refine hK _ _ ?_; clear hK K)
      refine stepK rfl (by kernel_rfl) (fun K hK => ?_); go_simp
      first | (refine hK _ _ ?_; clear hK K) | (apply Exists.intro; apply And.intro; (focus (intro wk hk; go_simp; exact ⟨rfl, rfl⟩)); refine hK _ _ ?_; clear hK K)
      refine stepK rfl (by kernel_rfl) (fun K hK => ?_); go_simp
      first | (refine hK _ _ ?_; clear hK K) | (apply Exists.intro; apply And.intro; (focus (intro wk hk; go_simp; exact ⟨rfl, rfl⟩)); refine hK _ _ ?_; clear hK K)
      refine stepK rfl (by kernel_rfl) (fun K hK => ?_); go_simp
      first | (refine hK _ _ ?_; clear hK K) | (apply Exists.intro; apply And.intro; (focus (intro wk hk; go_simp; exact ⟨rfl, rfl⟩)); refine hK _ _ ?_; clear hK K)
      refine stepK rfl (by kernel_rfl) (fun K hK => ?_); go_simp
      apply Exists.intro; apply And.intro; (focus (intro wk hk; go_simp; exact ⟨rfl, rfl⟩)); refine hK _ _ ?_; clear hK K
      refine stepK rfl (by kernel_rfl) (fun K hK => ?_); go_simp
      apply Exists.intro; apply And.intro; (focus (intro wk hk; go_simp; exact ⟨rfl, rfl⟩)); refine hK _ _ ?_; clear hK K
      refine stepN ?_
      refine hQ _ _ ?_
      intro w9 hT hG hF
      have H9 := Lib.hid (hl.trans (hT.below.mono hl.size))
      clear hT hG hF hQ QQ L hl r2 r3
      go_wp2_with fail
      go_ret
      exact ⟨rfl, H9.out⟩
  · have h1 : (x.i == y.i) = false := by rw [beq_eq_false_iff_ne]; exact e1
    have hbb : b = false := by rw [← hb]; exact decide_eq_false (fun h => e1 (by unfold Lf.key at h; simp only [Prod.mk.injEq] at h; exact h.1))
    subst hbb
    clear q1 hb e1 kH
    let L : List Sp := []
    refine wp_region_six0 (shs L) (look6 L) (None_) (by kernel_rfl) (by kernel_rfl) (mk_St L [] [] (by kernel_rfl) (by kernel_rfl) trivial (by simp)) ?_
    intro QQ hQ
    refine stepK rfl (by kernel_rfl) (fun K hK => ?_); go_simp
    apply Exists.intro; apply And.intro; (focus (intro wk hk; go_simp; exact ⟨rfl, rfl⟩)); refine hK _ _ ?_; clear hK K
    refine stepK rfl (by kernel_rfl) (fun K hK => ?_); go_simp
    apply Exists.intro; apply And.intro; (focus (intro wk hk; have cc : wk.cell? ⟨w.heap.size, 0, none⟩ = some (.int .i64 x.i) := ((K6.Row.tr r2 hk id).cell 0).trans (lA0 x); go_simp; exact ⟨rfl, rfl⟩)); refine hK _ _ ?_; clear hK K
    refine stepK rfl (by kernel_rfl) (fun K hK => ?_); go_simp
    apply Exists.intro; apply And.intro; (focus (intro wk hk; go_simp; exact ⟨rfl, rfl⟩)); refine hK _ _ ?_; clear hK K
    refine stepK rfl (by kernel_rfl) (fun K hK => ?_); go_simp
    apply Exists.intro; apply And.intro; (focus (intro wk hk; have cc : wk.cell? ⟨w.heap.size + 1, 0, none⟩ = some (.int .i64 y.i) := ((K6.Row.tr r3 hk id).cell 0).trans (lA0 y); go_simp; exact ⟨rfl, rfl⟩)); refine hK _ _ ?_; clear hK K
    refine stepK rfl (by kernel_rfl) (fun K hK => ?_); go_simp
    apply Exists.intro; apply And.intro; (focus (intro wk hk; go_simp; exact ⟨rfl, rfl⟩)); refine hK _ _ ?_; clear hK K
    refine stepK rfl (by kernel_rfl) (fun K hK => ?_); go_simp
    apply Exists.intro; apply And.intro; (focus (intro wk hk; go_simp; exact ⟨rfl, rfl⟩)); refine hK _ _ ?_; clear hK K
    refine stepK rfl (by kernel_rfl) (fun K hK => ?_); go_simp
    first | (refine hK _ _ ?_; clear hK K) | (apply Exists.intro; apply And.intro; (focus (intro wk hk; go_simp; exact ⟨rfl, rfl⟩)); refine hK _ _ ?_; clear hK K)
    refine stepK rfl (by kernel_rfl) (fun K hK => ?_); go_simp
    first | (refine hK _ _ ?_; clear hK K) | (apply Exists.intro; apply And.intro; (focus (intro wk hk; go_simp; exact ⟨rfl, rfl⟩)); refine hK _ _ ?_; clear hK K)
    refine stepK rfl (by kernel_rfl) (fun K hK => ?_); go_simp
    first | (refine hK _ _ ?_; clear hK K) | (apply Exists.intro; apply And.intro; (focus (intro wk hk; go_simp; exact ⟨rfl, rfl⟩)); refine hK _ _ ?_; clear hK K)
    refine stepK rfl (by kernel_rfl) (fun K hK => ?_); go_simp
    first | (refine hK _ _ ?_; clear hK K) | (apply Exists.intro; apply And.intro; (focus (intro wk hk; go_simp; exact ⟨rfl, rfl⟩)); refine hK _ _ ?_; clear hK K)
    refine stepK rfl (by kernel_rfl) (fun K hK => ?_); go_simp
    first | (refine hK _ _ ?_; clear hK K) | (apply Exists.intro; apply And.intro; (focus (intro wk hk; go_simp; exact ⟨rfl, rfl⟩)); refine hK _ _ ?_; clear hK K)
    refine stepK rfl (by kernel_rfl) (fun K hK => ?_); go_simp
    apply Exists.intro; apply And.intro; (focus (intro wk hk; go_simp; exact ⟨rfl, rfl⟩)); refine hK _ _ ?_; clear hK K
    refine stepK rfl (by kernel_rfl) (fun K hK => ?_); go_simp
    apply Exists.intro; apply And.intro; (focus (intro wk hk; go_simp; exact ⟨rfl, rfl⟩)); refine hK _ _ ?_; clear hK K
    refine stepK rfl (by kernel_rfl) (fun K hK => ?_); go_simp
    first | (refine hK _ _ ?_; clear hK K) | (apply Exists.intro; apply And.intro; (focus (intro wk hk; go_simp; exact ⟨rfl, rfl⟩)); refine hK _ _ ?_; clear hK K)
    refine stepK rfl (by kernel_rfl) (fun K hK => ?_); go_simp
    first | (refine hK _ _ ?_; clear hK K) | (apply Exists.intro; apply And.intro; (focus (intro wk hk; go_simp; exact ⟨rfl, rfl⟩)); refine hK _ _ ?_; clear hK K)
    refine stepK rfl (by kernel_rfl) (fun K hK => ?_); go_simp
    first | (refine hK _ _ ?_; clear hK K) | (apply Exists.intro; apply And.intro; (focus (intro wk hk; go_simp; exact ⟨rfl, rfl⟩)); refine hK _ _ ?_; clear hK K)
    refine stepK rfl (by kernel_rfl) (fun K hK => ?_); go_simp
    first | (refine hK _ _ ?_; clear hK K) | (apply Exists.intro; apply And.intro; (focus (intro wk hk; go_simp; exact ⟨rfl, rfl⟩)); refine hK _ _ ?_; clear hK K)
    refine stepK rfl (by kernel_rfl) (fun K hK => ?_); go_simp
    first | (refine hK _ _ ?_; clear hK K) | (apply Exists.intro; apply And.intro; (focus (intro wk hk; go_simp; exact ⟨rfl, rfl⟩)); refine hK _ _ ?_; clear hK K)
    refine stepK rfl (by kernel_rfl) (fun K hK => ?_); go_simp
    apply Exists.intro; apply And.intro; (focus (intro wk hk; go_simp; exact ⟨rfl, rfl⟩)); refine hK _ _ ?_; clear hK K
    refine stepK rfl (by kernel_rfl) (fun K hK => ?_); go_simp
    apply Exists.intro; apply And.intro; (focus (intro wk hk; go_simp; exact ⟨rfl, rfl⟩)); refine hK _ _ ?_; clear hK K
    refine stepK rfl (by kernel_rfl) (fun K hK => ?_); go_simp
    first | (refine hK _ _ ?_; clear hK K) | (apply Exists.intro; apply And.intro; (focus (intro wk hk; go_simp; exact ⟨rfl, rfl⟩)); refine hK _ _ ?_; clear hK K)
    refine stepK rfl (by kernel_rfl) (fun K hK => ?_); go_simp
    first | (refine hK _ _ ?_; clear hK K) | (apply Exists.intro; apply And.intro; (focus (intro wk hk; go_simp; exact ⟨rfl, rfl⟩)); refine hK _ _ ?_; clear hK K)
    refine stepK rfl (by kernel_rfl) (fun K hK => ?_); go_simp
    first | (refine hK _ _ ?_; clear hK K) | (apply Exists.intro; apply And.intro; (focus (intro wk hk; go_simp; exact ⟨rfl, rfl⟩)); refine hK _ _ ?_; clear hK K)
    refine stepK rfl (by kernel_rfl) (fun K hK => ?_); go_simp
    first | (refine hK _ _ ?_; clear hK K) | (apply Exists.intro; apply And.intro; (focus (intro wk hk; go_simp; exact ⟨rfl, rfl⟩)); refine hK _ _ ?_; clear hK K)
    refine stepK rfl (by kernel_rfl) (fun K hK => ?_); go_simp
    first | (refine hK _ _ ?_; clear hK K) | (apply Exists.intro; apply And.intro; (focus (intro wk hk; go_simp; exact ⟨rfl, rfl⟩)); refine hK _ _ ?_; clear hK K)
    refine stepK rfl (by kernel_rfl) (fun K hK => ?_); go_simp
    apply Exists.intro; apply And.intro; (focus (intro wk hk; go_simp; exact ⟨rfl, rfl⟩)); refine hK _ _ ?_; clear hK K
    refine stepK rfl (by kernel_rfl) (fun K hK => ?_); go_simp
    apply Exists.intro; apply And.intro; (focus (intro wk hk; go_simp; exact ⟨rfl, rfl⟩)); refine hK _ _ ?_; clear hK K
    refine stepN ?_
    refine hQ _ _ ?_
    intro w9 hT hG hF
    have H9 := Lib.hid (hl.trans (hT.below.mono hl.size))
    clear hT hG hF hQ QQ L hl r2 r3
    go_wp2_with fail
    go_ret
    exact ⟨rfl, H9.out⟩
end Go.Proofs.Ytpdenhmkpiafiaa
