/-
  The document's source over any bytes: Text (181), Hash (180), Amount (179).
-/
import Derived.Test.YtpdenhmkpiafiaaRefSrc
import Derived.Test.YtpdenhmkpiafiaaOctRead
import Derived.Test.YtpdenhmkpiafiaaRefForm1
import Derived.Deep.OwnRows
namespace Go.Proofs.Ytpdenhmkpiafiaa
open Go Go.RowKit K6

theorem SR.e1 {w : World} {g : Nat} {q : Option Nat} {e : Int} {xs : List Int} (h : SR w g q e xs) : w.cell? ⟨g, 1, none⟩ = some (.int .i64 e) := by
  obtain ⟨-, -, -, -, v, hs, -⟩ := h
  exact hs.cell 1
theorem SR.b0 {w : World} {g : Nat} {q : Option Nat} {e : Int} {xs : List Int} (h : SR w g q e xs) : ∃ a c, w.cell? ⟨g, 0, none⟩ = some (.slice a xs.length c) := by
  obtain ⟨-, -, -, -, v, hs, hv⟩ := h
  have c0 : w.cell? ⟨g, 0, none⟩ = some v := hs.cell 0
  rcases hv with ⟨rfl, a, rfl, -⟩ | ⟨b, o, c, -, rfl, -⟩
  · exact ⟨_, _, c0⟩
  · exact ⟨_, _, c0⟩
theorem SR.hd {w : World} {g : Nat} {q : Option Nat} {e d : Int} {ds : List Int} (h : SR w g q e (d :: ds)) : ∃ b o c, w.cell? ⟨g, 0, none⟩ = some (.slice (some ⟨b, o, none⟩) (ds.length + 1) c) ∧ w.cell? ⟨b, o, none⟩ = some (.int .u8 d) := by
  obtain ⟨-, -, -, -, v, hs, hv⟩ := h
  have c0 : w.cell? ⟨g, 0, none⟩ = some v := hs.cell 0
  rcases hv with ⟨hv, -⟩ | ⟨b, o, c, -, rfl, -, -, h5⟩
  · cases hv
  · exact ⟨b, o, c, c0, h5 0 d rfl⟩
def GotRX (w : World) (g : Nat) (q : Option Nat) (x : List Int × St) (r : Ending) (w' : World) : Prop := ∃ v, r = .returned v ∧ Ob w' w.heap.size v x.1 ∧ SR w' g q x.2.1 x.2.2 ∧ Tr (fun b => b = g) w w'
set_option maxRecDepth 100000 in
set_option maxHeartbeats 8000000 in
/-- Text -/
theorem rtext_at {w : World} {g : Nat} {q : Option Nat} {e : Int} {xs : List Int} (most : Int) (h : SR w g q e xs) :
    Calls Try.prog 181 #[.pointer (some ⟨g, 0, none⟩), .int .i64 most] w (GotRX w g q (gX most (e, xs))) := by
  have sv := rvar_at most h
  unfold gX
  obtain ⟨n, hn⟩ : ∃ n, (gV most (e, xs)).1 = n := ⟨_, rfl⟩
  obtain ⟨⟨E, R⟩, hE⟩ : ∃ s, (gV most (e, xs)).2 = s := ⟨_, rfl⟩
  rw [hn, hE] at sv
  rw [hn, hE]
  replace sv := Lib.hid sv
  clear h hn hE
  by_cases he : E = 0
  · subst he
    go_enter Try.func181, Try.ntmps181
    go_wp2_with fail
    refine sv.out.mono ?_
    rintro r w1 ⟨rfl, hs, ht⟩
    have c1 := hs.e1
    have tk := Lib.hid (rtake_at n hs)
    have HT := Lib.hid ht
    clear sv hs ht
    go_wp2_with fail
    refine tk.out.mono ?_
    rintro r w3 ⟨v, rfl, ho, hs, ht⟩
    have H := Lib.hid (show GotRX w g q (gT n (0, R)) (.returned v) w3 from ⟨v, rfl, ho.base HT.out.size, hs, HT.out.trans ht⟩)
    clear tk ho hs ht HT c1
    go_wp2_with fail
    go_ret
    exact H.out
  · go_enter Try.func181, Try.ntmps181
    go_wp2_with fail
    refine sv.out.mono ?_
    rintro r w1 ⟨rfl, hs, ht⟩
    have c1 := hs.e1
    have hq : (E != 0) = true := by simpa using he
    obtain rfl := hs.1 he
    have H := Lib.hid (show GotRX w g q (gT n (E, [])) (.returned (.slice none 0 0)) w1 from by rw [gT_fault he]; exact ⟨_, rfl, Ob.nil _ _, hs, ht⟩)
    clear sv hs ht he
    go_wp2_with fail
    go_ret
    exact H.out
/-! ### Hash -/
def hrow (i : Nat) (O : List Int) : Array Value := (bv (O.take i ++ List.replicate (32 - i) 0)).toArray
theorem hrow_size {i : Nat} {O : List Int} (hi : i ≤ O.length) (h32 : O.length ≤ 32) : (hrow i O).size = 32 := by
  unfold hrow
  rw [List.size_toArray, bv_len, List.length_append, List.length_take, List.length_replicate]
  omega
theorem hrow_0 (O : List Int) : zr32 = hrow 0 O := by
  unfold hrow
  rw [List.take_zero, List.nil_append, zr32_bv]
theorem hrow_set {i : Nat} {O : List Int} {y : Int} (hi : i < 32) (hy : O[i]? = some y) : (hrow i O).setIfInBounds i (.int .u8 y) = hrow (i + 1) O := by
  obtain ⟨hl, rfl⟩ := List.getElem?_eq_some_iff.1 hy
  have hlen : (O.take i).length = i := by rw [List.length_take]; omega
  unfold hrow bv
  rw [List.setIfInBounds_toArray, ← List.map_set, List.set_append_right _ _ (by omega), hlen, Nat.sub_self, show 32 - i = (32 - (i + 1)) + 1 by omega, List.replicate_succ, List.set_cons_zero, List.take_succ_eq_append_getElem hl, List.append_assoc, List.singleton_append]
theorem hrow_end {E : Int} {O : List Int} (h : (O.length = 32 ∧ E = 0) ∨ (O = [] ∧ E ≠ 0)) : hrow O.length O = (bv (if E = 0 then O else List.replicate 32 0)).toArray := by
  rcases h with ⟨h, rfl⟩ | ⟨rfl, h⟩
  · unfold hrow
    rw [if_pos rfl, List.take_length, h, Nat.sub_self, List.replicate_zero, List.append_nil]
  · unfold hrow
    rw [if_neg h]
    rfl
set_option maxRecDepth 100000 in
set_option maxHeartbeats 8000000 in
theorem rhash_at {w : World} {g : Nat} {q : Option Nat} {e : Int} {xs : List Int} (h : SR w g q e xs) (hq : ∀ b, q = some b → b < w.heap.size) :
    Calls Try.prog 180 #[.pointer (some ⟨g, 0, none⟩)] w (GotR w g q (.agg (bv (gH (e, xs)).1).toArray) (gH (e, xs)).2) := by
  have hgl := h.lt
  have hOc : ((tkO 32 e xs).length = 32 ∧ tkE 32 e xs = 0) ∨ (tkO 32 e xs = [] ∧ tkE 32 e xs ≠ 0) := by
    unfold tkO tkE
    split
    · split
      · left; rw [List.length_take]; omega
      · right; decide
    · rename_i h1; exact .inr ⟨rfl, h1⟩
  have tk0 := fun wk (hk : SR wk g q e xs) => rtake_at 32 hk
  unfold RTook at tk0
  unfold gH gT
  simp only
  obtain ⟨E, hE⟩ : ∃ E : Int, tkE 32 e xs = E := ⟨_, rfl⟩
  obtain ⟨O, hO⟩ : ∃ O : List Int, tkO 32 e xs = O := ⟨_, rfl⟩
  obtain ⟨R, hR⟩ : ∃ R : List Int, tkR 32 e xs = R := ⟨_, rfl⟩
  rw [hE, hO] at hOc
  simp only [hE, hO, hR] at tk0 ⊢
  rw [← hrow_end hOc]
  replace tk0 := Lib.hid tk0
  obtain ⟨m, hm⟩ : ∃ m, O.length = m := ⟨_, rfl⟩
  have hm32 : m ≤ 32 := by
    rcases hOc with ⟨h, -⟩ | ⟨h, -⟩
    · omega
    · rw [h, List.length_nil] at hm; omega
  have h0 := Lib.hid h
  clear hE hO hR hOc h
  go_enter Try.func180, Try.ntmps180
  go_upto_region 2 with (fail)
  refine wp_abs (Mem w [(w.heap.size, 35, zr32), (w.heap.size + 1, 35, zr32)]) ⟨by go_grown, ?_, ?_, trivial⟩ ?_
  · repeat (first | (refine Row.new_at ?_; simp; done) | refine Row.alloc ?_ _)
  · repeat (first | (refine Row.new_at ?_; simp; done) | refine Row.alloc ?_ _)
  intro w0 hM
  obtain ⟨hl, r0, rT, -⟩ := hM
  have tk := Lib.hid (tk0.out w0 (h0.out.below hl))
  have HL := Lib.hid (show _ ∧ _ ∧ _ from ⟨hl, r0, rT⟩)
  clear hl r0 rT tk0 h0
  go_wp2_with fail
  refine tk.out.mono ?_
  rintro r w1 ⟨v, rfl, ho, hs, ht⟩
  obtain ⟨hl, r0, rT⟩ := HL.out
  have hsz := r0.lt
  have hsz2 := rT.lt
  replace r0 := K6.Row.tr r0 ht (by omega)
  replace rT := K6.Row.tr rT ht (by omega)
  replace ht : Tr (fun b => b = g) w w1 := (Tr.of hl : Tr (fun b => b = g) w w0).trans ht
  have hbv : ∀ b, v.ownBlock = some b → b ≠ w.heap.size + 1 := fun b hb e => by have := (ho.lt b hb).1; omega
  have hb9 := ho.bs
  obtain ⟨a, c, rfl, hno, hcell⟩ := hb9
  rw [hm]
  have hall := Lib.hid (show ∀ i wr, i < m → Tr (fun b => b = w.heap.size + 1) w1 wr → ∃ b y, a = some ⟨b, 0, none⟩ ∧ O[i]? = some y ∧ wr.cell? ⟨b, i, none⟩ = some (.int .u8 y) from fun i wr hi hT => by
    have hbs := ho.keep hT hbv
    rcases hbs.2 with ⟨-, h0⟩ | ⟨b, cap, cur, he, -⟩
    · omega
    · have hO : O[i]? = some O[i] := List.getElem?_eq_getElem (by omega)
      injection he with he
      refine ⟨b, O[i], he, hO, ?_⟩
      obtain ⟨a2, c2, e2, -, h1⟩ := hbs.bs
      injection e2 with e2
      have := h1 ⟨b, 0, none⟩ (e2.symm.trans he) i (.int .u8 O[i]) (by unfold bv; rw [List.getElem?_map, hO]; rfl)
      rw [add_at, Nat.zero_add] at this
      exact this)
  have H0 := Lib.hid (show _ ∧ _ ∧ _ ∧ _ ∧ _ from ⟨hs, ht, r0, hgl, hq⟩)
  have rT0 : Row w1 (w.heap.size + 1) 35 (hrow 0 O) := rT.congr (hrow_0 O)
  clear tk HL hl ho hs ht r0 rT hbv hno hcell hsz hsz2 hgl hq
  go_wp2_with fail
  go_loopg [4, 5, 9] m (fun gg s4 s5 s9 wr => ∃ i : Nat, i + gg = m ∧ s9 = .int .i64 (i : Int) ∧ Row wr (w.heap.size + 1) 35 (hrow i O) ∧ Tr (fun b => b = w.heap.size + 1) w1 wr)
  case atStart => exact ⟨0, by omega, rfl, rT0, Tr.refl _ _⟩
  case round =>
    obtain ⟨i, him, rfl, rT, hT⟩ := hrel
    by_cases hi : i < m
    · obtain ⟨b, y, rfl, hy, c1⟩ := hall.out i wr hi hT
      have hlt : (i : Int) < (m : Int) := by omega
      have h32 : (i : Int) < 32 := by omega
      have f0 := rT.frozen i
      obtain ⟨u9, c9⟩ : ∃ u, wr.cell? ⟨w.heap.size + 1, i, none⟩ = some u := ⟨_, (rT.cell i).trans (Array.getElem?_eq_getElem (by rw [hrow_size (by omega) (by omega)]; omega))⟩
      have hT2 := hT.trans (tr_cell (X := fun b => b = w.heap.size + 1) (w := wr) (p := ⟨w.heap.size + 1, i, none⟩) (u := .int .u8 y) rfl)
      have rT2 := (rT.set i (.int .u8 y)).congr (hrow_set (by omega) hy)
      have H := Lib.hid (show _ ∧ _ from ⟨hT2, rT2⟩)
      clear hT2 rT2 rT hT hy
      go_wp2_with fail
      go_roundg (gk - 1)
      case measure => omega
      case rel => exact ⟨i + 1, by omega, by go_num, H.out.2, H.out.1⟩
    · obtain rfl : i = m := by omega
      have hlt : ¬ (i : Int) < (i : Int) := by omega
      obtain ⟨hs, ht, r0, hgl, hq⟩ := H0.out
      have r0' := K6.Row.tr r0 hT (by omega)
      have hs' := hs.keep hT (by omega) (fun b hb e => by have := hq b hb; omega)
      have ht' := ht.trans_new hT (fun b hb hlt => by have hb' : b = w.heap.size + 1 := hb; omega)
      have rL := rT
      have hsl := hrow_size (i := i) (O := O) (by omega) (by omega)
      have hone : (hrow i O).all (·.oneCell') = true := bv_one _
      have hinf : (Try.prog.info? 35).map (·.size) = some (hrow i O).size := by rw [hsl]; kernel_rfl
      clear hall H0 hT hs ht r0 rT
      have r0 := r0'
      have hs := hs'
      have ht := ht'
      clear r0' hs' ht'
      go_upto_region 7 with (fail)
      go_upto_region 7 with (fail)
      let L : List Sp := [sO 1 (w.heap.size) 35 [0] (fun g => aggOf g 0)]
      refine wp_region_six0 (shs L) (look6 L) (fun c => c = w.heap.size) (by kernel_rfl) (by kernel_rfl) (mk_St L [1] [1] (by kernel_rfl) (by kernel_rfl) ⟨ok_O aggOf_congr r0.lt (rfl), trivial⟩ (by simp)) ?_
      intro QQ hQ
      -- 0: load<35> *t3
      refine stepK rfl (by kernel_rfl) (fun K hK => ?_); go_simp
      apply Exists.intro; apply And.intro; (focus exact kLoad rfl rfl aggR35 rL hsl id); refine hK _ _ ?_; clear hK K
      -- 1: store<35> *t2 = t18
      refine stepS _ rfl (by kernel_rfl) (fun K hK => ?_); go_simp
      refine ⟨?_, ?_⟩
      · exact sStoreO rfl rfl rfl rfl rfl rfl r0 id hinf hsl.symm hone (by decide) aggOf_congr
      rintro ⟨v1, lo1, hi1⟩ - - (rfl : v1 = undef)
      refine hK _ _ ?_; clear hK K
      refine stepN ?_
      refine hQ _ _ ?_
      intro w9 hT hG hF
      have x0 : Row w9 (w.heap.size) 35 (hrow i O) := hF 1 _ rfl rfl (by decide)
      have hs9 := hs.keep hT (fun hc => by have hc' : g = w.heap.size := hc; omega) (fun b hb hc => by have hc' : b = w.heap.size := hc; have := hq b hb; omega)
      have ht9 := ht.trans_new hT (fun b hb hlt => by have hb' : b = w.heap.size := hb; omega)
      clear hT hG hF hQ QQ L
      go_wp2_with fail
      refine bodyPost_ret (results_c rfl aggR35 rfl x0 hsl) rfl ?_
      exact ⟨rfl, hs9, ht9⟩
/-! ### Amount -/
theorem made_bv (n : Nat) : madeCells #[Value.int .u8 0] n = (bv (List.replicate n 0)).toArray := by
  apply Array.ext
  · simp [madeCells, bv]
  · intro i h1 h2
    simp [madeCells, bv, Nat.mod_one]
theorem make8 (n : Nat) (hn : n < 10000000000) (w : World) : (Instr.makeSlice 33 (.int .i64 (n : Int)) (.int .i64 (n : Int))).run Try.prog w = .ok (.slice (some ⟨w.heap.size, 0, none⟩) n n) (w.alloc (.cells (bv (List.replicate n 0)).toArray 5)) := by
  rw [← made_bv]
  exact run_make_row' 33 5 (.int .u8 0) 1 Try.underlying33 (by kernel_rfl) rfl .i64 .i64 n (by omega) (by omega) w
theorem made_own (n : Nat) (hn : n < 10000000000) (w : World) : Ob (w.alloc (.cells (bv (List.replicate n 0)).toArray 5)) w.heap.size (.slice (some ⟨w.heap.size, 0, none⟩) n n) (List.replicate n 0) := by
  unfold Ob
  rw [List.length_replicate]
  refine ⟨by rw [bv_len, List.length_replicate, Nat.mul_one], .inr ⟨w.heap.size, n, _, rfl, Nat.le_refl _, Row.new_at rfl, Nat.le_refl _, by simp only [maxLen]; omega, by rw [List.size_toArray, bv_len, List.length_replicate, Nat.mul_one], ?_⟩⟩
  rw [List.take_of_length_le (by rw [bv_len, List.length_replicate, Nat.mul_one]; exact Nat.le_refl _)]
/-- FromBytes of the reference, of an own slice of 32 bytes -/
theorem rfrom32 {L : List Int} (hL : L.length = 32) (hb : By L) {w : World} {base : Nat} {v : Value} (h : Ob w base v L) : Calls Try.prog 96 #[v] w (Ret w (.tuple #[.agg (W4 (beV L)), .bool true])) := by
  have hf : ∀ i, (L.getD i 0).toNat < 256 := fun i => by
    rcases Nat.lt_or_ge i L.length with h | h
    · rw [List.getD_eq_getElem?_getD, List.getElem?_eq_getElem h]
      have := hb _ (List.getElem_mem h)
      show (L[i]).toNat < 256
      omega
    · rw [List.getD_eq_getElem?_getD, List.getElem?_eq_none h]; decide
  have hbs := h.bs
  have hlt := h.lt
  rcases h.2 with ⟨-, h0⟩ | ⟨g, cap, cur, rfl, -⟩
  · omega
  obtain ⟨a, c, e, -, h1⟩ := hbs
  injection e with e1 e2 e3
  subst e1
  rw [hL]
  refine (refFrom_any (some ⟨g, 0, none⟩) 32 cap (fun j => (L.getD j 0).toNat) w hf (fun _ => ⟨g, 0, rfl, (hlt g rfl).2, fun i hi => ?_⟩)).mono fun _ _ h => ?_
  · have hi2 : i < L.length := by omega
    have hx := hb _ (List.getElem_mem hi2)
    have := h1 _ rfl i (.int .u8 L[i]) (by unfold bv; rw [List.getElem?_map, List.getElem?_eq_getElem hi2]; rfl)
    rw [add_at] at this
    rw [this, List.getD_eq_getElem?_getD, List.getElem?_eq_getElem hi2]
    show some (Value.int .u8 L[i]) = some (Value.int .u8 ((L[i].toNat : Nat) : Int))
    rw [Int.toNat_of_nonneg hx.1]
  · have h2 := pair_ret h
    rw [if_pos rfl, decide_eq_true rfl, fromN_beV hL 32 (Nat.le_refl _), Nat.sub_self, Nat.pow_zero, Nat.mul_one, List.take_of_length_le (by omega)] at h2
    exact h2
set_option maxRecDepth 100000 in
set_option maxHeartbeats 8000000 in
theorem ramt_f {w : World} {g : Nat} {q : Option Nat} {e : Int} {xs : List Int} (h : SR w g q e xs) (hq : ∀ b, q = some b → b < w.heap.size) (h0 : byO e xs = 0) (h1 : tkE 1 e xs ≠ 0) (h2 : tkR 1 e xs = []) :
    Calls Try.prog 179 #[.pointer (some ⟨g, 0, none⟩)] w (GotR w g q (.agg #[.int .u64 0, .int .u64 0, .int .u64 0, .int .u64 0]) (tkE 1 e xs, [])) := by
  have hgl := h.lt
  have hA : Below w.heap.size w (w.alloc (.cells #[Value.int .u64 0, .int .u64 0, .int .u64 0, .int .u64 0] 31)) := (Below.refl _ _).alloc (Nat.le_refl _) _
  have hsz : (w.alloc (.cells #[Value.int .u64 0, .int .u64 0, .int .u64 0, .int .u64 0] 31)).heap.size = w.heap.size + 1 := by simp
  have r0 : Row (w.alloc (.cells #[Value.int .u64 0, .int .u64 0, .int .u64 0, .int .u64 0] 31)) w.heap.size 31 #[.int .u64 0, .int .u64 0, .int .u64 0, .int .u64 0] := Row.new_at rfl
  have hby := rbyte_at (h.below hA)
  rw [h0, h2] at hby
  obtain ⟨k, hk⟩ : ∃ k, tkE 1 e xs = k := ⟨_, rfl⟩
  rw [hk] at h1 hby ⊢
  replace hby := Lib.hid hby
  have R0 := Lib.hid (show _ ∧ _ ∧ _ from ⟨hA, hsz, r0⟩)
  have hkq : (k != 0) = true := by simpa using h1
  clear h hA hsz r0 h0 h2 hk h1
  go_enter Try.func179, Try.ntmps179
  go_wp2_with fail
  refine hby.out.mono ?_
  rintro r w1 ⟨rfl, hs, ht⟩
  have c1 := hs.e1
  have r0 := K6.Row.tr R0.out.2.2 ht (by omega)
  replace ht : Tr (fun b => b = g) w w1 := (Tr.of R0.out.1 : Tr (fun b => b = g) w _).trans ht
  clear hby R0
  go_upto_region 3 with (fail)
  let L : List Sp := [sO 1 (w.heap.size) 31 [0] (fun g => aggOf g 0)]
  refine wp_region_six0 (shs L) (look6 L) (fun c => c = w.heap.size) (by kernel_rfl) (by kernel_rfl) (mk_St L [1] [1] (by kernel_rfl) (by kernel_rfl) ⟨ok_O aggOf_congr r0.lt (rfl), trivial⟩ (by simp)) ?_
  intro QQ hQ
  -- 0: build<31> 
  refine stepK rfl (by kernel_rfl) (fun K hK => ?_); go_simp
  apply Exists.intro; apply And.intro; (focus (intro wk hk; go_simp; exact ⟨rfl, rfl⟩)); refine hK _ _ ?_; clear hK K
  -- 1: store<31> *t2 = t15
  refine stepS _ rfl (by kernel_rfl) (fun K hK => ?_); go_simp
  refine ⟨?_, ?_⟩
  · exact sStoreO rfl rfl rfl rfl rfl rfl r0 id (by kernel_rfl) rfl (by kernel_rfl) (by decide) aggOf_congr
  rintro ⟨v1, lo1, hi1⟩ - - (rfl : v1 = undef)
  refine hK _ _ ?_; clear hK K
  refine stepN ?_
  refine hQ _ _ ?_
  intro w9 hT hG hF
  clear c1 hkq
  have x0 : Row w9 (w.heap.size) 31 (#[.int .u64 0, .int .u64 0, .int .u64 0, .int .u64 0]) := hF 1 _ rfl rfl (by decide)
  have hs9 := hs.keep hT (fun hc => by have hc' : g = w.heap.size := hc; omega) (fun b hb hc => by have hc' : b = w.heap.size := hc; have := hq b hb; omega)
  have ht9 := ht.trans_new hT (fun b hb hlt => by have hb' : b = w.heap.size := hb; omega)
  clear hT hG hF hQ QQ L
  go_wp2_with fail
  refine bodyPost_ret (results_c rfl aggT31 rfl x0 rfl) rfl ?_
  exact ⟨rfl, hs9, ht9⟩
set_option maxRecDepth 100000 in
set_option maxHeartbeats 8000000 in
theorem ramt_big {w : World} {g n : Nat} {q : Option Nat} {cs : List Int} (h : SR w g q 0 ((n : Int) :: cs)) (hq : ∀ b, q = some b → b < w.heap.size) (hn : 32 < n) (hn2 : n < 256) :
    Calls Try.prog 179 #[.pointer (some ⟨g, 0, none⟩)] w (GotR w g q (.agg #[.int .u64 0, .int .u64 0, .int .u64 0, .int .u64 0]) (4, [])) := by
  have hgl := h.lt
  have hA : Below w.heap.size w (w.alloc (.cells #[Value.int .u64 0, .int .u64 0, .int .u64 0, .int .u64 0] 31)) := (Below.refl _ _).alloc (Nat.le_refl _) _
  have hsz : (w.alloc (.cells #[Value.int .u64 0, .int .u64 0, .int .u64 0, .int .u64 0] 31)).heap.size = w.heap.size + 1 := by simp
  have r0 : Row (w.alloc (.cells #[Value.int .u64 0, .int .u64 0, .int .u64 0, .int .u64 0] 31)) w.heap.size 31 #[.int .u64 0, .int .u64 0, .int .u64 0, .int .u64 0] := Row.new_at rfl
  have hn3 : (32 : Int) < (n : Int) := by omega
  have hby := rbyte_at (h.below hA)
  rw [show byO 0 ((n : Int) :: cs) = (n : Int) from by unfold byO tkO; simp, show tkE 1 0 ((n : Int) :: cs) = 0 from by unfold tkE; simp, show tkR 1 0 ((n : Int) :: cs) = cs from by unfold tkR; simp] at hby
  replace hby := Lib.hid hby
  have R0 := Lib.hid (show _ ∧ _ ∧ _ from ⟨hA, hsz, r0⟩)
  have wn : IntKind.i64.wrap (n : Int) = (n : Int) := by rw [IntKind.wrap_i64]; omega
  clear h hA hsz r0
  go_enter Try.func179, Try.ntmps179
  go_wp2_with fail
  refine hby.out.mono ?_
  rintro r w1 ⟨rfl, hs, ht⟩
  have c1 := hs.e1
  have r1 := K6.Row.tr R0.out.2.2 ht (by omega)
  replace ht : Tr (fun b => b = g) w w1 := (Tr.of R0.out.1 : Tr (fun b => b = g) w _).trans ht
  clear hby R0
  have wr := Lib.hid (wrong_at 4 hs)
  have HS := Lib.hid (show _ ∧ _ from ⟨ht, r1⟩)
  clear hs ht r1
  go_wp2_with fail
  refine wr.out.mono ?_
  rintro r w3 ⟨⟨u, rfl⟩, hs, ht3⟩
  have r0 := K6.Row.tr HS.out.2 ht3 (by omega)
  have ht : Tr (fun b => b = g) w w3 := HS.out.1.trans ht3
  clear HS wr ht3 c1
  go_upto_region 6 with (fail)
  let L : List Sp := [sO 1 (w.heap.size) 31 [0] (fun g => aggOf g 0)]
  refine wp_region_six0 (shs L) (look6 L) (fun c => c = w.heap.size) (by kernel_rfl) (by kernel_rfl) (mk_St L [1] [1] (by kernel_rfl) (by kernel_rfl) ⟨ok_O aggOf_congr r0.lt (rfl), trivial⟩ (by simp)) ?_
  intro QQ hQ
  -- 0: build<31> 
  refine stepK rfl (by kernel_rfl) (fun K hK => ?_); go_simp
  apply Exists.intro; apply And.intro; (focus (intro wk hk; go_simp; exact ⟨rfl, rfl⟩)); refine hK _ _ ?_; clear hK K
  -- 1: store<31> *t2 = t20
  refine stepS _ rfl (by kernel_rfl) (fun K hK => ?_); go_simp
  refine ⟨?_, ?_⟩
  · exact sStoreO rfl rfl rfl rfl rfl rfl r0 id (by kernel_rfl) rfl (by kernel_rfl) (by decide) aggOf_congr
  rintro ⟨v1, lo1, hi1⟩ - - (rfl : v1 = undef)
  refine hK _ _ ?_; clear hK K
  refine stepN ?_
  refine hQ _ _ ?_
  intro w9 hT hG hF
  have x0 : Row w9 (w.heap.size) 31 (#[.int .u64 0, .int .u64 0, .int .u64 0, .int .u64 0]) := hF 1 _ rfl rfl (by decide)
  have hs9 := hs.keep hT (fun hc => by have hc' : g = w.heap.size := hc; omega) (fun b hb hc => by have hc' : b = w.heap.size := hc; have := hq b hb; omega)
  have ht9 := ht.trans_new hT (fun b hb hlt => by have hb' : b = w.heap.size := hb; omega)
  clear hT hG hF hQ QQ L
  go_wp2_with fail
  refine bodyPost_ret (results_c rfl aggT31 rfl x0 rfl) rfl ?_
  exact ⟨rfl, hs9, ht9⟩
set_option maxRecDepth 100000 in
set_option maxHeartbeats 8000000 in
theorem ramt_lead {w : World} {g n : Nat} {q : Option Nat} {ds : List Int} (h : SR w g q 0 ((n : Int) :: 0 :: ds)) (hq : ∀ b, q = some b → b < w.heap.size) (hn : n ≤ 32) (h0 : 0 < n) :
    Calls Try.prog 179 #[.pointer (some ⟨g, 0, none⟩)] w (GotR w g q (.agg #[.int .u64 0, .int .u64 0, .int .u64 0, .int .u64 0]) (4, [])) := by
  have hgl := h.lt
  have hA : Below w.heap.size w (w.alloc (.cells #[Value.int .u64 0, .int .u64 0, .int .u64 0, .int .u64 0] 31)) := (Below.refl _ _).alloc (Nat.le_refl _) _
  have hsz : (w.alloc (.cells #[Value.int .u64 0, .int .u64 0, .int .u64 0, .int .u64 0] 31)).heap.size = w.heap.size + 1 := by simp
  have r0 : Row (w.alloc (.cells #[Value.int .u64 0, .int .u64 0, .int .u64 0, .int .u64 0] 31)) w.heap.size 31 #[.int .u64 0, .int .u64 0, .int .u64 0, .int .u64 0] := Row.new_at rfl
  have hn3 : (n : Int) ≤ 32 := by omega
  have hn4 : (0 : Int) < (n : Int) := by omega
  have hby := rbyte_at (h.below hA)
  rw [show byO 0 ((n : Int) :: 0 :: ds) = (n : Int) from by unfold byO tkO; simp, show tkE 1 0 ((n : Int) :: 0 :: ds) = 0 from by unfold tkE; simp, show tkR 1 0 ((n : Int) :: 0 :: ds) = 0 :: ds from by unfold tkR; simp] at hby
  replace hby := Lib.hid hby
  have R0 := Lib.hid (show _ ∧ _ ∧ _ from ⟨hA, hsz, r0⟩)
  have wn : IntKind.i64.wrap (n : Int) = (n : Int) := by rw [IntKind.wrap_i64]; omega
  clear h hA hsz r0
  go_enter Try.func179, Try.ntmps179
  go_wp2_with fail
  refine hby.out.mono ?_
  rintro r w1 ⟨rfl, hs, ht⟩
  have c1 := hs.e1
  have r1 := K6.Row.tr R0.out.2.2 ht (by omega)
  replace ht : Tr (fun b => b = g) w w1 := (Tr.of R0.out.1 : Tr (fun b => b = g) w _).trans ht
  clear hby R0
  have wr := Lib.hid (wrong_at 4 hs)
  have HS := Lib.hid (show _ ∧ _ from ⟨ht, r1⟩)
  obtain ⟨b, o, cp, k0, k1⟩ := hs.hd
  have hpos : (0 : Int) < ((ds.length + 1 : Nat) : Int) := by omega
  clear hs ht r1
  go_wp2_with fail
  refine wr.out.mono ?_
  rintro r w3 ⟨⟨u, rfl⟩, hs, ht3⟩
  have r0 := K6.Row.tr HS.out.2 ht3 (by omega)
  have ht : Tr (fun b => b = g) w w3 := HS.out.1.trans ht3
  clear HS wr ht3 c1 k0 k1 hpos
  go_upto_region 9 with (fail)
  let L : List Sp := [sO 1 (w.heap.size) 31 [0] (fun g => aggOf g 0)]
  refine wp_region_six0 (shs L) (look6 L) (fun c => c = w.heap.size) (by kernel_rfl) (by kernel_rfl) (mk_St L [1] [1] (by kernel_rfl) (by kernel_rfl) ⟨ok_O aggOf_congr r0.lt (rfl), trivial⟩ (by simp)) ?_
  intro QQ hQ
  -- 0: build<31> 
  refine stepK rfl (by kernel_rfl) (fun K hK => ?_); go_simp
  apply Exists.intro; apply And.intro; (focus (intro wk hk; go_simp; exact ⟨rfl, rfl⟩)); refine hK _ _ ?_; clear hK K
  -- 1: store<31> *t2 = t42
  refine stepS _ rfl (by kernel_rfl) (fun K hK => ?_); go_simp
  refine ⟨?_, ?_⟩
  · exact sStoreO rfl rfl rfl rfl rfl rfl r0 id (by kernel_rfl) rfl (by kernel_rfl) (by decide) aggOf_congr
  rintro ⟨v1, lo1, hi1⟩ - - (rfl : v1 = undef)
  refine hK _ _ ?_; clear hK K
  refine stepN ?_
  refine hQ _ _ ?_
  intro w9 hT hG hF
  have x0 : Row w9 (w.heap.size) 31 (#[.int .u64 0, .int .u64 0, .int .u64 0, .int .u64 0]) := hF 1 _ rfl rfl (by decide)
  have hs9 := hs.keep hT (fun hc => by have hc' : g = w.heap.size := hc; omega) (fun b hb hc => by have hc' : b = w.heap.size := hc; have := hq b hb; omega)
  have ht9 := ht.trans_new hT (fun b hb hlt => by have hb' : b = w.heap.size := hb; omega)
  clear hT hG hF hQ QQ L
  go_wp2_with fail
  refine bodyPost_ret (results_c rfl aggT31 rfl x0 rfl) rfl ?_
  exact ⟨rfl, hs9, ht9⟩
set_option maxRecDepth 100000 in
set_option maxHeartbeats 8000000 in
theorem ramt_z {w : World} {g : Nat} {q : Option Nat} {cs : List Int} (h : SR w g q 0 (((0 : Nat) : Int) :: cs)) (hq : ∀ b, q = some b → b < w.heap.size)  :
    Calls Try.prog 179 #[.pointer (some ⟨g, 0, none⟩)] w (GotR w g q (.agg (W4 0)) (0, cs)) := by
  have hgl := h.lt
  have hA : Below w.heap.size w (w.alloc (.cells #[Value.int .u64 0, .int .u64 0, .int .u64 0, .int .u64 0] 31)) := (Below.refl _ _).alloc (Nat.le_refl _) _
  have hsz : (w.alloc (.cells #[Value.int .u64 0, .int .u64 0, .int .u64 0, .int .u64 0] 31)).heap.size = w.heap.size + 1 := by simp
  have r0 : Row (w.alloc (.cells #[Value.int .u64 0, .int .u64 0, .int .u64 0, .int .u64 0] 31)) w.heap.size 31 #[.int .u64 0, .int .u64 0, .int .u64 0, .int .u64 0] := Row.new_at rfl
  obtain ⟨n, hn0⟩ : ∃ n : Nat, 0 = n := ⟨_, rfl⟩
  rw [hn0] at h
  have hn : n ≤ 32 := by omega
  have hn3 : (n : Int) ≤ 32 := by omega
  have hn4 : (n : Int) ≤ 0 := by omega
  have hby0 : By (cs) := fun x hx => h.2.1 x (List.mem_cons_of_mem _ hx)
  have hE : tkE n 0 (cs) = 0 := by unfold tkE; subst hn0; simp
  have hO : tkO n 0 (cs) = [] := by unfold tkO; subst hn0; simp
  have hR : tkR n 0 (cs) = cs := by unfold tkR; subst hn0; simp
  have HE := Lib.hid (show _ ∧ _ ∧ _ from ⟨hE, hO, hR⟩)
  have hOby : By ([]) := By.nil
  have hOl : ([] : List Int).length = n := by exact hn0
  obtain ⟨k, hk⟩ : ∃ k, 32 - n = k := ⟨_, rfl⟩
  have ek : (32 : Int) - (n : Int) = (k : Int) := by omega
  have wk : IntKind.i64.wrap (k : Int) = (k : Int) := by rw [IntKind.wrap_i64]; omega
  have mk := make8 k (by omega)
  have hzb : By (List.replicate k 0) := fun x hx => by rw [(List.mem_replicate.1 hx).2]; omega
  have HO := Lib.hid (show _ ∧ _ ∧ _ ∧ _ from ⟨hOby, hOl, hk, hzb⟩)
  clear hOby hOl hk hzb
  clear hE hO hR hby0 hn0
  have hby := rbyte_at (h.below hA)
  rw [show byO 0 ((n : Int) :: cs) = (n : Int) from by unfold byO tkO; simp, show tkE 1 0 ((n : Int) :: cs) = 0 from by unfold tkE; simp, show tkR 1 0 ((n : Int) :: cs) = cs from by unfold tkR; simp] at hby
  replace hby := Lib.hid hby
  have R0 := Lib.hid (show _ ∧ _ ∧ _ from ⟨hA, hsz, r0⟩)
  have wn : IntKind.i64.wrap (n : Int) = (n : Int) := by rw [IntKind.wrap_i64]; omega
  clear h hA hsz r0
  go_enter Try.func179, Try.ntmps179
  go_wp2_with fail
  refine hby.out.mono ?_
  rintro r w1 ⟨rfl, hs, ht⟩
  have c1 := hs.e1
  have r1 := K6.Row.tr R0.out.2.2 ht (by omega)
  replace ht : Tr (fun b => b = g) w w1 := (Tr.of R0.out.1 : Tr (fun b => b = g) w _).trans ht
  clear hby R0
  obtain ⟨a0, cp, k0⟩ := hs.b0
  have tk := rtake_at n hs
  unfold RTook at tk
  rw [HE.out.1, HE.out.2.1, HE.out.2.2] at tk
  replace tk := Lib.hid tk
  have HS := Lib.hid (show _ ∧ _ from ⟨ht, r1⟩)
  have hsw := r1.lt
  clear hs ht r1 HE
  go_wp2_with fail
  refine tk.out.mono ?_
  rintro r w2 ⟨v, rfl, ho, hs, ht3⟩
  have r0 := K6.Row.tr HS.out.2 ht3 (by omega)
  have ht : Tr (fun b => b = g) w w2 := HS.out.1.trans ht3
  clear HS tk ht3 c1 k0
  have c1 := hs.e1
  have ha : Below w2.heap.size w2 (w2.alloc (.cells (bv (List.replicate k 0)).toArray 5)) := (Below.refl _ _).alloc (Nat.le_refl _) _
  have hoA := made_own k (by omega) w2
  have hkl : k ≤ 32 := by have h9 := HO.out.2.2.1; omega
  obtain ⟨v2, w3, hrun, ho2, hg, -⟩ := append_run hoA (ho.bs.below ha) (by rw [List.length_replicate]; show k + 0 ≤ _; omega) (by simp)
  have hl3 : Below w2.heap.size w2 w3 := grew_below (Nat.le_refl _) (fun b hb => (hoA.lt b hb).1) hg
  have hlen : (List.replicate k 0 ++ ([] : List Int)).length = 32 := by have h8 := HO.out.2.1; have h9 := HO.out.2.2.1; rw [List.length_append, List.length_replicate]; simp at h8; show k + 0 = 32; omega
  have k96 := Lib.hid (rfrom32 hlen (HO.out.2.2.2.app HO.out.1) ho2)
  rw [beV_zeros] at k96
  obtain ⟨y0, y1, y2, y3, hW⟩ : ∃ y0 y1 y2 y3 : Int, W4 (beV ([])) = #[.int .u64 y0, .int .u64 y1, .int .u64 y2, .int .u64 y3] := ⟨_, _, _, _, rfl⟩
  rw [hW] at k96
  replace hW := Lib.hid hW
  have HS := Lib.hid (show _ ∧ _ ∧ _ ∧ _ from ⟨hs, ht, r0, hl3⟩)
  clear ha hoA ho hg hl3 hlen hs ht r0 HO ho2 hkl
  go_wp2_with (at_builtin; refine wpList_app rfl rfl rfl rfl hrun ?_)
  refine k96.out.mono ?_
  rintro r w4 ⟨rfl, hb4⟩
  obtain ⟨hs, ht, r0, hl3⟩ := HS.out
  have hl4 := hl3.trans (hb4.mono hl3.size)
  clear HS k96 hrun hl3 hb4
  have HL := Lib.hid (show _ ∧ _ ∧ _ ∧ _ from ⟨hs, ht, r0, hl4⟩)
  clear hs ht r0 hl4
  go_upto_region 14 with (fail)
  obtain ⟨hs, ht, r0, hl4⟩ := HL.out
  have hA4 : Below w4.heap.size w4 (w4.alloc (.cells #[.int .u64 y0, .int .u64 y1, .int .u64 y2, .int .u64 y3] 31)) := (Below.refl _ _).alloc (Nat.le_refl _) _
  have hl5 := hl4.trans (hA4.mono hl4.size)
  refine wp_abs (fun wx => SR wx g q 0 (cs) ∧ Tr (fun b => b = g) w wx ∧ Row wx w.heap.size 31 #[.int .u64 0, .int .u64 0, .int .u64 0, .int .u64 0] ∧ Row wx w4.heap.size 31 #[.int .u64 y0, .int .u64 y1, .int .u64 y2, .int .u64 y3]) ⟨hs.below hl5, ht.trans (Tr.of hl5), r0.below hl5 r0.lt, Row.new_at rfl⟩ ?_
  have h05 : w.heap.size < w4.heap.size := Nat.lt_of_lt_of_le r0.lt hl4.size
  clear hs ht r0 hl4 hA4 hl5 HL c1
  rintro w8 ⟨hs, ht, r0, r5⟩
  go_upto_region 14 with (fail)
  let L : List Sp := [sO 1 (w.heap.size) 31 [0] (fun g => aggOf g 0)]
  refine wp_region_six0 (shs L) (look6 L) (fun c => c = w.heap.size) (by kernel_rfl) (by kernel_rfl) (mk_St L [1] [1] (by kernel_rfl) (by kernel_rfl) ⟨ok_O aggOf_congr r0.lt (rfl), trivial⟩ (by simp)) ?_
  intro QQ hQ
  -- 0: load<31> *t5
  refine stepK rfl (by kernel_rfl) (fun K hK => ?_); go_simp
  apply Exists.intro; apply And.intro; (focus exact kLoad rfl rfl aggT31 r5 rfl id); refine hK _ _ ?_; clear hK K
  -- 1: store<31> *t2 = t61
  refine stepS _ rfl (by kernel_rfl) (fun K hK => ?_); go_simp
  refine ⟨?_, ?_⟩
  · exact sStoreO rfl rfl rfl rfl rfl rfl r0 id (by kernel_rfl) rfl (by kernel_rfl) (by decide) aggOf_congr
  rintro ⟨v1, lo1, hi1⟩ - - (rfl : v1 = undef)
  refine hK _ _ ?_; clear hK K
  refine stepN ?_
  refine hQ _ _ ?_
  intro w9 hT hG hF
  have x0 : Row w9 (w.heap.size) 31 (#[.int .u64 y0, .int .u64 y1, .int .u64 y2, .int .u64 y3]) := hF 1 _ rfl rfl (by decide)
  have hs9 := hs.keep hT (fun hc => by have hc' : g = w.heap.size := hc; omega) (fun b hb hc => by have hc' : b = w.heap.size := hc; have := hq b hb; omega)
  have ht9 := ht.trans_new hT (fun b hb hlt => by have hb' : b = w.heap.size := hb; omega)
  clear hT hG hF hQ QQ L
  go_wp2_with fail
  refine bodyPost_ret (results_c rfl aggT31 rfl x0 rfl) rfl ?_
  exact ⟨by rw [← hW.out]; rfl, hs9, ht9⟩
set_option maxRecDepth 100000 in
set_option maxHeartbeats 8000000 in
theorem ramt_e {w : World} {g n : Nat} {q : Option Nat} (h : SR w g q 0 ((n : Int) :: [])) (hq : ∀ b, q = some b → b < w.heap.size) (hn : n ≤ 32) (h0 : 0 < n) :
    Calls Try.prog 179 #[.pointer (some ⟨g, 0, none⟩)] w (GotR w g q (.agg #[.int .u64 0, .int .u64 0, .int .u64 0, .int .u64 0]) (3, [])) := by
  have hgl := h.lt
  have hA : Below w.heap.size w (w.alloc (.cells #[Value.int .u64 0, .int .u64 0, .int .u64 0, .int .u64 0] 31)) := (Below.refl _ _).alloc (Nat.le_refl _) _
  have hsz : (w.alloc (.cells #[Value.int .u64 0, .int .u64 0, .int .u64 0, .int .u64 0] 31)).heap.size = w.heap.size + 1 := by simp
  have r0 : Row (w.alloc (.cells #[Value.int .u64 0, .int .u64 0, .int .u64 0, .int .u64 0] 31)) w.heap.size 31 #[.int .u64 0, .int .u64 0, .int .u64 0, .int .u64 0] := Row.new_at rfl
  have hn3 : (n : Int) ≤ 32 := by omega
  have hn4 : (0 : Int) < (n : Int) := by omega
  have hby0 : By ([]) := fun x hx => h.2.1 x (List.mem_cons_of_mem _ hx)
  have hE : tkE n 0 ([]) = 3 := by unfold tkE; rw [if_pos rfl, if_neg (by simp; omega)]
  have hO : tkO n 0 ([]) = [] := by unfold tkO; rw [if_pos rfl, if_neg (by simp; omega)]
  have hR : tkR n 0 ([]) = [] := by unfold tkR; rw [if_pos rfl, if_neg (by simp; omega)]
  have HE := Lib.hid (show _ ∧ _ ∧ _ from ⟨hE, hO, hR⟩)
  clear hE hO hR hby0
  have hby := rbyte_at (h.below hA)
  rw [show byO 0 ((n : Int) :: []) = (n : Int) from by unfold byO tkO; simp, show tkE 1 0 ((n : Int) :: []) = 0 from by unfold tkE; simp, show tkR 1 0 ((n : Int) :: []) = [] from by unfold tkR; simp] at hby
  replace hby := Lib.hid hby
  have R0 := Lib.hid (show _ ∧ _ ∧ _ from ⟨hA, hsz, r0⟩)
  have wn : IntKind.i64.wrap (n : Int) = (n : Int) := by rw [IntKind.wrap_i64]; omega
  clear h hA hsz r0
  go_enter Try.func179, Try.ntmps179
  go_wp2_with fail
  refine hby.out.mono ?_
  rintro r w1 ⟨rfl, hs, ht⟩
  have c1 := hs.e1
  have r1 := K6.Row.tr R0.out.2.2 ht (by omega)
  replace ht : Tr (fun b => b = g) w w1 := (Tr.of R0.out.1 : Tr (fun b => b = g) w _).trans ht
  clear hby R0
  obtain ⟨a0, cp, k0⟩ := hs.b0
  have tk := rtake_at n hs
  unfold RTook at tk
  rw [HE.out.1, HE.out.2.1, HE.out.2.2] at tk
  replace tk := Lib.hid tk
  have HS := Lib.hid (show _ ∧ _ from ⟨ht, r1⟩)
  have hsw := r1.lt
  clear hs ht r1 HE
  go_wp2_with fail
  refine tk.out.mono ?_
  rintro r w2 ⟨v, rfl, ho, hs, ht3⟩
  have r0 := K6.Row.tr HS.out.2 ht3 (by omega)
  have ht : Tr (fun b => b = g) w w2 := HS.out.1.trans ht3
  clear HS tk ht3 c1 k0
  have c1 := hs.e1
  clear ho hsw
  go_upto_region 12 with (fail)
  let L : List Sp := [sO 1 (w.heap.size) 31 [0] (fun g => aggOf g 0)]
  refine wp_region_six0 (shs L) (look6 L) (fun c => c = w.heap.size) (by kernel_rfl) (by kernel_rfl) (mk_St L [1] [1] (by kernel_rfl) (by kernel_rfl) ⟨ok_O aggOf_congr r0.lt (rfl), trivial⟩ (by simp)) ?_
  intro QQ hQ
  -- 0: build<31> 
  refine stepK rfl (by kernel_rfl) (fun K hK => ?_); go_simp
  apply Exists.intro; apply And.intro; (focus (intro wk hk; go_simp; exact ⟨rfl, rfl⟩)); refine hK _ _ ?_; clear hK K
  -- 1: store<31> *t2 = t51
  refine stepS _ rfl (by kernel_rfl) (fun K hK => ?_); go_simp
  refine ⟨?_, ?_⟩
  · exact sStoreO rfl rfl rfl rfl rfl rfl r0 id (by kernel_rfl) rfl (by kernel_rfl) (by decide) aggOf_congr
  rintro ⟨v1, lo1, hi1⟩ - - (rfl : v1 = undef)
  refine hK _ _ ?_; clear hK K
  refine stepN ?_
  refine hQ _ _ ?_
  intro w9 hT hG hF
  have x0 : Row w9 (w.heap.size) 31 (#[.int .u64 0, .int .u64 0, .int .u64 0, .int .u64 0]) := hF 1 _ rfl rfl (by decide)
  have hs9 := hs.keep hT (fun hc => by have hc' : g = w.heap.size := hc; omega) (fun b hb hc => by have hc' : b = w.heap.size := hc; have := hq b hb; omega)
  have ht9 := ht.trans_new hT (fun b hb hlt => by have hb' : b = w.heap.size := hb; omega)
  clear hT hG hF hQ QQ L
  go_wp2_with fail
  refine bodyPost_ret (results_c rfl aggT31 rfl x0 rfl) rfl ?_
  exact ⟨rfl, hs9, ht9⟩
set_option maxRecDepth 100000 in
set_option maxHeartbeats 8000000 in
theorem ramt_f2 {w : World} {g n : Nat} {q : Option Nat} {d : Int} {ds : List Int} (h : SR w g q 0 ((n : Int) :: d :: ds)) (hq : ∀ b, q = some b → b < w.heap.size) (hn : n ≤ 32) (h0 : 0 < n) (hd : d ≠ 0) (hm : n ≤ (d :: ds).length) :
    Calls Try.prog 179 #[.pointer (some ⟨g, 0, none⟩)] w (GotR w g q (.agg (W4 (beV ((d :: ds).take n)))) (0, (d :: ds).drop n)) := by
  have hgl := h.lt
  have hA : Below w.heap.size w (w.alloc (.cells #[Value.int .u64 0, .int .u64 0, .int .u64 0, .int .u64 0] 31)) := (Below.refl _ _).alloc (Nat.le_refl _) _
  have hsz : (w.alloc (.cells #[Value.int .u64 0, .int .u64 0, .int .u64 0, .int .u64 0] 31)).heap.size = w.heap.size + 1 := by simp
  have r0 : Row (w.alloc (.cells #[Value.int .u64 0, .int .u64 0, .int .u64 0, .int .u64 0] 31)) w.heap.size 31 #[.int .u64 0, .int .u64 0, .int .u64 0, .int .u64 0] := Row.new_at rfl
  have hn3 : (n : Int) ≤ 32 := by omega
  have hn4 : (0 : Int) < (n : Int) := by omega
  have hdq : (d == 0) = false := by rw [beq_eq_false_iff_ne]; exact hd
  have hby0 : By (d :: ds) := fun x hx => h.2.1 x (List.mem_cons_of_mem _ hx)
  have hE : tkE n 0 (d :: ds) = 0 := by unfold tkE; rw [if_pos rfl, if_pos hm]
  have hO : tkO n 0 (d :: ds) = (d :: ds).take n := by unfold tkO; rw [if_pos rfl, if_pos hm]
  have hR : tkR n 0 (d :: ds) = (d :: ds).drop n := by unfold tkR; rw [if_pos rfl, if_pos hm]
  have HE := Lib.hid (show _ ∧ _ ∧ _ from ⟨hE, hO, hR⟩)
  have hOby : By ((d :: ds).take n) := hby0.take _
  have hOl : ((d :: ds).take n : List Int).length = n := by rw [List.length_take]; omega
  obtain ⟨k, hk⟩ : ∃ k, 32 - n = k := ⟨_, rfl⟩
  have ek : (32 : Int) - (n : Int) = (k : Int) := by omega
  have wk : IntKind.i64.wrap (k : Int) = (k : Int) := by rw [IntKind.wrap_i64]; omega
  have mk := make8 k (by omega)
  have hzb : By (List.replicate k 0) := fun x hx => by rw [(List.mem_replicate.1 hx).2]; omega
  have HO := Lib.hid (show _ ∧ _ ∧ _ ∧ _ from ⟨hOby, hOl, hk, hzb⟩)
  clear hOby hOl hk hzb
  clear hE hO hR hby0 hd hm
  have hby := rbyte_at (h.below hA)
  rw [show byO 0 ((n : Int) :: d :: ds) = (n : Int) from by unfold byO tkO; simp, show tkE 1 0 ((n : Int) :: d :: ds) = 0 from by unfold tkE; simp, show tkR 1 0 ((n : Int) :: d :: ds) = d :: ds from by unfold tkR; simp] at hby
  replace hby := Lib.hid hby
  have R0 := Lib.hid (show _ ∧ _ ∧ _ from ⟨hA, hsz, r0⟩)
  have wn : IntKind.i64.wrap (n : Int) = (n : Int) := by rw [IntKind.wrap_i64]; omega
  clear h hA hsz r0
  go_enter Try.func179, Try.ntmps179
  go_wp2_with fail
  refine hby.out.mono ?_
  rintro r w1 ⟨rfl, hs, ht⟩
  have c1 := hs.e1
  have r1 := K6.Row.tr R0.out.2.2 ht (by omega)
  replace ht : Tr (fun b => b = g) w w1 := (Tr.of R0.out.1 : Tr (fun b => b = g) w _).trans ht
  clear hby R0
  obtain ⟨b, o, cp, k0, k1⟩ := hs.hd
  have hpos : (0 : Int) < ((ds.length + 1 : Nat) : Int) := by omega
  have tk := rtake_at n hs
  unfold RTook at tk
  rw [HE.out.1, HE.out.2.1, HE.out.2.2] at tk
  replace tk := Lib.hid tk
  have HS := Lib.hid (show _ ∧ _ from ⟨ht, r1⟩)
  have hsw := r1.lt
  clear hs ht r1 HE
  go_wp2_with fail
  refine tk.out.mono ?_
  rintro r w2 ⟨v, rfl, ho, hs, ht3⟩
  have r0 := K6.Row.tr HS.out.2 ht3 (by omega)
  have ht : Tr (fun b => b = g) w w2 := HS.out.1.trans ht3
  clear HS tk ht3 c1 k0 k1 hpos hdq
  have c1 := hs.e1
  have ha : Below w2.heap.size w2 (w2.alloc (.cells (bv (List.replicate k 0)).toArray 5)) := (Below.refl _ _).alloc (Nat.le_refl _) _
  have hoA := made_own k (by omega) w2
  have hkl : k ≤ 32 := by have h9 := HO.out.2.2.1; omega
  obtain ⟨v2, w3, hrun, ho2, hg, -⟩ := append_run hoA (ho.bs.below ha) (by rw [List.length_replicate, HO.out.2.1]; omega) (by simp)
  have hl3 : Below w2.heap.size w2 w3 := grew_below (Nat.le_refl _) (fun b hb => (hoA.lt b hb).1) hg
  have hlen : (List.replicate k 0 ++ (d :: ds).take n).length = 32 := by rw [List.length_append, List.length_replicate, HO.out.2.1]; have := HO.out.2.2.1; omega
  have k96 := Lib.hid (rfrom32 hlen (HO.out.2.2.2.app HO.out.1) ho2)
  rw [beV_zeros] at k96
  obtain ⟨y0, y1, y2, y3, hW⟩ : ∃ y0 y1 y2 y3 : Int, W4 (beV ((d :: ds).take n)) = #[.int .u64 y0, .int .u64 y1, .int .u64 y2, .int .u64 y3] := ⟨_, _, _, _, rfl⟩
  rw [hW] at k96
  replace hW := Lib.hid hW
  have HS := Lib.hid (show _ ∧ _ ∧ _ ∧ _ from ⟨hs, ht, r0, hl3⟩)
  clear ha hoA ho hg hl3 hlen hs ht r0 HO ho2 hkl
  go_wp2_with (at_builtin; refine wpList_app rfl rfl rfl rfl hrun ?_)
  refine k96.out.mono ?_
  rintro r w4 ⟨rfl, hb4⟩
  obtain ⟨hs, ht, r0, hl3⟩ := HS.out
  have hl4 := hl3.trans (hb4.mono hl3.size)
  clear HS k96 hrun hl3 hb4
  have HL := Lib.hid (show _ ∧ _ ∧ _ ∧ _ from ⟨hs, ht, r0, hl4⟩)
  clear hs ht r0 hl4
  go_upto_region 14 with (fail)
  obtain ⟨hs, ht, r0, hl4⟩ := HL.out
  have hA4 : Below w4.heap.size w4 (w4.alloc (.cells #[.int .u64 y0, .int .u64 y1, .int .u64 y2, .int .u64 y3] 31)) := (Below.refl _ _).alloc (Nat.le_refl _) _
  have hl5 := hl4.trans (hA4.mono hl4.size)
  refine wp_abs (fun wx => SR wx g q 0 ((d :: ds).drop n) ∧ Tr (fun b => b = g) w wx ∧ Row wx w.heap.size 31 #[.int .u64 0, .int .u64 0, .int .u64 0, .int .u64 0] ∧ Row wx w4.heap.size 31 #[.int .u64 y0, .int .u64 y1, .int .u64 y2, .int .u64 y3]) ⟨hs.below hl5, ht.trans (Tr.of hl5), r0.below hl5 r0.lt, Row.new_at rfl⟩ ?_
  have h05 : w.heap.size < w4.heap.size := Nat.lt_of_lt_of_le r0.lt hl4.size
  clear hs ht r0 hl4 hA4 hl5 HL c1
  rintro w8 ⟨hs, ht, r0, r5⟩
  go_upto_region 14 with (fail)
  let L : List Sp := [sO 1 (w.heap.size) 31 [0] (fun g => aggOf g 0)]
  refine wp_region_six0 (shs L) (look6 L) (fun c => c = w.heap.size) (by kernel_rfl) (by kernel_rfl) (mk_St L [1] [1] (by kernel_rfl) (by kernel_rfl) ⟨ok_O aggOf_congr r0.lt (rfl), trivial⟩ (by simp)) ?_
  intro QQ hQ
  -- 0: load<31> *t5
  refine stepK rfl (by kernel_rfl) (fun K hK => ?_); go_simp
  apply Exists.intro; apply And.intro; (focus exact kLoad rfl rfl aggT31 r5 rfl id); refine hK _ _ ?_; clear hK K
  -- 1: store<31> *t2 = t61
  refine stepS _ rfl (by kernel_rfl) (fun K hK => ?_); go_simp
  refine ⟨?_, ?_⟩
  · exact sStoreO rfl rfl rfl rfl rfl rfl r0 id (by kernel_rfl) rfl (by kernel_rfl) (by decide) aggOf_congr
  rintro ⟨v1, lo1, hi1⟩ - - (rfl : v1 = undef)
  refine hK _ _ ?_; clear hK K
  refine stepN ?_
  refine hQ _ _ ?_
  intro w9 hT hG hF
  have x0 : Row w9 (w.heap.size) 31 (#[.int .u64 y0, .int .u64 y1, .int .u64 y2, .int .u64 y3]) := hF 1 _ rfl rfl (by decide)
  have hs9 := hs.keep hT (fun hc => by have hc' : g = w.heap.size := hc; omega) (fun b hb hc => by have hc' : b = w.heap.size := hc; have := hq b hb; omega)
  have ht9 := ht.trans_new hT (fun b hb hlt => by have hb' : b = w.heap.size := hb; omega)
  clear hT hG hF hQ QQ L
  go_wp2_with fail
  refine bodyPost_ret (results_c rfl aggT31 rfl x0 rfl) rfl ?_
  exact ⟨by rw [← hW.out], hs9, ht9⟩
set_option maxRecDepth 100000 in
set_option maxHeartbeats 8000000 in
theorem ramt_s {w : World} {g n : Nat} {q : Option Nat} {d : Int} {ds : List Int} (h : SR w g q 0 ((n : Int) :: d :: ds)) (hq : ∀ b, q = some b → b < w.heap.size) (hn : n ≤ 32) (h0 : 0 < n) (hd : d ≠ 0) (hm : (d :: ds).length < n) :
    Calls Try.prog 179 #[.pointer (some ⟨g, 0, none⟩)] w (GotR w g q (.agg #[.int .u64 0, .int .u64 0, .int .u64 0, .int .u64 0]) (3, [])) := by
  have hgl := h.lt
  have hA : Below w.heap.size w (w.alloc (.cells #[Value.int .u64 0, .int .u64 0, .int .u64 0, .int .u64 0] 31)) := (Below.refl _ _).alloc (Nat.le_refl _) _
  have hsz : (w.alloc (.cells #[Value.int .u64 0, .int .u64 0, .int .u64 0, .int .u64 0] 31)).heap.size = w.heap.size + 1 := by simp
  have r0 : Row (w.alloc (.cells #[Value.int .u64 0, .int .u64 0, .int .u64 0, .int .u64 0] 31)) w.heap.size 31 #[.int .u64 0, .int .u64 0, .int .u64 0, .int .u64 0] := Row.new_at rfl
  have hn3 : (n : Int) ≤ 32 := by omega
  have hn4 : (0 : Int) < (n : Int) := by omega
  have hdq : (d == 0) = false := by rw [beq_eq_false_iff_ne]; exact hd
  have hby0 : By (d :: ds) := fun x hx => h.2.1 x (List.mem_cons_of_mem _ hx)
  have hE : tkE n 0 (d :: ds) = 3 := by unfold tkE; rw [if_pos rfl, if_neg (by omega)]
  have hO : tkO n 0 (d :: ds) = [] := by unfold tkO; rw [if_pos rfl, if_neg (by omega)]
  have hR : tkR n 0 (d :: ds) = [] := by unfold tkR; rw [if_pos rfl, if_neg (by omega)]
  have HE := Lib.hid (show _ ∧ _ ∧ _ from ⟨hE, hO, hR⟩)
  clear hE hO hR hby0 hd hm
  have hby := rbyte_at (h.below hA)
  rw [show byO 0 ((n : Int) :: d :: ds) = (n : Int) from by unfold byO tkO; simp, show tkE 1 0 ((n : Int) :: d :: ds) = 0 from by unfold tkE; simp, show tkR 1 0 ((n : Int) :: d :: ds) = d :: ds from by unfold tkR; simp] at hby
  replace hby := Lib.hid hby
  have R0 := Lib.hid (show _ ∧ _ ∧ _ from ⟨hA, hsz, r0⟩)
  have wn : IntKind.i64.wrap (n : Int) = (n : Int) := by rw [IntKind.wrap_i64]; omega
  clear h hA hsz r0
  go_enter Try.func179, Try.ntmps179
  go_wp2_with fail
  refine hby.out.mono ?_
  rintro r w1 ⟨rfl, hs, ht⟩
  have c1 := hs.e1
  have r1 := K6.Row.tr R0.out.2.2 ht (by omega)
  replace ht : Tr (fun b => b = g) w w1 := (Tr.of R0.out.1 : Tr (fun b => b = g) w _).trans ht
  clear hby R0
  obtain ⟨b, o, cp, k0, k1⟩ := hs.hd
  have hpos : (0 : Int) < ((ds.length + 1 : Nat) : Int) := by omega
  have tk := rtake_at n hs
  unfold RTook at tk
  rw [HE.out.1, HE.out.2.1, HE.out.2.2] at tk
  replace tk := Lib.hid tk
  have HS := Lib.hid (show _ ∧ _ from ⟨ht, r1⟩)
  have hsw := r1.lt
  clear hs ht r1 HE
  go_wp2_with fail
  refine tk.out.mono ?_
  rintro r w2 ⟨v, rfl, ho, hs, ht3⟩
  have r0 := K6.Row.tr HS.out.2 ht3 (by omega)
  have ht : Tr (fun b => b = g) w w2 := HS.out.1.trans ht3
  clear HS tk ht3 c1 k0 k1 hpos hdq
  have c1 := hs.e1
  clear ho hsw
  go_upto_region 12 with (fail)
  let L : List Sp := [sO 1 (w.heap.size) 31 [0] (fun g => aggOf g 0)]
  refine wp_region_six0 (shs L) (look6 L) (fun c => c = w.heap.size) (by kernel_rfl) (by kernel_rfl) (mk_St L [1] [1] (by kernel_rfl) (by kernel_rfl) ⟨ok_O aggOf_congr r0.lt (rfl), trivial⟩ (by simp)) ?_
  intro QQ hQ
  -- 0: build<31> 
  refine stepK rfl (by kernel_rfl) (fun K hK => ?_); go_simp
  apply Exists.intro; apply And.intro; (focus (intro wk hk; go_simp; exact ⟨rfl, rfl⟩)); refine hK _ _ ?_; clear hK K
  -- 1: store<31> *t2 = t51
  refine stepS _ rfl (by kernel_rfl) (fun K hK => ?_); go_simp
  refine ⟨?_, ?_⟩
  · exact sStoreO rfl rfl rfl rfl rfl rfl r0 id (by kernel_rfl) rfl (by kernel_rfl) (by decide) aggOf_congr
  rintro ⟨v1, lo1, hi1⟩ - - (rfl : v1 = undef)
  refine hK _ _ ?_; clear hK K
  refine stepN ?_
  refine hQ _ _ ?_
  intro w9 hT hG hF
  have x0 : Row w9 (w.heap.size) 31 (#[.int .u64 0, .int .u64 0, .int .u64 0, .int .u64 0]) := hF 1 _ rfl rfl (by decide)
  have hs9 := hs.keep hT (fun hc => by have hc' : g = w.heap.size := hc; omega) (fun b hb hc => by have hc' : b = w.heap.size := hc; have := hq b hb; omega)
  have ht9 := ht.trans_new hT (fun b hb hlt => by have hb' : b = w.heap.size := hb; omega)
  clear hT hG hF hQ QQ L
  go_wp2_with fail
  refine bodyPost_ret (results_c rfl aggT31 rfl x0 rfl) rfl ?_
  exact ⟨rfl, hs9, ht9⟩
/-- Amount -/
theorem ramt_at {w : World} {g : Nat} {q : Option Nat} {e : Int} {xs : List Int} (h : SR w g q e xs) (hq : ∀ b, q = some b → b < w.heap.size) :
    Calls Try.prog 179 #[.pointer (some ⟨g, 0, none⟩)] w (GotR w g q (.agg (W4 (gA (e, xs)).1)) (gA (e, xs)).2) := by
  by_cases he : e = 0
  · subst he
    match xs, h with
    | [], h =>
      have h2 := ramt_f h hq (by unfold byO tkO; simp) (by unfold tkE; simp) (by unfold tkR; simp)
      rw [show tkE 1 0 [] = 3 from by unfold tkE; simp, W4_zero] at h2
      exact h2
    | c :: cs, h =>
      have hc := h.2.1 c (List.mem_cons_self ..)
      obtain ⟨n, rfl⟩ : ∃ n : Nat, c = (n : Int) := ⟨c.toNat, by omega⟩
      unfold gA
      rw [if_pos rfl]
      simp only
      by_cases h32 : 32 < n
      · rw [if_pos (.inl (by omega))]
        have h2 := ramt_big h hq h32 (by omega)
        rw [W4_zero] at h2
        exact h2
      · by_cases hz : n = 0
        · subst hz
          rw [if_neg (by rintro (h | ⟨h, -⟩) <;> omega), if_pos (by simp)]
          exact ramt_z h hq
        · match cs, h with
          | [], h =>
            rw [if_neg (by rintro (h | ⟨-, h⟩); omega; cases h), if_neg (by simp; omega)]
            have h2 := ramt_e h hq (by omega) (by omega)
            rw [W4_zero] at h2
            exact h2
          | d :: ds, h =>
            by_cases hd : d = 0
            · subst hd
              rw [if_pos (.inr ⟨by omega, rfl⟩)]
              have h2 := ramt_lead h hq (by omega) (by omega)
              rw [W4_zero] at h2
              exact h2
            · rw [if_neg (by rintro (h | ⟨-, h⟩); omega; exact hd (Option.some.inj h))]
              by_cases hm : n ≤ (d :: ds).length
              · rw [if_pos (by rw [Int.toNat_natCast]; exact hm)]
                have h2 := ramt_f2 h hq (by omega) (by omega) hd hm
                rw [Int.toNat_natCast]
                exact h2
              · rw [if_neg (by rw [Int.toNat_natCast]; exact hm)]
                have h2 := ramt_s h hq (by omega) (by omega) hd (by omega)
                rw [W4_zero] at h2
                exact h2
  · have hx := h.1 he
    subst hx
    have h2 := ramt_f h hq (by unfold byO tkO; rw [if_neg he]; rfl) (by unfold tkE; rw [if_neg he]; exact he) (by unfold tkR; rw [if_neg he])
    rw [show tkE 1 e [] = e from by unfold tkE; rw [if_neg he], W4_zero] at h2
    unfold gA
    rw [if_neg he]
    exact h2
end Go.Proofs.Ytpdenhmkpiafiaa
