/-
  octet.Source over any bytes: Amount (62), Hash (68), Text (63).
-/
import Derived.Test.YtpdenhmkpiafiaaOctPlain
namespace Go.Proofs.Ytpdenhmkpiafiaa
open Go Go.RowKit K6

/-- what a source's operation leaves: the value, the state s, and all but the source as it was -/
def Got (w : World) (lo hi g : Nat) (v : Value) (s : St) (r : Ending) (w' : World) : Prop := r = .returned v ∧ SA w' lo hi g s.1 s.2 ∧ Tr (fun b => b = g) w w'
set_option maxRecDepth 100000 in
set_option maxHeartbeats 8000000 in
theorem samt_f {w : World} {lo hi g : Nat} {e : Int} {xs : List Int} (h : SA w lo hi g e xs) (hhi : hi ≤ w.heap.size) (h0 : byO e xs = 0) (h1 : tkE 1 e xs ≠ 0) (h2 : tkR 1 e xs = []) :
    Calls Try.prog 62 #[.pointer (some ⟨g, 0, none⟩)] w (Got w lo hi g (.agg #[.int .u64 0, .int .u64 0, .int .u64 0, .int .u64 0]) (tkE 1 e xs, [])) := by
  have hgh : g < hi := h.2.1
  have hA : Below w.heap.size w (w.alloc (.cells #[Value.int .u64 0, .int .u64 0, .int .u64 0, .int .u64 0] 31)) := (Below.refl _ _).alloc (Nat.le_refl _) _
  have hsz : (w.alloc (.cells #[Value.int .u64 0, .int .u64 0, .int .u64 0, .int .u64 0] 31)).heap.size = w.heap.size + 1 := by simp
  have r0 : Row (w.alloc (.cells #[Value.int .u64 0, .int .u64 0, .int .u64 0, .int .u64 0] 31)) w.heap.size 31 #[.int .u64 0, .int .u64 0, .int .u64 0, .int .u64 0] := Row.new_at rfl
  have hby := byte_at (h.below hA)
  rw [h0, h2] at hby
  obtain ⟨k, hk⟩ : ∃ k, tkE 1 e xs = k := ⟨_, rfl⟩
  rw [hk] at h1 hby ⊢
  replace hby := Lib.hid hby
  have R0 := Lib.hid (show _ ∧ _ ∧ _ from ⟨hA, hsz, r0⟩)
  have H1 := Lib.hid h1
  clear h hA hsz r0 h0 h2 hk h1
  go_enter Try.func62, Try.ntmps62
  go_wp2_with fail
  refine hby.out.mono ?_
  rintro r w1 ⟨rfl, hs, ht⟩
  have ok := ok_at hs
  rw [decide_eq_false H1.out] at ok
  replace ok := Lib.hid ok
  have r1 := K6.Row.tr R0.out.2.2 ht (by omega)
  replace ht : Tr (fun b => b = g) w w1 := (Tr.of R0.out.1 : Tr (fun b => b = g) w _).trans ht
  have HS := Lib.hid (show _ ∧ _ ∧ _ from ⟨hs, ht, r1⟩)
  clear hby hs ht r1
  go_wp2_with fail
  refine ok.out.mono ?_
  rintro r w2 ⟨rfl, rfl⟩
  clear ok
  obtain ⟨hs, ht, r0⟩ := HS.out
  clear HS R0 H1
  go_upto_region 3 with (fail)
  let L : List Sp := [sO 1 (w.heap.size) 31 [0] (fun g => aggOf g 0)]
  refine wp_region_six0 (shs L) (look6 L) (fun c => c = w.heap.size) (by kernel_rfl) (by kernel_rfl) (mk_St L [1] [1] (by kernel_rfl) (by kernel_rfl) ⟨ok_O aggOf_congr r0.lt (rfl), trivial⟩ (by simp)) ?_
  intro QQ hQ
  -- 0: build<31> 
  refine stepK rfl (by kernel_rfl) (fun K hK => ?_); go_simp
  apply Exists.intro; apply And.intro; (focus (intro wk hk; go_simp; exact ⟨rfl, rfl⟩)); refine hK _ _ ?_; clear hK K
  -- 1: store<31> *t2 = t13
  refine stepS _ rfl (by kernel_rfl) (fun K hK => ?_); go_simp
  refine ⟨?_, ?_⟩
  · exact sStoreO rfl rfl rfl rfl rfl rfl r0 id (by kernel_rfl) rfl (by kernel_rfl) (by decide) aggOf_congr
  rintro ⟨v1, lo1, hi1⟩ - - (rfl : v1 = undef)
  refine hK _ _ ?_; clear hK K
  refine stepN ?_
  refine hQ _ _ ?_
  intro w9 hT hG hF
  have x0 : Row w9 (w.heap.size) 31 (#[.int .u64 0, .int .u64 0, .int .u64 0, .int .u64 0]) := hF 1 _ rfl rfl (by decide)
  have hs9 := hs.keep hT (fun b _ hb hc => by have hc' : b = w.heap.size := hc; omega)
  have ht9 := ht.trans_new hT (fun b hb hlt => by have hb' : b = w.heap.size := hb; omega)
  clear hT hG hF hQ QQ L
  go_wp2_with fail
  refine bodyPost_ret (results_c rfl aggT31 rfl x0 rfl) rfl ?_
  exact ⟨rfl, hs9, ht9⟩
set_option maxRecDepth 100000 in
set_option maxHeartbeats 8000000 in
theorem samt_big {w : World} {lo hi g n : Nat} {cs : List Int} (h : SA w lo hi g 0 ((n : Int) :: cs)) (hhi : hi ≤ w.heap.size) (hn : 32 < n) (hn2 : n < 256) :
    Calls Try.prog 62 #[.pointer (some ⟨g, 0, none⟩)] w (Got w lo hi g (.agg #[.int .u64 0, .int .u64 0, .int .u64 0, .int .u64 0]) (4, [])) := by
  have hgh : g < hi := h.2.1
  have hA : Below w.heap.size w (w.alloc (.cells #[Value.int .u64 0, .int .u64 0, .int .u64 0, .int .u64 0] 31)) := (Below.refl _ _).alloc (Nat.le_refl _) _
  have hsz : (w.alloc (.cells #[Value.int .u64 0, .int .u64 0, .int .u64 0, .int .u64 0] 31)).heap.size = w.heap.size + 1 := by simp
  have r0 : Row (w.alloc (.cells #[Value.int .u64 0, .int .u64 0, .int .u64 0, .int .u64 0] 31)) w.heap.size 31 #[.int .u64 0, .int .u64 0, .int .u64 0, .int .u64 0] := Row.new_at rfl
  have hn3 : (32 : Int) < (n : Int) := by omega
  have hby := byte_at (h.below hA)
  rw [show byO 0 ((n : Int) :: cs) = (n : Int) from by unfold byO tkO; simp, show tkE 1 0 ((n : Int) :: cs) = 0 from by unfold tkE; simp, show tkR 1 0 ((n : Int) :: cs) = cs from by unfold tkR; simp] at hby
  replace hby := Lib.hid hby
  have R0 := Lib.hid (show _ ∧ _ ∧ _ from ⟨hA, hsz, r0⟩)
  have wn : IntKind.i64.wrap (n : Int) = (n : Int) := by rw [IntKind.wrap_i64]; omega
  clear h hA hsz r0
  go_enter Try.func62, Try.ntmps62
  go_wp2_with fail
  refine hby.out.mono ?_
  rintro r w1 ⟨rfl, hs, ht⟩
  have ok := ok_at hs
  rw [decide_eq_true rfl] at ok
  replace ok := Lib.hid ok
  have r1 := K6.Row.tr R0.out.2.2 ht (by omega)
  have hsw : w.heap.size < w1.heap.size := Nat.lt_of_lt_of_le (by rw [R0.out.2.1]; omega) ht.size
  replace ht : Tr (fun b => b = g) w w1 := (Tr.of R0.out.1 : Tr (fun b => b = g) w _).trans ht
  have HS := Lib.hid (show _ ∧ _ ∧ _ from ⟨hs, ht, r1⟩)
  clear hby hs ht r1 R0
  go_wp2_with fail
  refine ok.out.mono ?_
  rintro r w2 ⟨rfl, rfl⟩
  clear ok
  go_upto_region 5 with (fail)
  obtain ⟨hs, ht, r1⟩ := HS.out
  clear HS
  have hB0 : ∀ x, Below w2.heap.size w2 (w2.alloc x) := fun x => (Below.refl _ _).alloc (Nat.le_refl _) _
  refine wp_abs (fun wx => SA wx lo hi g 0 (cs) ∧ Tr (fun b => b = g) w wx ∧ Row wx w.heap.size 31 #[.int .u64 0, .int .u64 0, .int .u64 0, .int .u64 0] ∧ Row wx w2.heap.size 34 zr32) ⟨hs.below (hB0 _), ht.trans (Tr.of (hB0 _)), r1.below (hB0 _) r1.lt, ?_⟩ ?_
  · refine Row.new_at ?_; simp
  rintro w5 ⟨hs5, ht5, r0, rT⟩
  have hh5 : hi ≤ w5.heap.size := Nat.le_trans hhi ht5.size
  clear hB0 hs ht r1
  have fl := Lib.hid (fail_at 4 hs5)
  have HS := Lib.hid (show _ ∧ _ from ⟨ht5, r0⟩)
  clear hs5 ht5 r0 rT
  go_wp2_with fail
  refine fl.out.mono ?_
  rintro r w3 ⟨⟨u, rfl⟩, hs, ht3⟩
  replace hs : SA w3 lo hi g 4 [] := by simpa using hs
  have r0 := K6.Row.tr HS.out.2 ht3 (by omega)
  have ht : Tr (fun b => b = g) w w3 := HS.out.1.trans ht3
  clear HS fl ht3
  go_upto_region 7 with (fail)
  let L : List Sp := [sO 1 (w.heap.size) 31 [0] (fun g => aggOf g 0)]
  refine wp_region_six0 (shs L) (look6 L) (fun c => c = w.heap.size) (by kernel_rfl) (by kernel_rfl) (mk_St L [1] [1] (by kernel_rfl) (by kernel_rfl) ⟨ok_O aggOf_congr r0.lt (rfl), trivial⟩ (by simp)) ?_
  intro QQ hQ
  -- 0: build<31> 
  refine stepK rfl (by kernel_rfl) (fun K hK => ?_); go_simp
  apply Exists.intro; apply And.intro; (focus (intro wk hk; go_simp; exact ⟨rfl, rfl⟩)); refine hK _ _ ?_; clear hK K
  -- 1: store<31> *t2 = t39
  refine stepS _ rfl (by kernel_rfl) (fun K hK => ?_); go_simp
  refine ⟨?_, ?_⟩
  · exact sStoreO rfl rfl rfl rfl rfl rfl r0 id (by kernel_rfl) rfl (by kernel_rfl) (by decide) aggOf_congr
  rintro ⟨v1, lo1, hi1⟩ - - (rfl : v1 = undef)
  refine hK _ _ ?_; clear hK K
  refine stepN ?_
  refine hQ _ _ ?_
  intro w9 hT hG hF
  have x0 : Row w9 (w.heap.size) 31 (#[.int .u64 0, .int .u64 0, .int .u64 0, .int .u64 0]) := hF 1 _ rfl rfl (by decide)
  have hs9 := hs.keep hT (fun b _ hb hc => by have hc' : b = w.heap.size := hc; omega)
  have ht9 := ht.trans_new hT (fun b hb hlt => by have hb' : b = w.heap.size := hb; omega)
  clear hT hG hF hQ QQ L
  go_wp2_with fail
  refine bodyPost_ret (results_c rfl aggT31 rfl x0 rfl) rfl ?_
  exact ⟨rfl, hs9, ht9⟩
set_option maxRecDepth 100000 in
set_option maxHeartbeats 8000000 in
theorem samt_lead {w : World} {lo hi g n : Nat} {ds : List Int} (h : SA w lo hi g 0 ((n : Int) :: 0 :: ds)) (hhi : hi ≤ w.heap.size) (hn : n ≤ 32) (h0 : 0 < n) :
    Calls Try.prog 62 #[.pointer (some ⟨g, 0, none⟩)] w (Got w lo hi g (.agg #[.int .u64 0, .int .u64 0, .int .u64 0, .int .u64 0]) (4, [])) := by
  have hgh : g < hi := h.2.1
  have hA : Below w.heap.size w (w.alloc (.cells #[Value.int .u64 0, .int .u64 0, .int .u64 0, .int .u64 0] 31)) := (Below.refl _ _).alloc (Nat.le_refl _) _
  have hsz : (w.alloc (.cells #[Value.int .u64 0, .int .u64 0, .int .u64 0, .int .u64 0] 31)).heap.size = w.heap.size + 1 := by simp
  have r0 : Row (w.alloc (.cells #[Value.int .u64 0, .int .u64 0, .int .u64 0, .int .u64 0] 31)) w.heap.size 31 #[.int .u64 0, .int .u64 0, .int .u64 0, .int .u64 0] := Row.new_at rfl
  have hn3 : (n : Int) ≤ 32 := by omega
  have hn4 : (0 : Int) < (n : Int) := by omega
  have hby := byte_at (h.below hA)
  rw [show byO 0 ((n : Int) :: 0 :: ds) = (n : Int) from by unfold byO tkO; simp, show tkE 1 0 ((n : Int) :: 0 :: ds) = 0 from by unfold tkE; simp, show tkR 1 0 ((n : Int) :: 0 :: ds) = 0 :: ds from by unfold tkR; simp] at hby
  replace hby := Lib.hid hby
  have R0 := Lib.hid (show _ ∧ _ ∧ _ from ⟨hA, hsz, r0⟩)
  have wn : IntKind.i64.wrap (n : Int) = (n : Int) := by rw [IntKind.wrap_i64]; omega
  clear h hA hsz r0
  go_enter Try.func62, Try.ntmps62
  go_wp2_with fail
  refine hby.out.mono ?_
  rintro r w1 ⟨rfl, hs, ht⟩
  have ok := ok_at hs
  rw [decide_eq_true rfl] at ok
  replace ok := Lib.hid ok
  have r1 := K6.Row.tr R0.out.2.2 ht (by omega)
  have hsw : w.heap.size < w1.heap.size := Nat.lt_of_lt_of_le (by rw [R0.out.2.1]; omega) ht.size
  replace ht : Tr (fun b => b = g) w w1 := (Tr.of R0.out.1 : Tr (fun b => b = g) w _).trans ht
  have HS := Lib.hid (show _ ∧ _ ∧ _ from ⟨hs, ht, r1⟩)
  clear hby hs ht r1 R0
  go_wp2_with fail
  refine ok.out.mono ?_
  rintro r w2 ⟨rfl, rfl⟩
  clear ok
  go_upto_region 5 with (fail)
  obtain ⟨hs, ht, r1⟩ := HS.out
  clear HS
  have hB0 : ∀ x, Below w2.heap.size w2 (w2.alloc x) := fun x => (Below.refl _ _).alloc (Nat.le_refl _) _
  refine wp_abs (fun wx => SA wx lo hi g 0 (0 :: ds) ∧ Tr (fun b => b = g) w wx ∧ Row wx w.heap.size 31 #[.int .u64 0, .int .u64 0, .int .u64 0, .int .u64 0] ∧ Row wx w2.heap.size 34 zr32) ⟨hs.below (hB0 _), ht.trans (Tr.of (hB0 _)), r1.below (hB0 _) r1.lt, ?_⟩ ?_
  · refine Row.new_at ?_; simp
  rintro w5 ⟨hs5, ht5, r0, rT⟩
  have hh5 : hi ≤ w5.heap.size := Nat.le_trans hhi ht5.size
  clear hB0 hs ht r1
  have fl := Lib.hid (fail_at 4 hs5)
  have HS := Lib.hid (show _ ∧ _ from ⟨ht5, r0⟩)
  obtain ⟨-, -, -, -, -, v, hr, hv⟩ := id hs5
  rcases hv with ⟨-, hv⟩ | ⟨b, o, cp, -, -, -, rfl, hcp, hcell⟩
  · cases hv
  have c0 : w5.cell? ⟨g, 0, none⟩ = some (.slice (some ⟨b, o, none⟩) (ds.length + 1) cp) := hr.cell 0
  have c1 : w5.cell? ⟨b, o, none⟩ = some (.int .u8 0) := hcell 0 _ rfl
  have hpos : (0 : Int) < ((ds.length + 1 : Nat) : Int) := by omega
  clear hr hcell hcp
  clear hs5 ht5 r0 rT
  go_wp2_with fail
  refine fl.out.mono ?_
  rintro r w3 ⟨⟨u, rfl⟩, hs, ht3⟩
  replace hs : SA w3 lo hi g 4 [] := by simpa using hs
  have r0 := K6.Row.tr HS.out.2 ht3 (by omega)
  have ht : Tr (fun b => b = g) w w3 := HS.out.1.trans ht3
  clear HS fl ht3 c0 c1 hpos
  go_upto_region 7 with (fail)
  let L : List Sp := [sO 1 (w.heap.size) 31 [0] (fun g => aggOf g 0)]
  refine wp_region_six0 (shs L) (look6 L) (fun c => c = w.heap.size) (by kernel_rfl) (by kernel_rfl) (mk_St L [1] [1] (by kernel_rfl) (by kernel_rfl) ⟨ok_O aggOf_congr r0.lt (rfl), trivial⟩ (by simp)) ?_
  intro QQ hQ
  -- 0: build<31> 
  refine stepK rfl (by kernel_rfl) (fun K hK => ?_); go_simp
  apply Exists.intro; apply And.intro; (focus (intro wk hk; go_simp; exact ⟨rfl, rfl⟩)); refine hK _ _ ?_; clear hK K
  -- 1: store<31> *t2 = t39
  refine stepS _ rfl (by kernel_rfl) (fun K hK => ?_); go_simp
  refine ⟨?_, ?_⟩
  · exact sStoreO rfl rfl rfl rfl rfl rfl r0 id (by kernel_rfl) rfl (by kernel_rfl) (by decide) aggOf_congr
  rintro ⟨v1, lo1, hi1⟩ - - (rfl : v1 = undef)
  refine hK _ _ ?_; clear hK K
  refine stepN ?_
  refine hQ _ _ ?_
  intro w9 hT hG hF
  have x0 : Row w9 (w.heap.size) 31 (#[.int .u64 0, .int .u64 0, .int .u64 0, .int .u64 0]) := hF 1 _ rfl rfl (by decide)
  have hs9 := hs.keep hT (fun b _ hb hc => by have hc' : b = w.heap.size := hc; omega)
  have ht9 := ht.trans_new hT (fun b hb hlt => by have hb' : b = w.heap.size := hb; omega)
  clear hT hG hF hQ QQ L
  go_wp2_with fail
  refine bodyPost_ret (results_c rfl aggT31 rfl x0 rfl) rfl ?_
  exact ⟨rfl, hs9, ht9⟩
/-- what is copied behind noughts -/
def padL (n : Nat) (E : Int) (O : List Int) : List Int := if E = 0 then List.replicate (32 - n) 0 ++ O else List.replicate 32 0
theorem zr32_bv : zr32 = (bv (List.replicate 32 0)).toArray := by kernel_rfl
theorem padL_len {n : Nat} {E : Int} {O : List Int} (hn : n ≤ 32) (h : E = 0 → O.length = n) : (padL n E O).length = 32 := by
  unfold padL
  split
  · rename_i h0; rw [List.length_append, List.length_replicate, h h0]; omega
  · rw [List.length_replicate]
theorem padL_by {n : Nat} {E : Int} {O : List Int} (h : By O) : By (padL n E O) := by
  have hz : ∀ k, By (List.replicate k 0) := fun k x hx => by rw [(List.mem_replicate.1 hx).2]; omega
  unfold padL
  split
  · exact (hz _).app h
  · exact hz _
theorem copy_pad {w : World} {T t n j c : Nat} {E : Int} {O : List Int} {u : Value} (hr : Row w T t zr32) (hu : Bs w u O) (hj : n = 0 ∨ j = 32 - n) (hn : n ≤ 32) (h0 : E = 0 → O.length = n) (h1 : E ≠ 0 → O = []) :
    ∃ v2 w', (Builtin.copy_ #[33, 33] 3 #[.slice (some ⟨T, j, none⟩) n c, u]).run Try.prog w = .ok v2 w' ∧ Row w' T t (bv (padL n E O)).toArray ∧ Tr (fun b => b = T) w w' := by
  by_cases hE : E = 0
  · have hl := h0 hE
    by_cases hz : n = 0
    · obtain rfl : O = [] := List.eq_nil_of_length_eq_zero (hl.trans hz)
      refine ⟨_, w, copy_none hu, ?_, Tr.refl _ _⟩
      unfold padL
      rw [if_pos hE, hz, List.append_nil, ← zr32_bv]
      exact hr
    · have hj := hj.resolve_left hz
      obtain ⟨w', hrun, hrow, ht⟩ := copy_run (ty := 3) (c := c) (o := j) hr hu hl (by show j + n ≤ 32; omega)
      refine ⟨_, w', hrun, ?_, ht⟩
      rw [zr32_copy (by omega)] at hrow
      unfold padL
      rw [if_pos hE, ← hj]
      exact hrow
  · obtain rfl := h1 hE
    refine ⟨_, w, copy_none hu, ?_, Tr.refl _ _⟩
    unfold padL
    rw [if_neg hE, ← zr32_bv]
    exact hr
theorem sUpon_copy {P : Program} {V : Value → World → Prop} {o : Oper} {a : Act} {x y : Operand} {t t' : TypeId} {v u v2 : Value} {w w2 : World} (ho : o.op = .call { callee := .builtin .copy, args := #[x, y], argTypes := #[t, t'] }) (hx : a.eval x = v) (hy : a.eval y = u)
    (hrun : (Builtin.copy_ #[t, t'] o.type #[v, u]).run P w = .ok v2 w2) (h : sUpon P V (.ok (.value v2) w2)) : sUpon P V ((execOp a.eval o).run P w) := by
  rw [run_copy_op ho hx hy hrun]; exact h
theorem bv_one (l : List Int) : (bv l).toArray.all (·.oneCell') = true := by
  rw [Array.all_eq_true]
  intro i hi
  simp [bv, Value.oneCell']
theorem take_lets {n : Nat} {E : Int} {cs O R : List Int} (hE : tkE n 0 cs = E) (hO : tkO n 0 cs = O) (hR : tkR n 0 cs = R) {w : World} {lo hi g : Nat} (h : SA w lo hi g 0 cs) :
    Calls Try.prog 177 #[.pointer (some ⟨g, 0, none⟩), .int .i64 (n : Int)] w fun r w' => ∃ u, r = .returned u ∧ (Bs w' u O ∧ (∀ b, u.ownBlock = some b → lo ≤ b ∧ b < hi ∧ b ≠ g) ∧ SA w' lo hi g E R) ∧ Tr (fun b => b = g) w w' := by
  refine (take_at n h).mono ?_
  rintro r w' ⟨u, rfl, h1, h2, h3, h4⟩
  rw [hO] at h1
  rw [hE, hR] at h3
  exact ⟨u, rfl, ⟨h1, h2, h3⟩, h4⟩
/-- what a take leaves, as a fact of a region -/
def TkF (lo hi g : Nat) (E : Int) (O R : List Int) (u : Value) (w : World) : Prop := Bs w u O ∧ (∀ b, u.ownBlock = some b → lo ≤ b ∧ b < hi ∧ b ≠ g) ∧ SA w lo hi g E R
theorem TkF.loc {lo hi g : Nat} {E : Int} {O R : List Int} (u : Value) (w w' : World) (h : TkF lo hi g E O R u w) (hT : Tr (fun b => ¬ (lo ≤ b ∧ b < hi)) w w') : TkF lo hi g E O R u w' :=
  ⟨h.1.keep hT fun b hb hn => hn ⟨(h.2.1 b hb).1, (h.2.1 b hb).2.1⟩, h.2.1, h.2.2.keep hT fun _ h1 h2 hn => hn ⟨h1, h2⟩⟩
theorem Row.loc {T t : Nat} {cs : Array Value} (w w' : World) (h : Row w T t cs) (hT : Tr (fun b => ¬ b = T) w w') : Row w' T t cs := K6.Row.tr h hT fun hn => hn rfl
set_option maxRecDepth 100000 in
set_option maxHeartbeats 8000000 in
theorem samt_z {w : World} {lo hi g : Nat} {cs : List Int} (h : SA w lo hi g 0 (((0 : Nat) : Int) :: cs)) (hhi : hi ≤ w.heap.size)  :
    Calls Try.prog 62 #[.pointer (some ⟨g, 0, none⟩)] w (Got w lo hi g (.agg (W4 0)) (0, cs)) := by
  have hgh : g < hi := h.2.1
  have hA : Below w.heap.size w (w.alloc (.cells #[Value.int .u64 0, .int .u64 0, .int .u64 0, .int .u64 0] 31)) := (Below.refl _ _).alloc (Nat.le_refl _) _
  have hsz : (w.alloc (.cells #[Value.int .u64 0, .int .u64 0, .int .u64 0, .int .u64 0] 31)).heap.size = w.heap.size + 1 := by simp
  have r0 : Row (w.alloc (.cells #[Value.int .u64 0, .int .u64 0, .int .u64 0, .int .u64 0] 31)) w.heap.size 31 #[.int .u64 0, .int .u64 0, .int .u64 0, .int .u64 0] := Row.new_at rfl
  obtain ⟨n, hn0⟩ : ∃ n : Nat, 0 = n := ⟨_, rfl⟩
  rw [hn0] at h
  have hn : n ≤ 32 := by omega
  have hn3 : (n : Int) ≤ 32 := by omega
  have hby0 : By (cs) := fun x hx => h.2.2.2.1 x (List.mem_cons_of_mem _ hx)
  obtain ⟨E, hE⟩ : ∃ E : Int, E = 0 := ⟨_, rfl⟩
  obtain ⟨O, hO⟩ : ∃ O : List Int, O = [] := ⟨_, rfl⟩
  obtain ⟨R, hR⟩ : ∃ R : List Int, R = cs := ⟨_, rfl⟩
  have tk := Lib.hid (fun wk (hk : SA wk lo hi g 0 (cs)) => take_lets (n := n) (E := E) (O := O) (R := R) (by rw [hE]; unfold tkE; subst hn0; simp) (by rw [hO]; unfold tkO; subst hn0; simp) (by rw [hR]; unfold tkR; subst hn0; simp) hk)
  have hOby : By O := by rw [hO]; exact By.nil
  have hOl : E = 0 → O.length = n := by intro _; rw [hO]; exact hn0
  have hOn : E ≠ 0 → O = [] := by intro hc; exact absurd hE hc
  have ej : (32 : Int) - (n : Int) = 32 := by omega
  have hnz : n = 0 := hn0.symm
  have w32 : IntKind.i64.wrap 32 = 32 := by rw [IntKind.wrap_i64]; decide
  have cpy := Lib.hid (show ∀ (w2X : Nat) (wk : World) (u : Value), Row wk w2X 34 zr32 → Bs wk u O → ∃ v2 w', (Builtin.copy_ #[33, 33] 3 #[.slice (some ⟨w2X, 0, none⟩) 0 0, u]).run Try.prog wk = .ok v2 w' ∧ Row w' w2X 34 (bv (padL n E O)).toArray ∧ Tr (fun b => b = w2X) wk w' from fun w2X wk u hr hu => by subst hn0; exact copy_pad (j := 0) (c := 0) hr hu (.inl rfl) hn hOl hOn)
  have hLl := Lib.hid (padL_len (E := E) (O := O) hn hOl)
  have hLb := Lib.hid (padL_by (n := n) (E := E) hOby)
  have HE := Lib.hid (show _ ∧ _ ∧ _ from ⟨hE, hO, hR⟩)
  clear hOby hOl hOn hby0 hE hO hR hn0 hnz
  have hby := byte_at (h.below hA)
  rw [show byO 0 ((n : Int) :: cs) = (n : Int) from by unfold byO tkO; simp, show tkE 1 0 ((n : Int) :: cs) = 0 from by unfold tkE; simp, show tkR 1 0 ((n : Int) :: cs) = cs from by unfold tkR; simp] at hby
  replace hby := Lib.hid hby
  have R0 := Lib.hid (show _ ∧ _ ∧ _ from ⟨hA, hsz, r0⟩)
  have wn : IntKind.i64.wrap (n : Int) = (n : Int) := by rw [IntKind.wrap_i64]; omega
  clear h hA hsz r0
  go_enter Try.func62, Try.ntmps62
  go_wp2_with fail
  refine hby.out.mono ?_
  rintro r w1 ⟨rfl, hs, ht⟩
  have ok := ok_at hs
  rw [decide_eq_true rfl] at ok
  replace ok := Lib.hid ok
  have r1 := K6.Row.tr R0.out.2.2 ht (by omega)
  have hsw : w.heap.size < w1.heap.size := Nat.lt_of_lt_of_le (by rw [R0.out.2.1]; omega) ht.size
  replace ht : Tr (fun b => b = g) w w1 := (Tr.of R0.out.1 : Tr (fun b => b = g) w _).trans ht
  have HS := Lib.hid (show _ ∧ _ ∧ _ from ⟨hs, ht, r1⟩)
  clear hby hs ht r1 R0
  go_wp2_with fail
  refine ok.out.mono ?_
  rintro r w2 ⟨rfl, rfl⟩
  clear ok
  go_upto_region 5 with (fail)
  obtain ⟨hs, ht, r1⟩ := HS.out
  clear HS
  have hB0 : ∀ x, Below w2.heap.size w2 (w2.alloc x) := fun x => (Below.refl _ _).alloc (Nat.le_refl _) _
  refine wp_abs (fun wx => SA wx lo hi g 0 (cs) ∧ Tr (fun b => b = g) w wx ∧ Row wx w.heap.size 31 #[.int .u64 0, .int .u64 0, .int .u64 0, .int .u64 0] ∧ Row wx w2.heap.size 34 zr32) ⟨hs.below (hB0 _), ht.trans (Tr.of (hB0 _)), r1.below (hB0 _) r1.lt, ?_⟩ ?_
  · refine Row.new_at ?_; simp
  rintro w5 ⟨hs5, ht5, r0, rT⟩
  have hh5 : hi ≤ w5.heap.size := Nat.le_trans hhi ht5.size
  clear hB0 hs ht r1
  replace cpy := Lib.hid (cpy.out w2.heap.size)
  go_upto_region 8 with (fail)
  let L : List Sp := [sW 5 [] [] [] g (fun b => lo ≤ b ∧ b < hi) (fun _ => True) (TkF lo hi g E O R), sW 6 [5] [5] [] (w2.heap.size) (fun b => b = w2.heap.size) (fun _ => True) (fun _ wz => Row wz (w2.heap.size) 34 (bv (padL n E O)).toArray)]
  refine wp_region_six (shs L) (look6 L) (fun c => c = g ∨ c = w2.heap.size) (by kernel_rfl) (by kernel_rfl) (mk_St L [5, 6] [5, 6] (by kernel_rfl) (by kernel_rfl) ⟨ok_W ⟨undef, trivial⟩ TkF.loc hs5.lt (.inl rfl) (fun b hb => Nat.lt_of_lt_of_le hb.2 hh5), ok_W ⟨undef, trivial⟩ (fun _ => Row.loc) rT.lt (.inr rfl) (fun b hb => hb ▸ rT.lt), trivial⟩ (by intro i hi j hj hne b hb hx; simp only [List.mem_cons, List.not_mem_nil, or_false] at hi hj; rcases hi with rfl | rfl <;> rcases hj with rfl | rfl <;> first | exact absurd rfl hne | (have hb1 : lo ≤ b ∧ b < hi := hb; have hx1 : b = w2.heap.size := hx; omega) | (have hb1 : b = w2.heap.size := hb; have hx1 : b = g := hx; omega))) ?_
  intro QQ hQ
  -- 0: t3
  refine stepKz rfl (fun K hK => ?_); go_simp
  apply Exists.intro; apply And.intro; (focus (intro wk hk; go_simp; exact ⟨rfl, rfl⟩)); refine hK _ _ ?_; clear hK K
  -- 1: sub<3> 32, t40
  refine stepKz rfl (fun K hK => ?_); go_simp
  apply Exists.intro; apply And.intro; (focus (intro wk hk; go_simp; exact ⟨rfl, rfl⟩)); refine hK _ _ ?_; clear hK K
  -- 2: slice<34> t4[t41::]
  refine stepKz rfl (fun K hK => ?_); go_simp
  apply Exists.intro; apply And.intro; (focus (intro wk hk; go_simp; exact ⟨rfl, rfl⟩)); refine hK _ _ ?_; clear hK K
  -- 3: t0
  refine stepK rfl (by kernel_rfl) (fun K hK => ?_); go_simp
  apply Exists.intro; apply And.intro; (focus (intro wk hk; go_simp; exact ⟨rfl, rfl⟩)); refine hK _ _ ?_; clear hK K
  -- 4: t3
  refine stepK rfl (by kernel_rfl) (fun K hK => ?_); go_simp
  apply Exists.intro; apply And.intro; (focus (intro wk hk; go_simp; exact ⟨rfl, rfl⟩)); refine hK _ _ ?_; clear hK K
  -- 5: call F177(t43, t44)
  refine stepS _ rfl (by kernel_rfl) (fun K hK => ?_); go_simp
  refine ⟨?_, ?_⟩
  · intro wk hk hg hu; go_simp; refine upon_enter ((tk.out _ (hs5.below hk.undrew.below)).mono ?_); rintro e w' ⟨u, rfl, hf, ht⟩; exact ⟨_, rfl, left_W rfl rfl trivial ht hf⟩
  rintro ⟨v5, lo5, hi5⟩ - - -
  refine hK _ _ ?_; clear hK K
  -- 6: call builtin copy<33,33>(t42, t45)
  refine stepSx _ [5] (fun c => c = g) rfl (by kernel_rfl) (by intro i hi b hb; simp only [List.mem_cons, List.not_mem_nil, or_false] at hi; subst hi; exact hb) (fun K hK => ?_); go_simp
  refine ⟨?_, ?_⟩
  · intro wk hk hg hu; have u5 : TkF lo hi g E O R v5 wk := hu 5 (show 5 ∈ [5] by decide); have rTk : Row wk (w2.heap.size) 34 zr32 := K6.Row.tr rT hk.undrew (by intro hc; have hc' : w2.heap.size = g := hc; omega); obtain ⟨vv, w', hrun, hrow, htr⟩ := cpy.out wk v5 rTk u5.1; refine sUpon_copy rfl rfl rfl hrun ?_; exact left_W rfl rfl trivial htr hrow
  rintro ⟨v6, lo6, hi6⟩ - - -
  refine hK _ _ ?_; clear hK K
  refine stepN ?_
  refine hQ _ _ ?_
  intro w6 hT hG hF
  have hT' := hT.undrew
  have u5 : TkF lo hi g E O R v5 w6 := hF 5 _ rfl rfl (by decide)
  have rL : Row w6 (w2.heap.size) 34 (bv (padL n E O)).toArray := hF 6 _ rfl rfl (by decide)
  have hs := u5.2.2
  have r0' := K6.Row.tr r0 hT' (by rintro (hc | hc) <;> omega)
  have ht : Tr (fun b => b = g) w w6 := ht5.trans_new hT' (fun b hb hlt => by rcases hb with hb | hb <;> omega)
  clear hT hT' hG hF hQ QQ L u5 tk cpy ht5 hs5 rT r0
  have r0 := r0'
  clear r0'
  obtain ⟨rfl, rfl, rfl⟩ := HE.out
  have ok := ok_at hs
  rw [decide_eq_true rfl] at ok
  replace ok := Lib.hid ok
  have hval := beV_zeros (32 - n) []
  obtain ⟨Lb, hLb2⟩ : ∃ Lb, padL n 0 ([]) = Lb := ⟨_, rfl⟩
  rw [hLb2] at rL hLl hLb
  replace hval : beV Lb = beV ([]) := by rw [← hLb2]; unfold padL; rw [if_pos rfl]; exact hval
  obtain ⟨V, hV⟩ : ∃ V, beV Lb = V := ⟨_, rfl⟩
  have k81 := Lib.hid (fun wk (hr : Row wk w2.heap.size 34 (bv Lb).toArray) => from32 (c := 32) hLl.out hLb.out hr)
  rw [hV] at k81 hval
  have HV := Lib.hid hval
  have HS := Lib.hid (show _ ∧ _ ∧ _ ∧ _ from ⟨hs, ht, r0, rL⟩)
  clear hs ht r0 HE hLl hLb rL hval hV hLb2
  go_wp2_with fail
  refine ok.out.mono ?_
  rintro r w7 ⟨rfl, rfl⟩
  clear ok
  obtain ⟨hs, ht, r0, rL⟩ := HS.out
  clear HS
  go_upto_region 11 with (fail)
  let L : List Sp := [sV 1 [] [] (fun u => u = .tuple #[.agg (W4 V), .bool true]), sA 5 31 [6] #[.int .u64 0, .int .u64 0, .int .u64 0, .int .u64 0], sT 6 5 31 [3] (fun g => aggOf g 3)]
  refine wp_region_six0 (shs L) (look6 L) (None_) (by kernel_rfl) (by kernel_rfl) (mk_St L [] [] (by kernel_rfl) (by kernel_rfl) ⟨ok_V ⟨_, rfl⟩, ok_A, ok_T aggOf_congr, trivial⟩ (by simp)) ?_
  intro QQ hQ
  -- 0: slice<34> t4[::]
  refine stepK rfl (by kernel_rfl) (fun K hK => ?_); go_simp
  apply Exists.intro; apply And.intro; (focus (intro wk hk; go_simp; exact ⟨rfl, rfl⟩)); refine hK _ _ ?_; clear hK K
  -- 1: call F81(t52)
  refine stepS _ rfl (by kernel_rfl) (fun K hK => ?_); go_simp
  refine ⟨?_, ?_⟩
  · intro wk hk hg hu; go_simp; refine upon_enter ((k81.out _ (K6.Row.tr rL hk id)).mono ?_); rintro e w' ⟨rfl, hb⟩; exact ⟨_, rfl, left_V (p := fun u => u = .tuple #[.agg (W4 V), .bool true]) rfl (hb) rfl⟩
  rintro ⟨v1, lo1, hi1⟩ - - (rfl : v1 = _)
  refine hK _ _ ?_; clear hK K
  -- 2: t53
  refine stepK rfl (by kernel_rfl) (fun K hK => ?_); go_simp
  apply Exists.intro; apply And.intro; (focus (intro wk hk; go_simp; exact ⟨rfl, rfl⟩)); refine hK _ _ ?_; clear hK K
  -- 3: extract t51 #0
  refine stepK rfl (by kernel_rfl) (fun K hK => ?_); go_simp
  apply Exists.intro; apply And.intro; (focus (intro wk hk; go_simp; exact ⟨rfl, rfl⟩)); refine hK _ _ ?_; clear hK K
  -- 4: extract t51 #1
  refine stepK rfl (by kernel_rfl) (fun K hK => ?_); go_simp
  apply Exists.intro; apply And.intro; (focus (intro wk hk; go_simp; exact ⟨rfl, rfl⟩)); refine hK _ _ ?_; clear hK K
  -- 5: alloc<31>
  refine stepS _ rfl (by kernel_rfl) (fun K hK => ?_); go_simp
  refine ⟨?_, ?_⟩
  · intro wk hk hg hu; go_simp; exact left_A rfl rfl
  rintro ⟨v5, lo5, hi5⟩ hlo5 hhi5 ⟨e5, f5⟩
  replace e5 : v5 = .pointer (some ⟨lo5, 0, none⟩) := e5; replace f5 : hi5 = lo5 + 1 := f5; replace hlo5 : _ ≤ lo5 := hlo5; subst e5; subst f5
  refine hK _ _ ?_; clear hK K
  -- 6: store<31> *t5 = t54
  refine stepS _ rfl (by kernel_rfl) (fun K hK => ?_); go_simp
  refine ⟨?_, ?_⟩
  · exact sStoreT rfl rfl rfl rfl rfl rfl rfl (by kernel_rfl) rfl (by kernel_rfl) (by decide) aggOf_congr
  rintro ⟨v6, lo6, hi6⟩ - - (rfl : v6 = undef)
  refine hK _ _ ?_; clear hK K
  -- 7: assign t55
  refine stepK rfl (by kernel_rfl) (fun K hK => ?_); go_simp
  apply Exists.intro; apply And.intro; (focus (intro wk hk; go_simp; exact ⟨rfl, rfl⟩)); refine hK _ _ ?_; clear hK K
  refine stepN ?_
  refine hQ _ _ ?_
  intro w8 hT hG hF
  have hb8 := hT.below
  have r5 : Row w8 lo5 31 (W4 V) := (hF 6 _ rfl rfl (by decide)).2
  have h05 : w.heap.size < lo5 := Nat.lt_of_lt_of_le r0.lt hlo5
  replace r0 := r0.below hb8 r0.lt
  replace hs := hs.below hb8
  replace ht := ht.trans (Tr.of hb8)
  clear hT hG hF hb8 hQ QQ L hlo5 hhi5 k81 rL
  go_upto_region 12 with (fail)
  let L : List Sp := [sO 1 (w.heap.size) 31 [0] (fun g => aggOf g 0)]
  refine wp_region_six0 (shs L) (look6 L) (fun c => c = w.heap.size) (by kernel_rfl) (by kernel_rfl) (mk_St L [1] [1] (by kernel_rfl) (by kernel_rfl) ⟨ok_O aggOf_congr r0.lt (rfl), trivial⟩ (by simp)) ?_
  intro QQ hQ
  -- 0: load<31> *t5
  refine stepK rfl (by kernel_rfl) (fun K hK => ?_); go_simp
  apply Exists.intro; apply And.intro; (focus exact kLoad rfl rfl aggT31 r5 rfl id); refine hK _ _ ?_; clear hK K
  -- 1: store<31> *t2 = t56
  refine stepS _ rfl (by kernel_rfl) (fun K hK => ?_); go_simp
  refine ⟨?_, ?_⟩
  · exact sStoreO rfl rfl rfl rfl rfl rfl r0 id (by kernel_rfl) rfl (by kernel_rfl) (by decide) aggOf_congr
  rintro ⟨v1, lo1, hi1⟩ - - (rfl : v1 = undef)
  refine hK _ _ ?_; clear hK K
  refine stepN ?_
  refine hQ _ _ ?_
  intro w9 hT hG hF
  have x0 : Row w9 (w.heap.size) 31 (W4 V) := hF 1 _ rfl rfl (by decide)
  have hs9 := hs.keep hT (fun b _ hb hc => by have hc' : b = w.heap.size := hc; omega)
  have ht9 := ht.trans_new hT (fun b hb hlt => by have hb' : b = w.heap.size := hb; omega)
  clear hT hG hF hQ QQ L
  go_wp2_with fail
  refine bodyPost_ret (results_c rfl aggT31 rfl x0 rfl) rfl ?_
  exact ⟨by rw [HV.out]; rfl, hs9, ht9⟩
set_option maxRecDepth 100000 in
set_option maxHeartbeats 8000000 in
theorem samt_e {w : World} {lo hi g n : Nat} (h : SA w lo hi g 0 ((n : Int) :: [])) (hhi : hi ≤ w.heap.size) (hn : n ≤ 32) (h0 : 0 < n) :
    Calls Try.prog 62 #[.pointer (some ⟨g, 0, none⟩)] w (Got w lo hi g (.agg #[.int .u64 0, .int .u64 0, .int .u64 0, .int .u64 0]) (3, [])) := by
  have hgh : g < hi := h.2.1
  have hA : Below w.heap.size w (w.alloc (.cells #[Value.int .u64 0, .int .u64 0, .int .u64 0, .int .u64 0] 31)) := (Below.refl _ _).alloc (Nat.le_refl _) _
  have hsz : (w.alloc (.cells #[Value.int .u64 0, .int .u64 0, .int .u64 0, .int .u64 0] 31)).heap.size = w.heap.size + 1 := by simp
  have r0 : Row (w.alloc (.cells #[Value.int .u64 0, .int .u64 0, .int .u64 0, .int .u64 0] 31)) w.heap.size 31 #[.int .u64 0, .int .u64 0, .int .u64 0, .int .u64 0] := Row.new_at rfl
  have hn3 : (n : Int) ≤ 32 := by omega
  have hn4 : (0 : Int) < (n : Int) := by omega
  have hby0 : By ([]) := fun x hx => h.2.2.2.1 x (List.mem_cons_of_mem _ hx)
  obtain ⟨E, hE⟩ : ∃ E : Int, E = 3 := ⟨_, rfl⟩
  obtain ⟨O, hO⟩ : ∃ O : List Int, O = [] := ⟨_, rfl⟩
  obtain ⟨R, hR⟩ : ∃ R : List Int, R = [] := ⟨_, rfl⟩
  have tk := Lib.hid (fun wk (hk : SA wk lo hi g 0 ([])) => take_lets (n := n) (E := E) (O := O) (R := R) (by rw [hE]; unfold tkE; rw [if_pos rfl, if_neg (by simp; omega)]) (by rw [hO]; unfold tkO; rw [if_pos rfl, if_neg (by simp; omega)]) (by rw [hR]; unfold tkR; rw [if_pos rfl, if_neg (by simp; omega)]) hk)
  have hOby : By O := by rw [hO]; exact By.nil
  have hOl : E = 0 → O.length = n := by intro hc; omega
  have hOn : E ≠ 0 → O = [] := by intro _; exact hO
  obtain ⟨j, hj⟩ : ∃ j, 32 - n = j := ⟨_, rfl⟩
  have ej : (32 : Int) - (n : Int) = (j : Int) := by omega
  have ej2 : 32 - j = n := by omega
  have wj : IntKind.i64.wrap (j : Int) = (j : Int) := by rw [IntKind.wrap_i64]; omega
  have hj35 : (j : Int) ≤ 32 := by omega
  have hj34 : ¬ 32 = j := by omega
  have cpy := Lib.hid (fun (w2X : Nat) wk u (hr : Row wk w2X 34 zr32) (hu : Bs wk u O) => copy_pad (j := j) (c := n) hr hu (by exact .inr hj.symm) hn hOl hOn)
  have hLl := Lib.hid (padL_len (E := E) (O := O) hn hOl)
  have hLb := Lib.hid (padL_by (n := n) (E := E) hOby)
  have HE := Lib.hid (show _ ∧ _ ∧ _ from ⟨hE, hO, hR⟩)
  clear hOby hOl hOn hby0 hE hO hR
  have hby := byte_at (h.below hA)
  rw [show byO 0 ((n : Int) :: []) = (n : Int) from by unfold byO tkO; simp, show tkE 1 0 ((n : Int) :: []) = 0 from by unfold tkE; simp, show tkR 1 0 ((n : Int) :: []) = [] from by unfold tkR; simp] at hby
  replace hby := Lib.hid hby
  have R0 := Lib.hid (show _ ∧ _ ∧ _ from ⟨hA, hsz, r0⟩)
  have wn : IntKind.i64.wrap (n : Int) = (n : Int) := by rw [IntKind.wrap_i64]; omega
  clear h hA hsz r0
  go_enter Try.func62, Try.ntmps62
  go_wp2_with fail
  refine hby.out.mono ?_
  rintro r w1 ⟨rfl, hs, ht⟩
  have ok := ok_at hs
  rw [decide_eq_true rfl] at ok
  replace ok := Lib.hid ok
  have r1 := K6.Row.tr R0.out.2.2 ht (by omega)
  have hsw : w.heap.size < w1.heap.size := Nat.lt_of_lt_of_le (by rw [R0.out.2.1]; omega) ht.size
  replace ht : Tr (fun b => b = g) w w1 := (Tr.of R0.out.1 : Tr (fun b => b = g) w _).trans ht
  have HS := Lib.hid (show _ ∧ _ ∧ _ from ⟨hs, ht, r1⟩)
  clear hby hs ht r1 R0
  go_wp2_with fail
  refine ok.out.mono ?_
  rintro r w2 ⟨rfl, rfl⟩
  clear ok
  go_upto_region 5 with (fail)
  obtain ⟨hs, ht, r1⟩ := HS.out
  clear HS
  have hB0 : ∀ x, Below w2.heap.size w2 (w2.alloc x) := fun x => (Below.refl _ _).alloc (Nat.le_refl _) _
  refine wp_abs (fun wx => SA wx lo hi g 0 ([]) ∧ Tr (fun b => b = g) w wx ∧ Row wx w.heap.size 31 #[.int .u64 0, .int .u64 0, .int .u64 0, .int .u64 0] ∧ Row wx w2.heap.size 34 zr32) ⟨hs.below (hB0 _), ht.trans (Tr.of (hB0 _)), r1.below (hB0 _) r1.lt, ?_⟩ ?_
  · refine Row.new_at ?_; simp
  rintro w5 ⟨hs5, ht5, r0, rT⟩
  have hh5 : hi ≤ w5.heap.size := Nat.le_trans hhi ht5.size
  clear hB0 hs ht r1
  replace cpy := Lib.hid (cpy.out w2.heap.size)
  obtain ⟨q0, cp, c0⟩ := hs5.len
  replace c0 := c0.resolve_right (fun hc => hc rfl)
  go_upto_region 8 with (fail)
  let L : List Sp := [sW 5 [] [] [] g (fun b => lo ≤ b ∧ b < hi) (fun _ => True) (TkF lo hi g E O R), sW 6 [5] [5] [] (w2.heap.size) (fun b => b = w2.heap.size) (fun _ => True) (fun _ wz => Row wz (w2.heap.size) 34 (bv (padL n E O)).toArray)]
  refine wp_region_six (shs L) (look6 L) (fun c => c = g ∨ c = w2.heap.size) (by kernel_rfl) (by kernel_rfl) (mk_St L [5, 6] [5, 6] (by kernel_rfl) (by kernel_rfl) ⟨ok_W ⟨undef, trivial⟩ TkF.loc hs5.lt (.inl rfl) (fun b hb => Nat.lt_of_lt_of_le hb.2 hh5), ok_W ⟨undef, trivial⟩ (fun _ => Row.loc) rT.lt (.inr rfl) (fun b hb => hb ▸ rT.lt), trivial⟩ (by intro i hi j hj hne b hb hx; simp only [List.mem_cons, List.not_mem_nil, or_false] at hi hj; rcases hi with rfl | rfl <;> rcases hj with rfl | rfl <;> first | exact absurd rfl hne | (have hb1 : lo ≤ b ∧ b < hi := hb; have hx1 : b = w2.heap.size := hx; omega) | (have hb1 : b = w2.heap.size := hb; have hx1 : b = g := hx; omega))) ?_
  intro QQ hQ
  -- 0: t3
  refine stepKz rfl (fun K hK => ?_); go_simp
  apply Exists.intro; apply And.intro; (focus (intro wk hk; go_simp; exact ⟨rfl, rfl⟩)); refine hK _ _ ?_; clear hK K
  -- 1: sub<3> 32, t40
  refine stepKz rfl (fun K hK => ?_); go_simp
  apply Exists.intro; apply And.intro; (focus (intro wk hk; go_simp; exact ⟨rfl, rfl⟩)); refine hK _ _ ?_; clear hK K
  -- 2: slice<34> t4[t41::]
  refine stepKz rfl (fun K hK => ?_); go_simp
  apply Exists.intro; apply And.intro; (focus (intro wk hk; go_simp; exact ⟨rfl, rfl⟩)); refine hK _ _ ?_; clear hK K
  -- 3: t0
  refine stepK rfl (by kernel_rfl) (fun K hK => ?_); go_simp
  apply Exists.intro; apply And.intro; (focus (intro wk hk; go_simp; exact ⟨rfl, rfl⟩)); refine hK _ _ ?_; clear hK K
  -- 4: t3
  refine stepK rfl (by kernel_rfl) (fun K hK => ?_); go_simp
  apply Exists.intro; apply And.intro; (focus (intro wk hk; go_simp; exact ⟨rfl, rfl⟩)); refine hK _ _ ?_; clear hK K
  -- 5: call F177(t43, t44)
  refine stepS _ rfl (by kernel_rfl) (fun K hK => ?_); go_simp
  refine ⟨?_, ?_⟩
  · intro wk hk hg hu; go_simp; refine upon_enter ((tk.out _ (hs5.below hk.undrew.below)).mono ?_); rintro e w' ⟨u, rfl, hf, ht⟩; exact ⟨_, rfl, left_W rfl rfl trivial ht hf⟩
  rintro ⟨v5, lo5, hi5⟩ - - -
  refine hK _ _ ?_; clear hK K
  -- 6: call builtin copy<33,33>(t42, t45)
  refine stepSx _ [5] (fun c => c = g) rfl (by kernel_rfl) (by intro i hi b hb; simp only [List.mem_cons, List.not_mem_nil, or_false] at hi; subst hi; exact hb) (fun K hK => ?_); go_simp
  refine ⟨?_, ?_⟩
  · intro wk hk hg hu; have u5 : TkF lo hi g E O R v5 wk := hu 5 (show 5 ∈ [5] by decide); have rTk : Row wk (w2.heap.size) 34 zr32 := K6.Row.tr rT hk.undrew (by intro hc; have hc' : w2.heap.size = g := hc; omega); obtain ⟨vv, w', hrun, hrow, htr⟩ := cpy.out wk v5 rTk u5.1; refine sUpon_copy rfl rfl rfl hrun ?_; exact left_W rfl rfl trivial htr hrow
  rintro ⟨v6, lo6, hi6⟩ - - -
  refine hK _ _ ?_; clear hK K
  refine stepN ?_
  refine hQ _ _ ?_
  intro w6 hT hG hF
  have hT' := hT.undrew
  have u5 : TkF lo hi g E O R v5 w6 := hF 5 _ rfl rfl (by decide)
  have rL : Row w6 (w2.heap.size) 34 (bv (padL n E O)).toArray := hF 6 _ rfl rfl (by decide)
  have hs := u5.2.2
  have r0' := K6.Row.tr r0 hT' (by rintro (hc | hc) <;> omega)
  have ht : Tr (fun b => b = g) w w6 := ht5.trans_new hT' (fun b hb hlt => by rcases hb with hb | hb <;> omega)
  clear hT hT' hG hF hQ QQ L u5 tk cpy ht5 hs5 rT r0
  have r0 := r0'
  clear r0'
  clear c0
  obtain ⟨rfl, rfl, rfl⟩ := HE.out
  have ok := ok_at hs
  rw [decide_eq_false (by decide)] at ok
  replace ok := Lib.hid ok
  have HS := Lib.hid (show _ ∧ _ ∧ _ from ⟨hs, ht, r0⟩)
  clear hs ht r0 HE hLl hLb rL
  go_wp2_with fail
  refine ok.out.mono ?_
  rintro r w7 ⟨rfl, rfl⟩
  clear ok
  obtain ⟨hs, ht, r0⟩ := HS.out
  clear HS
  go_upto_region 10 with (fail)
  let L : List Sp := [sO 1 (w.heap.size) 31 [0] (fun g => aggOf g 0)]
  refine wp_region_six0 (shs L) (look6 L) (fun c => c = w.heap.size) (by kernel_rfl) (by kernel_rfl) (mk_St L [1] [1] (by kernel_rfl) (by kernel_rfl) ⟨ok_O aggOf_congr r0.lt (rfl), trivial⟩ (by simp)) ?_
  intro QQ hQ
  -- 0: build<31> 
  refine stepK rfl (by kernel_rfl) (fun K hK => ?_); go_simp
  apply Exists.intro; apply And.intro; (focus (intro wk hk; go_simp; exact ⟨rfl, rfl⟩)); refine hK _ _ ?_; clear hK K
  -- 1: store<31> *t2 = t50
  refine stepS _ rfl (by kernel_rfl) (fun K hK => ?_); go_simp
  refine ⟨?_, ?_⟩
  · exact sStoreO rfl rfl rfl rfl rfl rfl r0 id (by kernel_rfl) rfl (by kernel_rfl) (by decide) aggOf_congr
  rintro ⟨v1, lo1, hi1⟩ - - (rfl : v1 = undef)
  refine hK _ _ ?_; clear hK K
  refine stepN ?_
  refine hQ _ _ ?_
  intro w9 hT hG hF
  have x0 : Row w9 (w.heap.size) 31 (#[.int .u64 0, .int .u64 0, .int .u64 0, .int .u64 0]) := hF 1 _ rfl rfl (by decide)
  have hs9 := hs.keep hT (fun b _ hb hc => by have hc' : b = w.heap.size := hc; omega)
  have ht9 := ht.trans_new hT (fun b hb hlt => by have hb' : b = w.heap.size := hb; omega)
  clear hT hG hF hQ QQ L
  go_wp2_with fail
  refine bodyPost_ret (results_c rfl aggT31 rfl x0 rfl) rfl ?_
  exact ⟨rfl, hs9, ht9⟩
set_option maxRecDepth 100000 in
set_option maxHeartbeats 8000000 in
theorem samt_f2 {w : World} {lo hi g n : Nat} {d : Int} {ds : List Int} (h : SA w lo hi g 0 ((n : Int) :: d :: ds)) (hhi : hi ≤ w.heap.size) (hn : n ≤ 32) (h0 : 0 < n) (hd : d ≠ 0) (hm : n ≤ (d :: ds).length) :
    Calls Try.prog 62 #[.pointer (some ⟨g, 0, none⟩)] w (Got w lo hi g (.agg (W4 (beV ((d :: ds).take n)))) (0, (d :: ds).drop n)) := by
  have hgh : g < hi := h.2.1
  have hA : Below w.heap.size w (w.alloc (.cells #[Value.int .u64 0, .int .u64 0, .int .u64 0, .int .u64 0] 31)) := (Below.refl _ _).alloc (Nat.le_refl _) _
  have hsz : (w.alloc (.cells #[Value.int .u64 0, .int .u64 0, .int .u64 0, .int .u64 0] 31)).heap.size = w.heap.size + 1 := by simp
  have r0 : Row (w.alloc (.cells #[Value.int .u64 0, .int .u64 0, .int .u64 0, .int .u64 0] 31)) w.heap.size 31 #[.int .u64 0, .int .u64 0, .int .u64 0, .int .u64 0] := Row.new_at rfl
  have hn3 : (n : Int) ≤ 32 := by omega
  have hn4 : (0 : Int) < (n : Int) := by omega
  have hdq : (d == 0) = false := by rw [beq_eq_false_iff_ne]; exact hd
  have hby0 : By (d :: ds) := fun x hx => h.2.2.2.1 x (List.mem_cons_of_mem _ hx)
  obtain ⟨E, hE⟩ : ∃ E : Int, E = 0 := ⟨_, rfl⟩
  obtain ⟨O, hO⟩ : ∃ O : List Int, O = (d :: ds).take n := ⟨_, rfl⟩
  obtain ⟨R, hR⟩ : ∃ R : List Int, R = (d :: ds).drop n := ⟨_, rfl⟩
  have tk := Lib.hid (fun wk (hk : SA wk lo hi g 0 (d :: ds)) => take_lets (n := n) (E := E) (O := O) (R := R) (by rw [hE]; unfold tkE; rw [if_pos rfl, if_pos hm]) (by rw [hO]; unfold tkO; rw [if_pos rfl, if_pos hm]) (by rw [hR]; unfold tkR; rw [if_pos rfl, if_pos hm]) hk)
  have hOby : By O := by rw [hO]; exact hby0.take _
  have hOl : E = 0 → O.length = n := by intro _; rw [hO, List.length_take]; omega
  have hOn : E ≠ 0 → O = [] := by intro hc; exact absurd hE hc
  obtain ⟨j, hj⟩ : ∃ j, 32 - n = j := ⟨_, rfl⟩
  have ej : (32 : Int) - (n : Int) = (j : Int) := by omega
  have ej2 : 32 - j = n := by omega
  have wj : IntKind.i64.wrap (j : Int) = (j : Int) := by rw [IntKind.wrap_i64]; omega
  have hj35 : (j : Int) ≤ 32 := by omega
  have hj34 : ¬ 32 = j := by omega
  have cpy := Lib.hid (fun (w2X : Nat) wk u (hr : Row wk w2X 34 zr32) (hu : Bs wk u O) => copy_pad (j := j) (c := n) hr hu (by exact .inr hj.symm) hn hOl hOn)
  have hLl := Lib.hid (padL_len (E := E) (O := O) hn hOl)
  have hLb := Lib.hid (padL_by (n := n) (E := E) hOby)
  have HE := Lib.hid (show _ ∧ _ ∧ _ from ⟨hE, hO, hR⟩)
  clear hOby hOl hOn hby0 hE hO hR hd hm
  have hby := byte_at (h.below hA)
  rw [show byO 0 ((n : Int) :: d :: ds) = (n : Int) from by unfold byO tkO; simp, show tkE 1 0 ((n : Int) :: d :: ds) = 0 from by unfold tkE; simp, show tkR 1 0 ((n : Int) :: d :: ds) = d :: ds from by unfold tkR; simp] at hby
  replace hby := Lib.hid hby
  have R0 := Lib.hid (show _ ∧ _ ∧ _ from ⟨hA, hsz, r0⟩)
  have wn : IntKind.i64.wrap (n : Int) = (n : Int) := by rw [IntKind.wrap_i64]; omega
  clear h hA hsz r0
  go_enter Try.func62, Try.ntmps62
  go_wp2_with fail
  refine hby.out.mono ?_
  rintro r w1 ⟨rfl, hs, ht⟩
  have ok := ok_at hs
  rw [decide_eq_true rfl] at ok
  replace ok := Lib.hid ok
  have r1 := K6.Row.tr R0.out.2.2 ht (by omega)
  have hsw : w.heap.size < w1.heap.size := Nat.lt_of_lt_of_le (by rw [R0.out.2.1]; omega) ht.size
  replace ht : Tr (fun b => b = g) w w1 := (Tr.of R0.out.1 : Tr (fun b => b = g) w _).trans ht
  have HS := Lib.hid (show _ ∧ _ ∧ _ from ⟨hs, ht, r1⟩)
  clear hby hs ht r1 R0
  go_wp2_with fail
  refine ok.out.mono ?_
  rintro r w2 ⟨rfl, rfl⟩
  clear ok
  go_upto_region 5 with (fail)
  obtain ⟨hs, ht, r1⟩ := HS.out
  clear HS
  have hB0 : ∀ x, Below w2.heap.size w2 (w2.alloc x) := fun x => (Below.refl _ _).alloc (Nat.le_refl _) _
  refine wp_abs (fun wx => SA wx lo hi g 0 (d :: ds) ∧ Tr (fun b => b = g) w wx ∧ Row wx w.heap.size 31 #[.int .u64 0, .int .u64 0, .int .u64 0, .int .u64 0] ∧ Row wx w2.heap.size 34 zr32) ⟨hs.below (hB0 _), ht.trans (Tr.of (hB0 _)), r1.below (hB0 _) r1.lt, ?_⟩ ?_
  · refine Row.new_at ?_; simp
  rintro w5 ⟨hs5, ht5, r0, rT⟩
  have hh5 : hi ≤ w5.heap.size := Nat.le_trans hhi ht5.size
  clear hB0 hs ht r1
  replace cpy := Lib.hid (cpy.out w2.heap.size)
  obtain ⟨-, -, -, -, -, v, hr, hv⟩ := id hs5
  rcases hv with ⟨-, hv⟩ | ⟨b, o, cp, -, -, -, rfl, hcp, hcell⟩
  · cases hv
  have c0 : w5.cell? ⟨g, 0, none⟩ = some (.slice (some ⟨b, o, none⟩) (ds.length + 1) cp) := hr.cell 0
  have c1 : w5.cell? ⟨b, o, none⟩ = some (.int .u8 d) := hcell 0 _ rfl
  have hpos : (0 : Int) < ((ds.length + 1 : Nat) : Int) := by omega
  clear hr hcell hcp
  go_upto_region 8 with (fail)
  let L : List Sp := [sW 5 [] [] [] g (fun b => lo ≤ b ∧ b < hi) (fun _ => True) (TkF lo hi g E O R), sW 6 [5] [5] [] (w2.heap.size) (fun b => b = w2.heap.size) (fun _ => True) (fun _ wz => Row wz (w2.heap.size) 34 (bv (padL n E O)).toArray)]
  refine wp_region_six (shs L) (look6 L) (fun c => c = g ∨ c = w2.heap.size) (by kernel_rfl) (by kernel_rfl) (mk_St L [5, 6] [5, 6] (by kernel_rfl) (by kernel_rfl) ⟨ok_W ⟨undef, trivial⟩ TkF.loc hs5.lt (.inl rfl) (fun b hb => Nat.lt_of_lt_of_le hb.2 hh5), ok_W ⟨undef, trivial⟩ (fun _ => Row.loc) rT.lt (.inr rfl) (fun b hb => hb ▸ rT.lt), trivial⟩ (by intro i hi j hj hne b hb hx; simp only [List.mem_cons, List.not_mem_nil, or_false] at hi hj; rcases hi with rfl | rfl <;> rcases hj with rfl | rfl <;> first | exact absurd rfl hne | (have hb1 : lo ≤ b ∧ b < hi := hb; have hx1 : b = w2.heap.size := hx; omega) | (have hb1 : b = w2.heap.size := hb; have hx1 : b = g := hx; omega))) ?_
  intro QQ hQ
  -- 0: t3
  refine stepKz rfl (fun K hK => ?_); go_simp
  apply Exists.intro; apply And.intro; (focus (intro wk hk; go_simp; exact ⟨rfl, rfl⟩)); refine hK _ _ ?_; clear hK K
  -- 1: sub<3> 32, t40
  refine stepKz rfl (fun K hK => ?_); go_simp
  apply Exists.intro; apply And.intro; (focus (intro wk hk; go_simp; exact ⟨rfl, rfl⟩)); refine hK _ _ ?_; clear hK K
  -- 2: slice<34> t4[t41::]
  refine stepKz rfl (fun K hK => ?_); go_simp
  apply Exists.intro; apply And.intro; (focus (intro wk hk; go_simp; exact ⟨rfl, rfl⟩)); refine hK _ _ ?_; clear hK K
  -- 3: t0
  refine stepK rfl (by kernel_rfl) (fun K hK => ?_); go_simp
  apply Exists.intro; apply And.intro; (focus (intro wk hk; go_simp; exact ⟨rfl, rfl⟩)); refine hK _ _ ?_; clear hK K
  -- 4: t3
  refine stepK rfl (by kernel_rfl) (fun K hK => ?_); go_simp
  apply Exists.intro; apply And.intro; (focus (intro wk hk; go_simp; exact ⟨rfl, rfl⟩)); refine hK _ _ ?_; clear hK K
  -- 5: call F177(t43, t44)
  refine stepS _ rfl (by kernel_rfl) (fun K hK => ?_); go_simp
  refine ⟨?_, ?_⟩
  · intro wk hk hg hu; go_simp; refine upon_enter ((tk.out _ (hs5.below hk.undrew.below)).mono ?_); rintro e w' ⟨u, rfl, hf, ht⟩; exact ⟨_, rfl, left_W rfl rfl trivial ht hf⟩
  rintro ⟨v5, lo5, hi5⟩ - - -
  refine hK _ _ ?_; clear hK K
  -- 6: call builtin copy<33,33>(t42, t45)
  refine stepSx _ [5] (fun c => c = g) rfl (by kernel_rfl) (by intro i hi b hb; simp only [List.mem_cons, List.not_mem_nil, or_false] at hi; subst hi; exact hb) (fun K hK => ?_); go_simp
  refine ⟨?_, ?_⟩
  · intro wk hk hg hu; have u5 : TkF lo hi g E O R v5 wk := hu 5 (show 5 ∈ [5] by decide); have rTk : Row wk (w2.heap.size) 34 zr32 := K6.Row.tr rT hk.undrew (by intro hc; have hc' : w2.heap.size = g := hc; omega); obtain ⟨vv, w', hrun, hrow, htr⟩ := cpy.out wk v5 rTk u5.1; refine sUpon_copy rfl rfl rfl hrun ?_; exact left_W rfl rfl trivial htr hrow
  rintro ⟨v6, lo6, hi6⟩ - - -
  refine hK _ _ ?_; clear hK K
  refine stepN ?_
  refine hQ _ _ ?_
  intro w6 hT hG hF
  have hT' := hT.undrew
  have u5 : TkF lo hi g E O R v5 w6 := hF 5 _ rfl rfl (by decide)
  have rL : Row w6 (w2.heap.size) 34 (bv (padL n E O)).toArray := hF 6 _ rfl rfl (by decide)
  have hs := u5.2.2
  have r0' := K6.Row.tr r0 hT' (by rintro (hc | hc) <;> omega)
  have ht : Tr (fun b => b = g) w w6 := ht5.trans_new hT' (fun b hb hlt => by rcases hb with hb | hb <;> omega)
  clear hT hT' hG hF hQ QQ L u5 tk cpy ht5 hs5 rT r0
  have r0 := r0'
  clear r0'
  clear c0 c1 hpos hdq
  obtain ⟨rfl, rfl, rfl⟩ := HE.out
  have ok := ok_at hs
  rw [decide_eq_true rfl] at ok
  replace ok := Lib.hid ok
  have hval := beV_zeros (32 - n) ((d :: ds).take n)
  obtain ⟨Lb, hLb2⟩ : ∃ Lb, padL n 0 ((d :: ds).take n) = Lb := ⟨_, rfl⟩
  rw [hLb2] at rL hLl hLb
  replace hval : beV Lb = beV ((d :: ds).take n) := by rw [← hLb2]; unfold padL; rw [if_pos rfl]; exact hval
  obtain ⟨V, hV⟩ : ∃ V, beV Lb = V := ⟨_, rfl⟩
  have k81 := Lib.hid (fun wk (hr : Row wk w2.heap.size 34 (bv Lb).toArray) => from32 (c := 32) hLl.out hLb.out hr)
  rw [hV] at k81 hval
  have HV := Lib.hid hval
  have HS := Lib.hid (show _ ∧ _ ∧ _ ∧ _ from ⟨hs, ht, r0, rL⟩)
  clear hs ht r0 HE hLl hLb rL hval hV hLb2
  go_wp2_with fail
  refine ok.out.mono ?_
  rintro r w7 ⟨rfl, rfl⟩
  clear ok
  obtain ⟨hs, ht, r0, rL⟩ := HS.out
  clear HS
  go_upto_region 11 with (fail)
  let L : List Sp := [sV 1 [] [] (fun u => u = .tuple #[.agg (W4 V), .bool true]), sA 5 31 [6] #[.int .u64 0, .int .u64 0, .int .u64 0, .int .u64 0], sT 6 5 31 [3] (fun g => aggOf g 3)]
  refine wp_region_six0 (shs L) (look6 L) (None_) (by kernel_rfl) (by kernel_rfl) (mk_St L [] [] (by kernel_rfl) (by kernel_rfl) ⟨ok_V ⟨_, rfl⟩, ok_A, ok_T aggOf_congr, trivial⟩ (by simp)) ?_
  intro QQ hQ
  -- 0: slice<34> t4[::]
  refine stepK rfl (by kernel_rfl) (fun K hK => ?_); go_simp
  apply Exists.intro; apply And.intro; (focus (intro wk hk; go_simp; exact ⟨rfl, rfl⟩)); refine hK _ _ ?_; clear hK K
  -- 1: call F81(t52)
  refine stepS _ rfl (by kernel_rfl) (fun K hK => ?_); go_simp
  refine ⟨?_, ?_⟩
  · intro wk hk hg hu; go_simp; refine upon_enter ((k81.out _ (K6.Row.tr rL hk id)).mono ?_); rintro e w' ⟨rfl, hb⟩; exact ⟨_, rfl, left_V (p := fun u => u = .tuple #[.agg (W4 V), .bool true]) rfl (hb) rfl⟩
  rintro ⟨v1, lo1, hi1⟩ - - (rfl : v1 = _)
  refine hK _ _ ?_; clear hK K
  -- 2: t53
  refine stepK rfl (by kernel_rfl) (fun K hK => ?_); go_simp
  apply Exists.intro; apply And.intro; (focus (intro wk hk; go_simp; exact ⟨rfl, rfl⟩)); refine hK _ _ ?_; clear hK K
  -- 3: extract t51 #0
  refine stepK rfl (by kernel_rfl) (fun K hK => ?_); go_simp
  apply Exists.intro; apply And.intro; (focus (intro wk hk; go_simp; exact ⟨rfl, rfl⟩)); refine hK _ _ ?_; clear hK K
  -- 4: extract t51 #1
  refine stepK rfl (by kernel_rfl) (fun K hK => ?_); go_simp
  apply Exists.intro; apply And.intro; (focus (intro wk hk; go_simp; exact ⟨rfl, rfl⟩)); refine hK _ _ ?_; clear hK K
  -- 5: alloc<31>
  refine stepS _ rfl (by kernel_rfl) (fun K hK => ?_); go_simp
  refine ⟨?_, ?_⟩
  · intro wk hk hg hu; go_simp; exact left_A rfl rfl
  rintro ⟨v5, lo5, hi5⟩ hlo5 hhi5 ⟨e5, f5⟩
  replace e5 : v5 = .pointer (some ⟨lo5, 0, none⟩) := e5; replace f5 : hi5 = lo5 + 1 := f5; replace hlo5 : _ ≤ lo5 := hlo5; subst e5; subst f5
  refine hK _ _ ?_; clear hK K
  -- 6: store<31> *t5 = t54
  refine stepS _ rfl (by kernel_rfl) (fun K hK => ?_); go_simp
  refine ⟨?_, ?_⟩
  · exact sStoreT rfl rfl rfl rfl rfl rfl rfl (by kernel_rfl) rfl (by kernel_rfl) (by decide) aggOf_congr
  rintro ⟨v6, lo6, hi6⟩ - - (rfl : v6 = undef)
  refine hK _ _ ?_; clear hK K
  -- 7: assign t55
  refine stepK rfl (by kernel_rfl) (fun K hK => ?_); go_simp
  apply Exists.intro; apply And.intro; (focus (intro wk hk; go_simp; exact ⟨rfl, rfl⟩)); refine hK _ _ ?_; clear hK K
  refine stepN ?_
  refine hQ _ _ ?_
  intro w8 hT hG hF
  have hb8 := hT.below
  have r5 : Row w8 lo5 31 (W4 V) := (hF 6 _ rfl rfl (by decide)).2
  have h05 : w.heap.size < lo5 := Nat.lt_of_lt_of_le r0.lt hlo5
  replace r0 := r0.below hb8 r0.lt
  replace hs := hs.below hb8
  replace ht := ht.trans (Tr.of hb8)
  clear hT hG hF hb8 hQ QQ L hlo5 hhi5 k81 rL
  go_upto_region 12 with (fail)
  let L : List Sp := [sO 1 (w.heap.size) 31 [0] (fun g => aggOf g 0)]
  refine wp_region_six0 (shs L) (look6 L) (fun c => c = w.heap.size) (by kernel_rfl) (by kernel_rfl) (mk_St L [1] [1] (by kernel_rfl) (by kernel_rfl) ⟨ok_O aggOf_congr r0.lt (rfl), trivial⟩ (by simp)) ?_
  intro QQ hQ
  -- 0: load<31> *t5
  refine stepK rfl (by kernel_rfl) (fun K hK => ?_); go_simp
  apply Exists.intro; apply And.intro; (focus exact kLoad rfl rfl aggT31 r5 rfl id); refine hK _ _ ?_; clear hK K
  -- 1: store<31> *t2 = t56
  refine stepS _ rfl (by kernel_rfl) (fun K hK => ?_); go_simp
  refine ⟨?_, ?_⟩
  · exact sStoreO rfl rfl rfl rfl rfl rfl r0 id (by kernel_rfl) rfl (by kernel_rfl) (by decide) aggOf_congr
  rintro ⟨v1, lo1, hi1⟩ - - (rfl : v1 = undef)
  refine hK _ _ ?_; clear hK K
  refine stepN ?_
  refine hQ _ _ ?_
  intro w9 hT hG hF
  have x0 : Row w9 (w.heap.size) 31 (W4 V) := hF 1 _ rfl rfl (by decide)
  have hs9 := hs.keep hT (fun b _ hb hc => by have hc' : b = w.heap.size := hc; omega)
  have ht9 := ht.trans_new hT (fun b hb hlt => by have hb' : b = w.heap.size := hb; omega)
  clear hT hG hF hQ QQ L
  go_wp2_with fail
  refine bodyPost_ret (results_c rfl aggT31 rfl x0 rfl) rfl ?_
  exact ⟨by rw [HV.out], hs9, ht9⟩
set_option maxRecDepth 100000 in
set_option maxHeartbeats 8000000 in
theorem samt_s {w : World} {lo hi g n : Nat} {d : Int} {ds : List Int} (h : SA w lo hi g 0 ((n : Int) :: d :: ds)) (hhi : hi ≤ w.heap.size) (hn : n ≤ 32) (h0 : 0 < n) (hd : d ≠ 0) (hm : (d :: ds).length < n) :
    Calls Try.prog 62 #[.pointer (some ⟨g, 0, none⟩)] w (Got w lo hi g (.agg #[.int .u64 0, .int .u64 0, .int .u64 0, .int .u64 0]) (3, [])) := by
  have hgh : g < hi := h.2.1
  have hA : Below w.heap.size w (w.alloc (.cells #[Value.int .u64 0, .int .u64 0, .int .u64 0, .int .u64 0] 31)) := (Below.refl _ _).alloc (Nat.le_refl _) _
  have hsz : (w.alloc (.cells #[Value.int .u64 0, .int .u64 0, .int .u64 0, .int .u64 0] 31)).heap.size = w.heap.size + 1 := by simp
  have r0 : Row (w.alloc (.cells #[Value.int .u64 0, .int .u64 0, .int .u64 0, .int .u64 0] 31)) w.heap.size 31 #[.int .u64 0, .int .u64 0, .int .u64 0, .int .u64 0] := Row.new_at rfl
  have hn3 : (n : Int) ≤ 32 := by omega
  have hn4 : (0 : Int) < (n : Int) := by omega
  have hdq : (d == 0) = false := by rw [beq_eq_false_iff_ne]; exact hd
  have hby0 : By (d :: ds) := fun x hx => h.2.2.2.1 x (List.mem_cons_of_mem _ hx)
  obtain ⟨E, hE⟩ : ∃ E : Int, E = 3 := ⟨_, rfl⟩
  obtain ⟨O, hO⟩ : ∃ O : List Int, O = [] := ⟨_, rfl⟩
  obtain ⟨R, hR⟩ : ∃ R : List Int, R = [] := ⟨_, rfl⟩
  have tk := Lib.hid (fun wk (hk : SA wk lo hi g 0 (d :: ds)) => take_lets (n := n) (E := E) (O := O) (R := R) (by rw [hE]; unfold tkE; rw [if_pos rfl, if_neg (by omega)]) (by rw [hO]; unfold tkO; rw [if_pos rfl, if_neg (by omega)]) (by rw [hR]; unfold tkR; rw [if_pos rfl, if_neg (by omega)]) hk)
  have hOby : By O := by rw [hO]; exact By.nil
  have hOl : E = 0 → O.length = n := by intro hc; omega
  have hOn : E ≠ 0 → O = [] := by intro _; exact hO
  obtain ⟨j, hj⟩ : ∃ j, 32 - n = j := ⟨_, rfl⟩
  have ej : (32 : Int) - (n : Int) = (j : Int) := by omega
  have ej2 : 32 - j = n := by omega
  have wj : IntKind.i64.wrap (j : Int) = (j : Int) := by rw [IntKind.wrap_i64]; omega
  have hj35 : (j : Int) ≤ 32 := by omega
  have hj34 : ¬ 32 = j := by omega
  have cpy := Lib.hid (fun (w2X : Nat) wk u (hr : Row wk w2X 34 zr32) (hu : Bs wk u O) => copy_pad (j := j) (c := n) hr hu (by exact .inr hj.symm) hn hOl hOn)
  have hLl := Lib.hid (padL_len (E := E) (O := O) hn hOl)
  have hLb := Lib.hid (padL_by (n := n) (E := E) hOby)
  have HE := Lib.hid (show _ ∧ _ ∧ _ from ⟨hE, hO, hR⟩)
  clear hOby hOl hOn hby0 hE hO hR hd hm
  have hby := byte_at (h.below hA)
  rw [show byO 0 ((n : Int) :: d :: ds) = (n : Int) from by unfold byO tkO; simp, show tkE 1 0 ((n : Int) :: d :: ds) = 0 from by unfold tkE; simp, show tkR 1 0 ((n : Int) :: d :: ds) = d :: ds from by unfold tkR; simp] at hby
  replace hby := Lib.hid hby
  have R0 := Lib.hid (show _ ∧ _ ∧ _ from ⟨hA, hsz, r0⟩)
  have wn : IntKind.i64.wrap (n : Int) = (n : Int) := by rw [IntKind.wrap_i64]; omega
  clear h hA hsz r0
  go_enter Try.func62, Try.ntmps62
  go_wp2_with fail
  refine hby.out.mono ?_
  rintro r w1 ⟨rfl, hs, ht⟩
  have ok := ok_at hs
  rw [decide_eq_true rfl] at ok
  replace ok := Lib.hid ok
  have r1 := K6.Row.tr R0.out.2.2 ht (by omega)
  have hsw : w.heap.size < w1.heap.size := Nat.lt_of_lt_of_le (by rw [R0.out.2.1]; omega) ht.size
  replace ht : Tr (fun b => b = g) w w1 := (Tr.of R0.out.1 : Tr (fun b => b = g) w _).trans ht
  have HS := Lib.hid (show _ ∧ _ ∧ _ from ⟨hs, ht, r1⟩)
  clear hby hs ht r1 R0
  go_wp2_with fail
  refine ok.out.mono ?_
  rintro r w2 ⟨rfl, rfl⟩
  clear ok
  go_upto_region 5 with (fail)
  obtain ⟨hs, ht, r1⟩ := HS.out
  clear HS
  have hB0 : ∀ x, Below w2.heap.size w2 (w2.alloc x) := fun x => (Below.refl _ _).alloc (Nat.le_refl _) _
  refine wp_abs (fun wx => SA wx lo hi g 0 (d :: ds) ∧ Tr (fun b => b = g) w wx ∧ Row wx w.heap.size 31 #[.int .u64 0, .int .u64 0, .int .u64 0, .int .u64 0] ∧ Row wx w2.heap.size 34 zr32) ⟨hs.below (hB0 _), ht.trans (Tr.of (hB0 _)), r1.below (hB0 _) r1.lt, ?_⟩ ?_
  · refine Row.new_at ?_; simp
  rintro w5 ⟨hs5, ht5, r0, rT⟩
  have hh5 : hi ≤ w5.heap.size := Nat.le_trans hhi ht5.size
  clear hB0 hs ht r1
  replace cpy := Lib.hid (cpy.out w2.heap.size)
  obtain ⟨-, -, -, -, -, v, hr, hv⟩ := id hs5
  rcases hv with ⟨-, hv⟩ | ⟨b, o, cp, -, -, -, rfl, hcp, hcell⟩
  · cases hv
  have c0 : w5.cell? ⟨g, 0, none⟩ = some (.slice (some ⟨b, o, none⟩) (ds.length + 1) cp) := hr.cell 0
  have c1 : w5.cell? ⟨b, o, none⟩ = some (.int .u8 d) := hcell 0 _ rfl
  have hpos : (0 : Int) < ((ds.length + 1 : Nat) : Int) := by omega
  clear hr hcell hcp
  go_upto_region 8 with (fail)
  let L : List Sp := [sW 5 [] [] [] g (fun b => lo ≤ b ∧ b < hi) (fun _ => True) (TkF lo hi g E O R), sW 6 [5] [5] [] (w2.heap.size) (fun b => b = w2.heap.size) (fun _ => True) (fun _ wz => Row wz (w2.heap.size) 34 (bv (padL n E O)).toArray)]
  refine wp_region_six (shs L) (look6 L) (fun c => c = g ∨ c = w2.heap.size) (by kernel_rfl) (by kernel_rfl) (mk_St L [5, 6] [5, 6] (by kernel_rfl) (by kernel_rfl) ⟨ok_W ⟨undef, trivial⟩ TkF.loc hs5.lt (.inl rfl) (fun b hb => Nat.lt_of_lt_of_le hb.2 hh5), ok_W ⟨undef, trivial⟩ (fun _ => Row.loc) rT.lt (.inr rfl) (fun b hb => hb ▸ rT.lt), trivial⟩ (by intro i hi j hj hne b hb hx; simp only [List.mem_cons, List.not_mem_nil, or_false] at hi hj; rcases hi with rfl | rfl <;> rcases hj with rfl | rfl <;> first | exact absurd rfl hne | (have hb1 : lo ≤ b ∧ b < hi := hb; have hx1 : b = w2.heap.size := hx; omega) | (have hb1 : b = w2.heap.size := hb; have hx1 : b = g := hx; omega))) ?_
  intro QQ hQ
  -- 0: t3
  refine stepKz rfl (fun K hK => ?_); go_simp
  apply Exists.intro; apply And.intro; (focus (intro wk hk; go_simp; exact ⟨rfl, rfl⟩)); refine hK _ _ ?_; clear hK K
  -- 1: sub<3> 32, t40
  refine stepKz rfl (fun K hK => ?_); go_simp
  apply Exists.intro; apply And.intro; (focus (intro wk hk; go_simp; exact ⟨rfl, rfl⟩)); refine hK _ _ ?_; clear hK K
  -- 2: slice<34> t4[t41::]
  refine stepKz rfl (fun K hK => ?_); go_simp
  apply Exists.intro; apply And.intro; (focus (intro wk hk; go_simp; exact ⟨rfl, rfl⟩)); refine hK _ _ ?_; clear hK K
  -- 3: t0
  refine stepK rfl (by kernel_rfl) (fun K hK => ?_); go_simp
  apply Exists.intro; apply And.intro; (focus (intro wk hk; go_simp; exact ⟨rfl, rfl⟩)); refine hK _ _ ?_; clear hK K
  -- 4: t3
  refine stepK rfl (by kernel_rfl) (fun K hK => ?_); go_simp
  apply Exists.intro; apply And.intro; (focus (intro wk hk; go_simp; exact ⟨rfl, rfl⟩)); refine hK _ _ ?_; clear hK K
  -- 5: call F177(t43, t44)
  refine stepS _ rfl (by kernel_rfl) (fun K hK => ?_); go_simp
  refine ⟨?_, ?_⟩
  · intro wk hk hg hu; go_simp; refine upon_enter ((tk.out _ (hs5.below hk.undrew.below)).mono ?_); rintro e w' ⟨u, rfl, hf, ht⟩; exact ⟨_, rfl, left_W rfl rfl trivial ht hf⟩
  rintro ⟨v5, lo5, hi5⟩ - - -
  refine hK _ _ ?_; clear hK K
  -- 6: call builtin copy<33,33>(t42, t45)
  refine stepSx _ [5] (fun c => c = g) rfl (by kernel_rfl) (by intro i hi b hb; simp only [List.mem_cons, List.not_mem_nil, or_false] at hi; subst hi; exact hb) (fun K hK => ?_); go_simp
  refine ⟨?_, ?_⟩
  · intro wk hk hg hu; have u5 : TkF lo hi g E O R v5 wk := hu 5 (show 5 ∈ [5] by decide); have rTk : Row wk (w2.heap.size) 34 zr32 := K6.Row.tr rT hk.undrew (by intro hc; have hc' : w2.heap.size = g := hc; omega); obtain ⟨vv, w', hrun, hrow, htr⟩ := cpy.out wk v5 rTk u5.1; refine sUpon_copy rfl rfl rfl hrun ?_; exact left_W rfl rfl trivial htr hrow
  rintro ⟨v6, lo6, hi6⟩ - - -
  refine hK _ _ ?_; clear hK K
  refine stepN ?_
  refine hQ _ _ ?_
  intro w6 hT hG hF
  have hT' := hT.undrew
  have u5 : TkF lo hi g E O R v5 w6 := hF 5 _ rfl rfl (by decide)
  have rL : Row w6 (w2.heap.size) 34 (bv (padL n E O)).toArray := hF 6 _ rfl rfl (by decide)
  have hs := u5.2.2
  have r0' := K6.Row.tr r0 hT' (by rintro (hc | hc) <;> omega)
  have ht : Tr (fun b => b = g) w w6 := ht5.trans_new hT' (fun b hb hlt => by rcases hb with hb | hb <;> omega)
  clear hT hT' hG hF hQ QQ L u5 tk cpy ht5 hs5 rT r0
  have r0 := r0'
  clear r0'
  clear c0 c1 hpos hdq
  obtain ⟨rfl, rfl, rfl⟩ := HE.out
  have ok := ok_at hs
  rw [decide_eq_false (by decide)] at ok
  replace ok := Lib.hid ok
  have HS := Lib.hid (show _ ∧ _ ∧ _ from ⟨hs, ht, r0⟩)
  clear hs ht r0 HE hLl hLb rL
  go_wp2_with fail
  refine ok.out.mono ?_
  rintro r w7 ⟨rfl, rfl⟩
  clear ok
  obtain ⟨hs, ht, r0⟩ := HS.out
  clear HS
  go_upto_region 10 with (fail)
  let L : List Sp := [sO 1 (w.heap.size) 31 [0] (fun g => aggOf g 0)]
  refine wp_region_six0 (shs L) (look6 L) (fun c => c = w.heap.size) (by kernel_rfl) (by kernel_rfl) (mk_St L [1] [1] (by kernel_rfl) (by kernel_rfl) ⟨ok_O aggOf_congr r0.lt (rfl), trivial⟩ (by simp)) ?_
  intro QQ hQ
  -- 0: build<31> 
  refine stepK rfl (by kernel_rfl) (fun K hK => ?_); go_simp
  apply Exists.intro; apply And.intro; (focus (intro wk hk; go_simp; exact ⟨rfl, rfl⟩)); refine hK _ _ ?_; clear hK K
  -- 1: store<31> *t2 = t50
  refine stepS _ rfl (by kernel_rfl) (fun K hK => ?_); go_simp
  refine ⟨?_, ?_⟩
  · exact sStoreO rfl rfl rfl rfl rfl rfl r0 id (by kernel_rfl) rfl (by kernel_rfl) (by decide) aggOf_congr
  rintro ⟨v1, lo1, hi1⟩ - - (rfl : v1 = undef)
  refine hK _ _ ?_; clear hK K
  refine stepN ?_
  refine hQ _ _ ?_
  intro w9 hT hG hF
  have x0 : Row w9 (w.heap.size) 31 (#[.int .u64 0, .int .u64 0, .int .u64 0, .int .u64 0]) := hF 1 _ rfl rfl (by decide)
  have hs9 := hs.keep hT (fun b _ hb hc => by have hc' : b = w.heap.size := hc; omega)
  have ht9 := ht.trans_new hT (fun b hb hlt => by have hb' : b = w.heap.size := hb; omega)
  clear hT hG hF hQ QQ L
  go_wp2_with fail
  refine bodyPost_ret (results_c rfl aggT31 rfl x0 rfl) rfl ?_
  exact ⟨rfl, hs9, ht9⟩
/-- Amount -/
theorem samt_at {w : World} {lo hi g : Nat} {e : Int} {xs : List Int} (h : SA w lo hi g e xs) (hhi : hi ≤ w.heap.size) :
    Calls Try.prog 62 #[.pointer (some ⟨g, 0, none⟩)] w (Got w lo hi g (.agg (W4 (gA (e, xs)).1)) (gA (e, xs)).2) := by
  by_cases he : e = 0
  · subst he
    match xs, h with
    | [], h =>
      have h2 := samt_f h hhi (by unfold byO tkO; simp) (by unfold tkE; simp) (by unfold tkR; simp)
      rw [show tkE 1 0 [] = 3 from by unfold tkE; simp, W4_zero] at h2
      exact h2
    | c :: cs, h =>
      have hc := h.2.2.2.1 c (List.mem_cons_self ..)
      obtain ⟨n, rfl⟩ : ∃ n : Nat, c = (n : Int) := ⟨c.toNat, by omega⟩
      unfold gA
      rw [if_pos rfl]
      simp only
      by_cases h32 : 32 < n
      · rw [if_pos (.inl (by omega))]
        have h2 := samt_big h hhi h32 (by omega)
        rw [W4_zero] at h2
        exact h2
      · by_cases hz : n = 0
        · subst hz
          rw [if_neg (by rintro (h | ⟨h, -⟩) <;> omega), if_pos (by simp)]
          exact samt_z h hhi
        · match cs, h with
          | [], h =>
            rw [if_neg (by rintro (h | ⟨-, h⟩); omega; cases h), if_neg (by simp; omega)]
            have h2 := samt_e h hhi (by omega) (by omega)
            rw [W4_zero] at h2
            exact h2
          | d :: ds, h =>
            by_cases hd : d = 0
            · subst hd
              rw [if_pos (.inr ⟨by omega, rfl⟩)]
              have h2 := samt_lead h hhi (by omega) (by omega)
              rw [W4_zero] at h2
              exact h2
            · rw [if_neg (by rintro (h | ⟨-, h⟩); omega; exact hd (Option.some.inj h))]
              by_cases hm : n ≤ (d :: ds).length
              · rw [if_pos (by rw [Int.toNat_natCast]; exact hm)]
                have h2 := samt_f2 h hhi (by omega) (by omega) hd hm
                rw [Int.toNat_natCast]
                exact h2
              · rw [if_neg (by rw [Int.toNat_natCast]; exact hm)]
                have h2 := samt_s h hhi (by omega) (by omega) hd (by omega)
                rw [W4_zero] at h2
                exact h2
  · have hx := h.2.2.1 he
    subst hx
    have h2 := samt_f h hhi (by unfold byO tkO; rw [if_neg he]; rfl) (by unfold tkE; rw [if_neg he]; exact he) (by unfold tkR; rw [if_neg he])
    rw [show tkE 1 e [] = e from by unfold tkE; rw [if_neg he], W4_zero] at h2
    unfold gA
    rw [if_neg he]
    exact h2
set_option maxRecDepth 100000 in
set_option maxHeartbeats 8000000 in
/-- Hash -/
theorem shash_at {w : World} {lo hi g : Nat} {e : Int} {xs : List Int} (h : SA w lo hi g e xs) (hhi : hi ≤ w.heap.size) :
    Calls Try.prog 68 #[.pointer (some ⟨g, 0, none⟩)] w (Got w lo hi g (.agg (bv (gH (e, xs)).1).toArray) (gH (e, xs)).2) := by
  have hgh : g < hi := h.2.1
  have hOl0 : tkE 32 e xs = 0 → (tkO 32 e xs).length = 32 := fun hc => by
    unfold tkE at hc
    unfold tkO
    split at hc
    · rename_i h1
      split at hc
      · rename_i h2; rw [if_pos h1, if_pos h2, List.length_take]; omega
      · cases hc
    · rename_i h1; exact absurd hc h1
  have hOn0 : tkE 32 e xs ≠ 0 → tkO 32 e xs = [] := fun hc => by
    unfold tkE at hc
    unfold tkO
    split at hc
    · rename_i h1
      split at hc
      · exact absurd rfl hc
      · rename_i h2; rw [if_pos h1, if_neg h2]
    · rename_i h1; rw [if_neg h1]
  have hfin : gH (e, xs) = (padL 32 (tkE 32 e xs) (tkO 32 e xs), tkE 32 e xs, tkR 32 e xs) := by
    unfold gH gT padL
    rfl
  rw [hfin]
  have tk0 := fun wk (hk : SA wk lo hi g e xs) => take_at 32 hk
  unfold Took at tk0
  obtain ⟨E, hE⟩ : ∃ E : Int, tkE 32 e xs = E := ⟨_, rfl⟩
  obtain ⟨O, hO⟩ : ∃ O : List Int, tkO 32 e xs = O := ⟨_, rfl⟩
  obtain ⟨R, hR⟩ : ∃ R : List Int, tkR 32 e xs = R := ⟨_, rfl⟩
  rw [hE, hO] at hOl0 hOn0
  rw [hE, hO, hR]
  simp only [hE, hO, hR] at tk0
  have tk := Lib.hid (fun wk (hk : SA wk lo hi g e xs) => (tk0 wk hk).mono fun (r : Ending) w' ⟨u, h0, h1, h2, h3, h4⟩ => (⟨u, h0, ⟨h1, h2, h3⟩, h4⟩ : ∃ u, r = Ending.returned u ∧ TkF lo hi g E O R u w' ∧ Tr (fun b => b = g) wk w'))
  have cpy := Lib.hid (fun (wk : World) u (hr : Row wk (w.heap.size + 1) 35 zr32) (hu : Bs wk u O) => copy_pad (n := 32) (j := 0) (c := 32) hr hu (.inr rfl) (by decide) hOl0 hOn0)
  have hlen := Lib.hid (padL_len (E := E) (O := O) (n := 32) (by decide) hOl0)
  have H0 := Lib.hid h
  clear hfin tk0 hE hO hR hOl0 hOn0 h
  go_enter Try.func68, Try.ntmps68
  go_upto_region 2 with (fail)
  refine wp_abs (Mem w [(w.heap.size, 35, zr32), (w.heap.size + 1, 35, zr32)]) ⟨by go_grown, ?_, ?_, trivial⟩ ?_
  · repeat (first | (refine Row.new_at ?_; simp; done) | refine Row.alloc ?_ _)
  · repeat (first | (refine Row.new_at ?_; simp; done) | refine Row.alloc ?_ _)
  intro w0 hM
  obtain ⟨hl, r0, rT, -⟩ := hM
  have hs5 := H0.out.below hl
  have hh5 : hi ≤ w0.heap.size := Nat.le_trans hhi hl.size
  have hTg : g < w.heap.size + 1 := by omega
  go_upto_region 2 with (fail)
  let L : List Sp := [sW 2 [] [] [] g (fun b => lo ≤ b ∧ b < hi) (fun _ => True) (TkF lo hi g E O R), sW 3 [2] [2] [] (w.heap.size + 1) (fun b => b = w.heap.size + 1) (fun _ => True) (fun _ wz => Row wz (w.heap.size + 1) 35 (bv (padL 32 E O)).toArray)]
  refine wp_region_six (shs L) (look6 L) (fun c => c = g ∨ c = w.heap.size + 1) (by kernel_rfl) (by kernel_rfl) (mk_St L [2, 3] [2, 3] (by kernel_rfl) (by kernel_rfl) ⟨ok_W ⟨undef, trivial⟩ TkF.loc hs5.lt (.inl rfl) (fun b hb => Nat.lt_of_lt_of_le hb.2 hh5), ok_W ⟨undef, trivial⟩ (fun _ => Row.loc) rT.lt (.inr rfl) (fun b hb => hb ▸ rT.lt), trivial⟩ (by intro i hi j hj hne b hb hx; simp only [List.mem_cons, List.not_mem_nil, or_false] at hi hj; rcases hi with rfl | rfl <;> rcases hj with rfl | rfl <;> first | exact absurd rfl hne | (have hb1 : lo ≤ b ∧ b < hi := hb; have hx1 : b = w.heap.size + 1 := hx; omega) | (have hb1 : b = w.heap.size + 1 := hb; have hx1 : b = g := hx; omega))) ?_
  intro QQ hQ
  -- 0: slice<35> t3[::]
  refine stepKz rfl (fun K hK => ?_); go_simp
  apply Exists.intro; apply And.intro; (focus (intro wk hk; go_simp; exact ⟨rfl, rfl⟩)); refine hK _ _ ?_; clear hK K
  -- 1: t0
  refine stepK rfl (by kernel_rfl) (fun K hK => ?_); go_simp
  apply Exists.intro; apply And.intro; (focus (intro wk hk; go_simp; exact ⟨rfl, rfl⟩)); refine hK _ _ ?_; clear hK K
  -- 2: call F177(t5, 32)
  refine stepS _ rfl (by kernel_rfl) (fun K hK => ?_); go_simp
  refine ⟨?_, ?_⟩
  · intro wk hk hg hu; go_simp; refine upon_enter ((tk.out _ (hs5.below hk.undrew.below)).mono ?_); rintro e w' ⟨u, rfl, hf, ht⟩; exact ⟨_, rfl, left_W rfl rfl trivial ht hf⟩
  rintro ⟨v2, lo2, hi2⟩ - - -
  refine hK _ _ ?_; clear hK K
  -- 3: call builtin copy<33,33>(t4, t6)
  refine stepSx _ [2] (fun c => c = g) rfl (by kernel_rfl) (by intro i hi b hb; simp only [List.mem_cons, List.not_mem_nil, or_false] at hi; subst hi; exact hb) (fun K hK => ?_); go_simp
  refine ⟨?_, ?_⟩
  · intro wk hk hg hu; have u2 : TkF lo hi g E O R v2 wk := hu 2 (show 2 ∈ [2] by decide); have rTk : Row wk (w.heap.size + 1) 35 zr32 := K6.Row.tr rT hk.undrew (by intro hc; have hc' : w.heap.size + 1 = g := hc; omega); obtain ⟨vv, w', hrun, hrow, htr⟩ := cpy.out wk v2 rTk u2.1; refine sUpon_copy rfl rfl rfl hrun ?_; exact left_W rfl rfl trivial htr hrow
  rintro ⟨v3, lo3, hi3⟩ - - -
  refine hK _ _ ?_; clear hK K
  refine stepN ?_
  refine hQ _ _ ?_
  intro w6 hT hG hF
  have hT' := hT.undrew
  have u2 : TkF lo hi g E O R v2 w6 := hF 2 _ rfl rfl (by decide)
  have rL : Row w6 (w.heap.size + 1) 35 (bv (padL 32 E O)).toArray := hF 3 _ rfl rfl (by decide)
  have hs := u2.2.2
  have r0' := K6.Row.tr r0 hT' (by rintro (hc | hc) <;> omega)
  have ht : Tr (fun b => b = g) w w6 := (Tr.of hl : Tr (fun b => b = g) w w0).trans_new hT' (fun b hb hlt => by rcases hb with hb | hb <;> omega)
  clear hT hT' hG hF hQ QQ L u2 tk cpy hs5 rT r0 H0 hl
  have r0 := r0'
  clear r0'
  obtain ⟨Z, hZ⟩ : ∃ Z, padL 32 E O = Z := ⟨_, rfl⟩
  rw [hZ] at hlen rL
  have HZ := Lib.hid hZ
  clear hZ
  have hszZ : (bv Z).toArray.size = 32 := by rw [List.size_toArray, bv_len]; exact hlen.out
  obtain ⟨Y, hY⟩ : ∃ Y, (bv Z).toArray = Y := ⟨_, rfl⟩
  have hone : (bv Z).toArray.all (·.oneCell') = true := bv_one Z
  have hinf : (Try.prog.info? 35).map (·.size) = some (bv Z).toArray.size := by rw [hszZ]; kernel_rfl
  rw [hY] at rL hszZ hone hinf
  have HY := Lib.hid hY
  clear hY
  go_upto_region 3 with (fail)
  let L : List Sp := [sO 1 (w.heap.size) 35 [0] (fun g => aggOf g 0)]
  refine wp_region_six0 (shs L) (look6 L) (fun c => c = w.heap.size) (by kernel_rfl) (by kernel_rfl) (mk_St L [1] [1] (by kernel_rfl) (by kernel_rfl) ⟨ok_O aggOf_congr r0.lt (rfl), trivial⟩ (by simp)) ?_
  intro QQ hQ
  -- 0: load<35> *t3
  refine stepK rfl (by kernel_rfl) (fun K hK => ?_); go_simp
  apply Exists.intro; apply And.intro; (focus exact kLoad rfl rfl aggR35 rL hszZ id); refine hK _ _ ?_; clear hK K
  -- 1: store<35> *t2 = t8
  refine stepS _ rfl (by kernel_rfl) (fun K hK => ?_); go_simp
  refine ⟨?_, ?_⟩
  · exact sStoreO rfl rfl rfl rfl rfl rfl r0 id hinf hszZ.symm hone (by decide) aggOf_congr
  rintro ⟨v1, lo1, hi1⟩ - - (rfl : v1 = undef)
  refine hK _ _ ?_; clear hK K
  refine stepN ?_
  refine hQ _ _ ?_
  intro w9 hT hG hF
  have x0 : Row w9 (w.heap.size) 35 (Y) := hF 1 _ rfl rfl (by decide)
  have hs9 := hs.keep hT (fun b _ hb hc => by have hc' : b = w.heap.size := hc; omega)
  have ht9 := ht.trans_new hT (fun b hb hlt => by have hb' : b = w.heap.size := hb; omega)
  clear hT hG hF hQ QQ L
  go_wp2_with fail
  refine bodyPost_ret (results_c rfl aggR35 rfl x0 hszZ) rfl ?_
  exact ⟨by rw [← HY.out, ← HZ.out], hs9, ht9⟩

/-- a text: how many bytes, and these -/
def gX (most : Int) (s : St) : List Int × St := gT (gV most s).1 (gV most s).2
def GotX (w : World) (lo hi g : Nat) (x : List Int × St) (r : Ending) (w' : World) : Prop := ∃ v, r = .returned v ∧ Ob w' w.heap.size v x.1 ∧ SA w' lo hi g x.2.1 x.2.2 ∧ Tr (fun b => b = g) w w'
set_option maxRecDepth 100000 in
set_option maxHeartbeats 8000000 in
/-- Text -/
theorem stext_at {w : World} {lo hi g : Nat} {e : Int} {xs : List Int} (most : Int) (h : SA w lo hi g e xs) :
    Calls Try.prog 63 #[.pointer (some ⟨g, 0, none⟩), .int .i64 most] w (GotX w lo hi g (gX most (e, xs))) := by
  have sv := svar_at most h
  unfold Varred at sv
  unfold gX gV
  simp only
  obtain ⟨n, hn⟩ : ∃ n, svN most e xs = n := ⟨_, rfl⟩
  obtain ⟨E, hE⟩ : ∃ E, svE most e xs = E := ⟨_, rfl⟩
  obtain ⟨R, hR⟩ : ∃ R, svR most e xs = R := ⟨_, rfl⟩
  rw [hn, hE, hR] at sv
  rw [hn, hE, hR]
  replace sv := Lib.hid sv
  clear h hn hE hR
  by_cases he : E = 0
  · subst he
    go_enter Try.func63, Try.ntmps63
    go_wp2_with fail
    refine sv.out.mono ?_
    rintro r w1 ⟨rfl, hs, ht⟩
    have ok := ok_at hs
    rw [decide_eq_true rfl] at ok
    replace ok := Lib.hid ok
    have tk := Lib.hid (take_at n hs)
    have HT := Lib.hid ht
    have hL0 := hs.2.2.2.2.1
    have hOL : (tkO n 0 R).length ≤ 100000000 := by
      unfold tkO
      rw [if_pos rfl]
      split
      · rw [List.length_take]; omega
      · exact Nat.zero_le _
    have HL := Lib.hid hOL
    clear sv hs ht hL0 hOL
    go_wp2_with fail
    refine ok.out.mono ?_
    rintro r w2 ⟨rfl, rfl⟩
    clear ok
    go_wp2_with fail
    refine tk.out.mono ?_
    rintro r w3 ⟨u, rfl, hu, -, hs, ht⟩
    have cl := Lib.hid (clone_any u _ w3 hu HL.out)
    have HS := Lib.hid (show _ ∧ _ from ⟨hs, HT.out.trans ht⟩)
    clear tk hu hs ht HL HT
    go_wp2_with fail
    refine cl.out.mono ?_
    rintro r w4 ⟨v, rfl, ho, hb⟩
    have H := Lib.hid (show Ob w4 w.heap.size v (tkO n 0 R) ∧ SA w4 lo hi g (tkE n 0 R) (tkR n 0 R) ∧ Tr (fun b => b = g) w w4 from ⟨ho.base HS.out.2.size, HS.out.1.below hb, HS.out.2.trans (Tr.of hb)⟩)
    clear cl ho hb HS
    go_wp2_with fail
    go_ret
    exact ⟨v, rfl, H.out.1, H.out.2.1, H.out.2.2⟩
  · go_enter Try.func63, Try.ntmps63
    go_wp2_with fail
    refine sv.out.mono ?_
    rintro r w1 ⟨rfl, hs, ht⟩
    have ok := ok_at hs
    rw [decide_eq_false he] at ok
    replace ok := Lib.hid ok
    have hR0 := hs.2.2.1 he
    subst hR0
    have H := Lib.hid (show GotX w lo hi g (gT n (E, [])) (.returned (.slice none 0 0)) w1 from by rw [gT_fault he]; exact ⟨_, rfl, Ob.nil _ _, hs, ht⟩)
    clear sv hs ht
    go_wp2_with fail
    refine ok.out.mono ?_
    rintro r w2 ⟨rfl, rfl⟩
    clear ok
    go_wp2_with fail
    go_ret
    exact H.out
end Go.Proofs.Ytpdenhmkpiafiaa
