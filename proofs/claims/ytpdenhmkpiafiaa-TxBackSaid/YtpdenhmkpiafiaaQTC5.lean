/-
  What the statement rests on, part 6: OctRead RefSrc RefForm1.
-/
import Derived.Test.YtpdenhmkpiafiaaQTC0
import Derived.Test.YtpdenhmkpiafiaaQTC1
import Derived.Test.YtpdenhmkpiafiaaQTC4
namespace Go.Proofs.Ytpdenhmkpiafiaa
open Go Go.RowKit K6
def Got (w : World) (lo hi g : Nat) (v : Value) (s : St) (r : Ending) (w' : World) : Prop := r = .returned v ∧ SA w' lo hi g s.1 s.2 ∧ Tr (fun b => b = g) w w'
set_option maxRecDepth 100000 in
set_option maxHeartbeats 8000000 in
theorem samt_f {w : World} {lo hi g : Nat} {e : Int} {xs : List Int} (h : SA w lo hi g e xs) (hhi : hi ≤ w.heap.size) (h0 : byO e xs = 0) (h1 : tkE 1 e xs ≠ 0) (h2 : tkR 1 e xs = []) :
    Calls Try.prog 62 #[.pointer (some ⟨g, 0, none⟩)] w (Got w lo hi g (.agg #[.int .u64 0, .int .u64 0, .int .u64 0, .int .u64 0]) (tkE 1 e xs, [])) := by
  have hgh : g < hi := h.2.1
  have hA : Below w.heap.size w (w.alloc (.cells #[Value.int .u64 0, .int .u64 0, .int .u64 0, .int .u64 0] 31)) := (Below.refl _ _).alloc (Nat.le_refl _) _
  have hsz : (w.alloc (.cells #[Value.int .u64 0, .int .u64 0, .int .u64 0, .int .u64 0] 31)).heap.size = w.heap.size + 1 := by simp
  have r0 : Row (w.alloc (.cells #[Value.int .u64 0, .int .u64 0, .int .u64 0, .int .u64 0] 31)) w.heap.size 31 #[.int .u64 0, .int .u64 0, .int .u64 0, .int .u64 0] := Row.new_at rfl
  have hby := byte_at (h.below hA)
  rw [h0, h2] at hby
  obtain ⟨k, hk⟩ : ∃ k, tkE 1 e xs = k := ⟨_, rfl⟩
  rw [hk] at h1 hby ⊢
  replace hby := Lib.hid hby
  have R0 := Lib.hid (show _ ∧ _ ∧ _ from ⟨hA, hsz, r0⟩)
  have H1 := Lib.hid h1
  clear h hA hsz r0 h0 h2 hk h1
  go_enter Try.func62, Try.ntmps62
  go_wp2_with fail
  refine hby.out.mono ?_
  rintro r w1 ⟨rfl, hs, ht⟩
  have ok := ok_at hs
  rw [decide_eq_false H1.out] at ok
  replace ok := Lib.hid ok
  have r1 := K6.Row.tr R0.out.2.2 ht (by omega)
  replace ht : Tr (fun b => b = g) w w1 := (Tr.of R0.out.1 : Tr (fun b => b = g) w _).trans ht
  have HS := Lib.hid (show _ ∧ _ ∧ _ from ⟨hs, ht, r1⟩)
  clear hby hs ht r1
  go_wp2_with fail
  refine ok.out.mono ?_
  rintro r w2 ⟨rfl, rfl⟩
  clear ok
  obtain ⟨hs, ht, r0⟩ := HS.out
  clear HS R0 H1
  go_upto_region 3 with (fail)
  let L : List Sp := [sO 1 (w.heap.size) 31 [0] (fun g => aggOf g 0)]
  refine wp_region_six0 (shs L) (look6 L) (fun c => c = w.heap.size) (by kernel_rfl) (by kernel_rfl) (mk_St L [1] [1] (by kernel_rfl) (by kernel_rfl) ⟨ok_O aggOf_congr r0.lt (rfl), trivial⟩ (by simp)) ?_
  intro QQ hQ
  refine stepK rfl (by kernel_rfl) (fun K hK => ?_); go_simp
  apply Exists.intro; apply And.intro; (focus (intro wk hk; go_simp; exact ⟨rfl, rfl⟩)); refine hK _ _ ?_; clear hK K
  refine stepS _ rfl (by kernel_rfl) (fun K hK => ?_); go_simp
  refine ⟨?_, ?_⟩
  · exact sStoreO rfl rfl rfl rfl rfl rfl r0 id (by kernel_rfl) rfl (by kernel_rfl) (by decide) aggOf_congr
  rintro ⟨v1, lo1, hi1⟩ - - (rfl : v1 = undef)
  refine hK _ _ ?_; clear hK K
  refine stepN ?_
  refine hQ _ _ ?_
  intro w9 hT hG hF
  have x0 : Row w9 (w.heap.size) 31 (#[.int .u64 0, .int .u64 0, .int .u64 0, .int .u64 0]) := hF 1 _ rfl rfl (by decide)
  have hs9 := hs.keep hT (fun b _ hb hc => by have hc' : b = w.heap.size := hc; omega)
  have ht9 := ht.trans_new hT (fun b hb hlt => by have hb' : b = w.heap.size := hb; omega)
  clear hT hG hF hQ QQ L
  go_wp2_with fail
  refine bodyPost_ret (results_c rfl aggT31 rfl x0 rfl) rfl ?_
  exact ⟨rfl, hs9, ht9⟩
set_option maxRecDepth 100000 in
set_option maxHeartbeats 8000000 in
theorem samt_big {w : World} {lo hi g n : Nat} {cs : List Int} (h : SA w lo hi g 0 ((n : Int) :: cs)) (hhi : hi ≤ w.heap.size) (hn : 32 < n) (hn2 : n < 256) :
    Calls Try.prog 62 #[.pointer (some ⟨g, 0, none⟩)] w (Got w lo hi g (.agg #[.int .u64 0, .int .u64 0, .int .u64 0, .int .u64 0]) (4, [])) := by
  have hgh : g < hi := h.2.1
  have hA : Below w.heap.size w (w.alloc (.cells #[Value.int .u64 0, .int .u64 0, .int .u64 0, .int .u64 0] 31)) := (Below.refl _ _).alloc (Nat.le_refl _) _
  have hsz : (w.alloc (.cells #[Value.int .u64 0, .int .u64 0, .int .u64 0, .int .u64 0] 31)).heap.size = w.heap.size + 1 := by simp
  have r0 : Row (w.alloc (.cells #[Value.int .u64 0, .int .u64 0, .int .u64 0, .int .u64 0] 31)) w.heap.size 31 #[.int .u64 0, .int .u64 0, .int .u64 0, .int .u64 0] := Row.new_at rfl
  have hn3 : (32 : Int) < (n : Int) := by omega
  have hby := byte_at (h.below hA)
  rw [show byO 0 ((n : Int) :: cs) = (n : Int) from by unfold byO tkO; simp, show tkE 1 0 ((n : Int) :: cs) = 0 from by unfold tkE; simp, show tkR 1 0 ((n : Int) :: cs) = cs from by unfold tkR; simp] at hby
  replace hby := Lib.hid hby
  have R0 := Lib.hid (show _ ∧ _ ∧ _ from ⟨hA, hsz, r0⟩)
  have wn : IntKind.i64.wrap (n : Int) = (n : Int) := by rw [IntKind.wrap_i64]; omega
  clear h hA hsz r0
  go_enter Try.func62, Try.ntmps62
  go_wp2_with fail
  refine hby.out.mono ?_
  rintro r w1 ⟨rfl, hs, ht⟩
  have ok := ok_at hs
  rw [decide_eq_true rfl] at ok
  replace ok := Lib.hid ok
  have r1 := K6.Row.tr R0.out.2.2 ht (by omega)
  have hsw : w.heap.size < w1.heap.size := Nat.lt_of_lt_of_le (by rw [R0.out.2.1]; omega) ht.size
  replace ht : Tr (fun b => b = g) w w1 := (Tr.of R0.out.1 : Tr (fun b => b = g) w _).trans ht
  have HS := Lib.hid (show _ ∧ _ ∧ _ from ⟨hs, ht, r1⟩)
  clear hby hs ht r1 R0
  go_wp2_with fail
  refine ok.out.mono ?_
  rintro r w2 ⟨rfl, rfl⟩
  clear ok
  go_upto_region 5 with (fail)
  obtain ⟨hs, ht, r1⟩ := HS.out
  clear HS
  have hB0 : ∀ x, Below w2.heap.size w2 (w2.alloc x) := fun x => (Below.refl _ _).alloc (Nat.le_refl _) _
  refine wp_abs (fun wx => SA wx lo hi g 0 (cs) ∧ Tr (fun b => b = g) w wx ∧ Row wx w.heap.size 31 #[.int .u64 0, .int .u64 0, .int .u64 0, .int .u64 0] ∧ Row wx w2.heap.size 34 zr32) ⟨hs.below (hB0 _), ht.trans (Tr.of (hB0 _)), r1.below (hB0 _) r1.lt, ?_⟩ ?_
  · refine Row.new_at ?_; simp
  rintro w5 ⟨hs5, ht5, r0, rT⟩
  have hh5 : hi ≤ w5.heap.size := Nat.le_trans hhi ht5.size
  clear hB0 hs ht r1
  have fl := Lib.hid (fail_at 4 hs5)
  have HS := Lib.hid (show _ ∧ _ from ⟨ht5, r0⟩)
  clear hs5 ht5 r0 rT
  go_wp2_with fail
  refine fl.out.mono ?_
  rintro r w3 ⟨⟨u, rfl⟩, hs, ht3⟩
  replace hs : SA w3 lo hi g 4 [] := by simpa using hs
  have r0 := K6.Row.tr HS.out.2 ht3 (by omega)
  have ht : Tr (fun b => b = g) w w3 := HS.out.1.trans ht3
  clear HS fl ht3
  go_upto_region 7 with (fail)
  let L : List Sp := [sO 1 (w.heap.size) 31 [0] (fun g => aggOf g 0)]
  refine wp_region_six0 (shs L) (look6 L) (fun c => c = w.heap.size) (by kernel_rfl) (by kernel_rfl) (mk_St L [1] [1] (by kernel_rfl) (by kernel_rfl) ⟨ok_O aggOf_congr r0.lt (rfl), trivial⟩ (by simp)) ?_
  intro QQ hQ
  refine stepK rfl (by kernel_rfl) (fun K hK => ?_); go_simp
  apply Exists.intro; apply And.intro; (focus (intro wk hk; go_simp; exact ⟨rfl, rfl⟩)); refine hK _ _ ?_; clear hK K
  refine stepS _ rfl (by kernel_rfl) (fun K hK => ?_); go_simp
  refine ⟨?_, ?_⟩
  · exact sStoreO rfl rfl rfl rfl rfl rfl r0 id (by kernel_rfl) rfl (by kernel_rfl) (by decide) aggOf_congr
  rintro ⟨v1, lo1, hi1⟩ - - (rfl : v1 = undef)
  refine hK _ _ ?_; clear hK K
  refine stepN ?_
  refine hQ _ _ ?_
  intro w9 hT hG hF
  have x0 : Row w9 (w.heap.size) 31 (#[.int .u64 0, .int .u64 0, .int .u64 0, .int .u64 0]) := hF 1 _ rfl rfl (by decide)
  have hs9 := hs.keep hT (fun b _ hb hc => by have hc' : b = w.heap.size := hc; omega)
  have ht9 := ht.trans_new hT (fun b hb hlt => by have hb' : b = w.heap.size := hb; omega)
  clear hT hG hF hQ QQ L
  go_wp2_with fail
  refine bodyPost_ret (results_c rfl aggT31 rfl x0 rfl) rfl ?_
  exact ⟨rfl, hs9, ht9⟩
set_option maxRecDepth 100000 in
set_option maxHeartbeats 8000000 in
theorem samt_lead {w : World} {lo hi g n : Nat} {ds : List Int} (h : SA w lo hi g 0 ((n : Int) :: 0 :: ds)) (hhi : hi ≤ w.heap.size) (hn : n ≤ 32) (h0 : 0 < n) :
    Calls Try.prog 62 #[.pointer (some ⟨g, 0, none⟩)] w (Got w lo hi g (.agg #[.int .u64 0, .int .u64 0, .int .u64 0, .int .u64 0]) (4, [])) := by
  have hgh : g < hi := h.2.1
  have hA : Below w.heap.size w (w.alloc (.cells #[Value.int .u64 0, .int .u64 0, .int .u64 0, .int .u64 0] 31)) := (Below.refl _ _).alloc (Nat.le_refl _) _
  have hsz : (w.alloc (.cells #[Value.int .u64 0, .int .u64 0, .int .u64 0, .int .u64 0] 31)).heap.size = w.heap.size + 1 := by simp
  have r0 : Row (w.alloc (.cells #[Value.int .u64 0, .int .u64 0, .int .u64 0, .int .u64 0] 31)) w.heap.size 31 #[.int .u64 0, .int .u64 0, .int .u64 0, .int .u64 0] := Row.new_at rfl
  have hn3 : (n : Int) ≤ 32 := by omega
  have hn4 : (0 : Int) < (n : Int) := by omega
  have hby := byte_at (h.below hA)
  rw [show byO 0 ((n : Int) :: 0 :: ds) = (n : Int) from by unfold byO tkO; simp, show tkE 1 0 ((n : Int) :: 0 :: ds) = 0 from by unfold tkE; simp, show tkR 1 0 ((n : Int) :: 0 :: ds) = 0 :: ds from by unfold tkR; simp] at hby
  replace hby := Lib.hid hby
  have R0 := Lib.hid (show _ ∧ _ ∧ _ from ⟨hA, hsz, r0⟩)
  have wn : IntKind.i64.wrap (n : Int) = (n : Int) := by rw [IntKind.wrap_i64]; omega
  clear h hA hsz r0
  go_enter Try.func62, Try.ntmps62
  go_wp2_with fail
  refine hby.out.mono ?_
  rintro r w1 ⟨rfl, hs, ht⟩
  have ok := ok_at hs
  rw [decide_eq_true rfl] at ok
  replace ok := Lib.hid ok
  have r1 := K6.Row.tr R0.out.2.2 ht (by omega)
  have hsw : w.heap.size < w1.heap.size := Nat.lt_of_lt_of_le (by rw [R0.out.2.1]; omega) ht.size
  replace ht : Tr (fun b => b = g) w w1 := (Tr.of R0.out.1 : Tr (fun b => b = g) w _).trans ht
  have HS := Lib.hid (show _ ∧ _ ∧ _ from ⟨hs, ht, r1⟩)
  clear hby hs ht r1 R0
  go_wp2_with fail
  refine ok.out.mono ?_
  rintro r w2 ⟨rfl, rfl⟩
  clear ok
  go_upto_region 5 with (fail)
  obtain ⟨hs, ht, r1⟩ := HS.out
  clear HS
  have hB0 : ∀ x, Below w2.heap.size w2 (w2.alloc x) := fun x => (Below.refl _ _).alloc (Nat.le_refl _) _
  refine wp_abs (fun wx => SA wx lo hi g 0 (0 :: ds) ∧ Tr (fun b => b = g) w wx ∧ Row wx w.heap.size 31 #[.int .u64 0, .int .u64 0, .int .u64 0, .int .u64 0] ∧ Row wx w2.heap.size 34 zr32) ⟨hs.below (hB0 _), ht.trans (Tr.of (hB0 _)), r1.below (hB0 _) r1.lt, ?_⟩ ?_
  · refine Row.new_at ?_; simp
  rintro w5 ⟨hs5, ht5, r0, rT⟩
  have hh5 : hi ≤ w5.heap.size := Nat.le_trans hhi ht5.size
  clear hB0 hs ht r1
  have fl := Lib.hid (fail_at 4 hs5)
  have HS := Lib.hid (show _ ∧ _ from ⟨ht5, r0⟩)
  obtain ⟨-, -, -, -, -, v, hr, hv⟩ := id hs5
  rcases hv with ⟨-, hv⟩ | ⟨b, o, cp, -, -, -, rfl, hcp, hcell⟩
  · cases hv
  have c0 : w5.cell? ⟨g, 0, none⟩ = some (.slice (some ⟨b, o, none⟩) (ds.length + 1) cp) := hr.cell 0
  have c1 : w5.cell? ⟨b, o, none⟩ = some (.int .u8 0) := hcell 0 _ rfl
  have hpos : (0 : Int) < ((ds.length + 1 : Nat) : Int) := by omega
  clear hr hcell hcp
  clear hs5 ht5 r0 rT
  go_wp2_with fail
  refine fl.out.mono ?_
  rintro r w3 ⟨⟨u, rfl⟩, hs, ht3⟩
  replace hs : SA w3 lo hi g 4 [] := by simpa using hs
  have r0 := K6.Row.tr HS.out.2 ht3 (by omega)
  have ht : Tr (fun b => b = g) w w3 := HS.out.1.trans ht3
  clear HS fl ht3 c0 c1 hpos
  go_upto_region 7 with (fail)
  let L : List Sp := [sO 1 (w.heap.size) 31 [0] (fun g => aggOf g 0)]
  refine wp_region_six0 (shs L) (look6 L) (fun c => c = w.heap.size) (by kernel_rfl) (by kernel_rfl) (mk_St L [1] [1] (by kernel_rfl) (by kernel_rfl) ⟨ok_O aggOf_congr r0.lt (rfl), trivial⟩ (by simp)) ?_
  intro QQ hQ
  refine stepK rfl (by kernel_rfl) (fun K hK => ?_); go_simp
  apply Exists.intro; apply And.intro; (focus (intro wk hk; go_simp; exact ⟨rfl, rfl⟩)); refine hK _ _ ?_; clear hK K
  refine stepS _ rfl (by kernel_rfl) (fun K hK => ?_); go_simp
  refine ⟨?_, ?_⟩
  · exact sStoreO rfl rfl rfl rfl rfl rfl r0 id (by kernel_rfl) rfl (by kernel_rfl) (by decide) aggOf_congr
  rintro ⟨v1, lo1, hi1⟩ - - (rfl : v1 = undef)
  refine hK _ _ ?_; clear hK K
  refine stepN ?_
  refine hQ _ _ ?_
  intro w9 hT hG hF
  have x0 : Row w9 (w.heap.size) 31 (#[.int .u64 0, .int .u64 0, .int .u64 0, .int .u64 0]) := hF 1 _ rfl rfl (by decide)
  have hs9 := hs.keep hT (fun b _ hb hc => by have hc' : b = w.heap.size := hc; omega)
  have ht9 := ht.trans_new hT (fun b hb hlt => by have hb' : b = w.heap.size := hb; omega)
  clear hT hG hF hQ QQ L
  go_wp2_with fail
  refine bodyPost_ret (results_c rfl aggT31 rfl x0 rfl) rfl ?_
  exact ⟨rfl, hs9, ht9⟩
def padL (n : Nat) (E : Int) (O : List Int) : List Int := if E = 0 then List.replicate (32 - n) 0 ++ O else List.replicate 32 0
theorem zr32_bv : zr32 = (bv (List.replicate 32 0)).toArray := by kernel_rfl
theorem padL_len {n : Nat} {E : Int} {O : List Int} (hn : n ≤ 32) (h : E = 0 → O.length = n) : (padL n E O).length = 32 := by
  unfold padL
  split
  · rename_i h0; rw [List.length_append, List.length_replicate, h h0]; omega
  · rw [List.length_replicate]
theorem padL_by {n : Nat} {E : Int} {O : List Int} (h : By O) : By (padL n E O) := by
  have hz : ∀ k, By (List.replicate k 0) := fun k x hx => by rw [(List.mem_replicate.1 hx).2]; omega
  unfold padL
  split
  · exact (hz _).app h
  · exact hz _
theorem copy_pad {w : World} {T t n j c : Nat} {E : Int} {O : List Int} {u : Value} (hr : Row w T t zr32) (hu : Bs w u O) (hj : n = 0 ∨ j = 32 - n) (hn : n ≤ 32) (h0 : E = 0 → O.length = n) (h1 : E ≠ 0 → O = []) :
    ∃ v2 w', (Builtin.copy_ #[33, 33] 3 #[.slice (some ⟨T, j, none⟩) n c, u]).run Try.prog w = .ok v2 w' ∧ Row w' T t (bv (padL n E O)).toArray ∧ Tr (fun b => b = T) w w' := by
  by_cases hE : E = 0
  · have hl := h0 hE
    by_cases hz : n = 0
    · obtain rfl : O = [] := List.eq_nil_of_length_eq_zero (hl.trans hz)
      refine ⟨_, w, copy_none hu, ?_, Tr.refl _ _⟩
      unfold padL
      rw [if_pos hE, hz, List.append_nil, ← zr32_bv]
      exact hr
    · have hj := hj.resolve_left hz
      obtain ⟨w', hrun, hrow, ht⟩ := copy_run (ty := 3) (c := c) (o := j) hr hu hl (by show j + n ≤ 32; omega)
      refine ⟨_, w', hrun, ?_, ht⟩
      rw [zr32_copy (by omega)] at hrow
      unfold padL
      rw [if_pos hE, ← hj]
      exact hrow
  · obtain rfl := h1 hE
    refine ⟨_, w, copy_none hu, ?_, Tr.refl _ _⟩
    unfold padL
    rw [if_neg hE, ← zr32_bv]
    exact hr
theorem sUpon_copy {P : Program} {V : Value → World → Prop} {o : Oper} {a : Act} {x y : Operand} {t t' : TypeId} {v u v2 : Value} {w w2 : World} (ho : o.op = .call { callee := .builtin .copy, args := #[x, y], argTypes := #[t, t'] }) (hx : a.eval x = v) (hy : a.eval y = u)
    (hrun : (Builtin.copy_ #[t, t'] o.type #[v, u]).run P w = .ok v2 w2) (h : sUpon P V (.ok (.value v2) w2)) : sUpon P V ((execOp a.eval o).run P w) := by
  rw [run_copy_op ho hx hy hrun]; exact h
theorem bv_one (l : List Int) : (bv l).toArray.all (·.oneCell') = true := by
  rw [Array.all_eq_true]
  intro i hi
  simp [bv, Value.oneCell']
theorem take_lets {n : Nat} {E : Int} {cs O R : List Int} (hE : tkE n 0 cs = E) (hO : tkO n 0 cs = O) (hR : tkR n 0 cs = R) {w : World} {lo hi g : Nat} (h : SA w lo hi g 0 cs) :
    Calls Try.prog 177 #[.pointer (some ⟨g, 0, none⟩), .int .i64 (n : Int)] w fun r w' => ∃ u, r = .returned u ∧ (Bs w' u O ∧ (∀ b, u.ownBlock = some b → lo ≤ b ∧ b < hi ∧ b ≠ g) ∧ SA w' lo hi g E R) ∧ Tr (fun b => b = g) w w' := by
  refine (take_at n h).mono ?_
  rintro r w' ⟨u, rfl, h1, h2, h3, h4⟩
  rw [hO] at h1
  rw [hE, hR] at h3
  exact ⟨u, rfl, ⟨h1, h2, h3⟩, h4⟩
def TkF (lo hi g : Nat) (E : Int) (O R : List Int) (u : Value) (w : World) : Prop := Bs w u O ∧ (∀ b, u.ownBlock = some b → lo ≤ b ∧ b < hi ∧ b ≠ g) ∧ SA w lo hi g E R
theorem TkF.loc {lo hi g : Nat} {E : Int} {O R : List Int} (u : Value) (w w' : World) (h : TkF lo hi g E O R u w) (hT : Tr (fun b => ¬ (lo ≤ b ∧ b < hi)) w w') : TkF lo hi g E O R u w' :=
  ⟨h.1.keep hT fun b hb hn => hn ⟨(h.2.1 b hb).1, (h.2.1 b hb).2.1⟩, h.2.1, h.2.2.keep hT fun _ h1 h2 hn => hn ⟨h1, h2⟩⟩
theorem Row.loc {T t : Nat} {cs : Array Value} (w w' : World) (h : Row w T t cs) (hT : Tr (fun b => ¬ b = T) w w') : Row w' T t cs := K6.Row.tr h hT fun hn => hn rfl
set_option maxRecDepth 100000 in
set_option maxHeartbeats 8000000 in
theorem samt_z {w : World} {lo hi g : Nat} {cs : List Int} (h : SA w lo hi g 0 (((0 : Nat) : Int) :: cs)) (hhi : hi ≤ w.heap.size)  :
    Calls Try.prog 62 #[.pointer (some ⟨g, 0, none⟩)] w (Got w lo hi g (.agg (W4 0)) (0, cs)) := by
  have hgh : g < hi := h.2.1
  have hA : Below w.heap.size w (w.alloc (.cells #[Value.int .u64 0, .int .u64 0, .int .u64 0, .int .u64 0] 31)) := (Below.refl _ _).alloc (Nat.le_refl _) _
  have hsz : (w.alloc (.cells #[Value.int .u64 0, .int .u64 0, .int .u64 0, .int .u64 0] 31)).heap.size = w.heap.size + 1 := by simp
  have r0 : Row (w.alloc (.cells #[Value.int .u64 0, .int .u64 0, .int .u64 0, .int .u64 0] 31)) w.heap.size 31 #[.int .u64 0, .int .u64 0, .int .u64 0, .int .u64 0] := Row.new_at rfl
  obtain ⟨n, hn0⟩ : ∃ n : Nat, 0 = n := ⟨_, rfl⟩
  rw [hn0] at h
  have hn : n ≤ 32 := by omega
  have hn3 : (n : Int) ≤ 32 := by omega
  have hby0 : By (cs) := fun x hx => h.2.2.2.1 x (List.mem_cons_of_mem _ hx)
  obtain ⟨E, hE⟩ : ∃ E : Int, E = 0 := ⟨_, rfl⟩
  obtain ⟨O, hO⟩ : ∃ O : List Int, O = [] := ⟨_, rfl⟩
  obtain ⟨R, hR⟩ : ∃ R : List Int, R = cs := ⟨_, rfl⟩
  have tk := Lib.hid (fun wk (hk : SA wk lo hi g 0 (cs)) => take_lets (n := n) (E := E) (O := O) (R := R) (by rw [hE]; unfold tkE; subst hn0; simp) (by rw [hO]; unfold tkO; subst hn0; simp) (by rw [hR]; unfold tkR; subst hn0; simp) hk)
  have hOby : By O := by rw [hO]; exact By.nil
  have hOl : E = 0 → O.length = n := by intro _; rw [hO]; exact hn0
  have hOn : E ≠ 0 → O = [] := by intro hc; exact absurd hE hc
  have ej : (32 : Int) - (n : Int) = 32 := by omega
  have hnz : n = 0 := hn0.symm
  have w32 : IntKind.i64.wrap 32 = 32 := by rw [IntKind.wrap_i64]; decide
  have cpy := Lib.hid (show ∀ (w2X : Nat) (wk : World) (u : Value), Row wk w2X 34 zr32 → Bs wk u O → ∃ v2 w', (Builtin.copy_ #[33, 33] 3 #[.slice (some ⟨w2X, 0, none⟩) 0 0, u]).run Try.prog wk = .ok v2 w' ∧ Row w' w2X 34 (bv (padL n E O)).toArray ∧ Tr (fun b => b = w2X) wk w' from fun w2X wk u hr hu => by subst hn0; exact copy_pad (j := 0) (c := 0) hr hu (.inl rfl) hn hOl hOn)
  have hLl := Lib.hid (padL_len (E := E) (O := O) hn hOl)
  have hLb := Lib.hid (padL_by (n := n) (E := E) hOby)
  have HE := Lib.hid (show _ ∧ _ ∧ _ from ⟨hE, hO, hR⟩)
  clear hOby hOl hOn hby0 hE hO hR hn0 hnz
  have hby := byte_at (h.below hA)
  rw [show byO 0 ((n : Int) :: cs) = (n : Int) from by unfold byO tkO; simp, show tkE 1 0 ((n : Int) :: cs) = 0 from by unfold tkE; simp, show tkR 1 0 ((n : Int) :: cs) = cs from by unfold tkR; simp] at hby
  replace hby := Lib.hid hby
  have R0 := Lib.hid (show _ ∧ _ ∧ _ from ⟨hA, hsz, r0⟩)
  have wn : IntKind.i64.wrap (n : Int) = (n : Int) := by rw [IntKind.wrap_i64]; omega
  clear h hA hsz r0
  go_enter Try.func62, Try.ntmps62
  go_wp2_with fail
  refine hby.out.mono ?_
  rintro r w1 ⟨rfl, hs, ht⟩
  have ok := ok_at hs
  rw [decide_eq_true rfl] at ok
  replace ok := Lib.hid ok
  have r1 := K6.Row.tr R0.out.2.2 ht (by omega)
  have hsw : w.heap.size < w1.heap.size := Nat.lt_of_lt_of_le (by rw [R0.out.2.1]; omega) ht.size
  replace ht : Tr (fun b => b = g) w w1 := (Tr.of R0.out.1 : Tr (fun b => b = g) w _).trans ht
  have HS := Lib.hid (show _ ∧ _ ∧ _ from ⟨hs, ht, r1⟩)
  clear hby hs ht r1 R0
  go_wp2_with fail
  refine ok.out.mono ?_
  rintro r w2 ⟨rfl, rfl⟩
  clear ok
  go_upto_region 5 with (fail)
  obtain ⟨hs, ht, r1⟩ := HS.out
  clear HS
  have hB0 : ∀ x, Below w2.heap.size w2 (w2.alloc x) := fun x => (Below.refl _ _).alloc (Nat.le_refl _) _
  refine wp_abs (fun wx => SA wx lo hi g 0 (cs) ∧ Tr (fun b => b = g) w wx ∧ Row wx w.heap.size 31 #[.int .u64 0, .int .u64 0, .int .u64 0, .int .u64 0] ∧ Row wx w2.heap.size 34 zr32) ⟨hs.below (hB0 _), ht.trans (Tr.of (hB0 _)), r1.below (hB0 _) r1.lt, ?_⟩ ?_
  · refine Row.new_at ?_; simp
  rintro w5 ⟨hs5, ht5, r0, rT⟩
  have hh5 : hi ≤ w5.heap.size := Nat.le_trans hhi ht5.size
  clear hB0 hs ht r1
  replace cpy := Lib.hid (cpy.out w2.heap.size)
  go_upto_region 8 with (fail)
  let L : List Sp := [sW 5 [] [] [] g (fun b => lo ≤ b ∧ b < hi) (fun _ => True) (TkF lo hi g E O R), sW 6 [5] [5] [] (w2.heap.size) (fun b => b = w2.heap.size) (fun _ => True) (fun _ wz => Row wz (w2.heap.size) 34 (bv (padL n E O)).toArray)]
  refine wp_region_six (shs L) (look6 L) (fun c => c = g ∨ c = w2.heap.size) (by kernel_rfl) (by kernel_rfl) (mk_St L [5, 6] [5, 6] (by kernel_rfl) (by kernel_rfl) ⟨ok_W ⟨undef, trivial⟩ TkF.loc hs5.lt (.inl rfl) (fun b hb => Nat.lt_of_lt_of_le hb.2 hh5), ok_W ⟨undef, trivial⟩ (fun _ => Row.loc) rT.lt (.inr rfl) (fun b hb => hb ▸ rT.lt), trivial⟩ (by intro i hi j hj hne b hb hx; simp only [List.mem_cons, List.not_mem_nil, or_false] at hi hj; rcases hi with rfl | rfl <;> rcases hj with rfl | rfl <;> first | exact absurd rfl hne | (have hb1 : lo ≤ b ∧ b < hi := hb; have hx1 : b = w2.heap.size := hx; omega) | (have hb1 : b = w2.heap.size := hb; have hx1 : b = g := hx; omega))) ?_
  intro QQ hQ
  refine stepKz rfl (fun K hK => ?_); go_simp
  apply Exists.intro; apply And.intro; (focus (intro wk hk; go_simp; exact ⟨rfl, rfl⟩)); refine hK _ _ ?_; clear hK K
  refine stepKz rfl (fun K hK => ?_); go_simp
  apply Exists.intro; apply And.intro; (focus (intro wk hk; go_simp; exact ⟨rfl, rfl⟩)); refine hK _ _ ?_; clear hK K
  refine stepKz rfl (fun K hK => ?_); go_simp
  apply Exists.intro; apply And.intro; (focus (intro wk hk; go_simp; exact ⟨rfl, rfl⟩)); refine hK _ _ ?_; clear hK K
  refine stepK rfl (by kernel_rfl) (fun K hK => ?_); go_simp
  apply Exists.intro; apply And.intro; (focus (intro wk hk; go_simp; exact ⟨rfl, rfl⟩)); refine hK _ _ ?_; clear hK K
  refine stepK rfl (by kernel_rfl) (fun K hK => ?_); go_simp
  apply Exists.intro; apply And.intro; (focus (intro wk hk; go_simp; exact ⟨rfl, rfl⟩)); refine hK _ _ ?_; clear hK K
  refine stepS _ rfl (by kernel_rfl) (fun K hK => ?_); go_simp
  refine ⟨?_, ?_⟩
  · intro wk hk hg hu; go_simp; refine upon_enter ((tk.out _ (hs5.below hk.undrew.below)).mono ?_); rintro e w' ⟨u, rfl, hf, ht⟩; exact ⟨_, rfl, left_W rfl rfl trivial ht hf⟩
  rintro ⟨v5, lo5, hi5⟩ - - -
  refine hK _ _ ?_; clear hK K
  refine stepSx _ [5] (fun c => c = g) rfl (by kernel_rfl) (by intro i hi b hb; simp only [List.mem_cons, List.not_mem_nil, or_false] at hi; subst hi; exact hb) (fun K hK => ?_); go_simp
  refine ⟨?_, ?_⟩
  · intro wk hk hg hu; have u5 : TkF lo hi g E O R v5 wk := hu 5 (show 5 ∈ [5] by decide); have rTk : Row wk (w2.heap.size) 34 zr32 := K6.Row.tr rT hk.undrew (by intro hc; have hc' : w2.heap.size = g := hc; omega); obtain ⟨vv, w', hrun, hrow, htr⟩ := cpy.out wk v5 rTk u5.1; refine sUpon_copy rfl rfl rfl hrun ?_; exact left_W rfl rfl trivial htr hrow
  rintro ⟨v6, lo6, hi6⟩ - - -
  refine hK _ _ ?_; clear hK K
  refine stepN ?_
  refine hQ _ _ ?_
  intro w6 hT hG hF
  have hT' := hT.undrew
  have u5 : TkF lo hi g E O R v5 w6 := hF 5 _ rfl rfl (by decide)
  have rL : Row w6 (w2.heap.size) 34 (bv (padL n E O)).toArray := hF 6 _ rfl rfl (by decide)
  have hs := u5.2.2
  have r0' := K6.Row.tr r0 hT' (by rintro (hc | hc) <;> omega)
  have ht : Tr (fun b => b = g) w w6 := ht5.trans_new hT' (fun b hb hlt => by rcases hb with hb | hb <;> omega)
  clear hT hT' hG hF hQ QQ L u5 tk cpy ht5 hs5 rT r0
  have r0 := r0'
  clear r0'
  obtain ⟨rfl, rfl, rfl⟩ := HE.out
  have ok := ok_at hs
  rw [decide_eq_true rfl] at ok
  replace ok := Lib.hid ok
  have hval := beV_zeros (32 - n) []
  obtain ⟨Lb, hLb2⟩ : ∃ Lb, padL n 0 ([]) = Lb := ⟨_, rfl⟩
  rw [hLb2] at rL hLl hLb
  replace hval : beV Lb = beV ([]) := by rw [← hLb2]; unfold padL; rw [if_pos rfl]; exact hval
  obtain ⟨V, hV⟩ : ∃ V, beV Lb = V := ⟨_, rfl⟩
  have k81 := Lib.hid (fun wk (hr : Row wk w2.heap.size 34 (bv Lb).toArray) => from32 (c := 32) hLl.out hLb.out hr)
  rw [hV] at k81 hval
  have HV := Lib.hid hval
  have HS := Lib.hid (show _ ∧ _ ∧ _ ∧ _ from ⟨hs, ht, r0, rL⟩)
  clear hs ht r0 HE hLl hLb rL hval hV hLb2
  go_wp2_with fail
  refine ok.out.mono ?_
  rintro r w7 ⟨rfl, rfl⟩
  clear ok
  obtain ⟨hs, ht, r0, rL⟩ := HS.out
  clear HS
  go_upto_region 11 with (fail)
  let L : List Sp := [sV 1 [] [] (fun u => u = .tuple #[.agg (W4 V), .bool true]), sA 5 31 [6] #[.int .u64 0, .int .u64 0, .int .u64 0, .int .u64 0], sT 6 5 31 [3] (fun g => aggOf g 3)]
  refine wp_region_six0 (shs L) (look6 L) (None_) (by kernel_rfl) (by kernel_rfl) (mk_St L [] [] (by kernel_rfl) (by kernel_rfl) ⟨ok_V ⟨_, rfl⟩, ok_A, ok_T aggOf_congr, trivial⟩ (by simp)) ?_
  intro QQ hQ
  refine stepK rfl (by kernel_rfl) (fun K hK => ?_); go_simp
  apply Exists.intro; apply And.intro; (focus (intro wk hk; go_simp; exact ⟨rfl, rfl⟩)); refine hK _ _ ?_; clear hK K
  refine stepS _ rfl (by kernel_rfl) (fun K hK => ?_); go_simp
  refine ⟨?_, ?_⟩
  · intro wk hk hg hu; go_simp; refine upon_enter ((k81.out _ (K6.Row.tr rL hk id)).mono ?_); rintro e w' ⟨rfl, hb⟩; exact ⟨_, rfl, left_V (p := fun u => u = .tuple #[.agg (W4 V), .bool true]) rfl (hb) rfl⟩
  rintro ⟨v1, lo1, hi1⟩ - - (rfl : v1 = _)
  refine hK _ _ ?_; clear hK K
  refine stepK rfl (by kernel_rfl) (fun K hK => ?_); go_simp
  apply Exists.intro; apply And.intro; (focus (intro wk hk; go_simp; exact ⟨rfl, rfl⟩)); refine hK _ _ ?_; clear hK K
  refine stepK rfl (by kernel_rfl) (fun K hK => ?_); go_simp
  apply Exists.intro; apply And.intro; (focus (intro wk hk; go_simp; exact ⟨rfl, rfl⟩)); refine hK _ _ ?_; clear hK K
  refine stepK rfl (by kernel_rfl) (fun K hK => ?_); go_simp
  apply Exists.intro; apply And.intro; (focus (intro wk hk; go_simp; exact ⟨rfl, rfl⟩)); refine hK _ _ ?_; clear hK K
  refine stepS _ rfl (by kernel_rfl) (fun K hK => ?_); go_simp
  refine ⟨?_, ?_⟩
  · intro wk hk hg hu; go_simp; exact left_A rfl rfl
  rintro ⟨v5, lo5, hi5⟩ hlo5 hhi5 ⟨e5, f5⟩
  replace e5 : v5 = .pointer (some ⟨lo5, 0, none⟩) := e5; replace f5 : hi5 = lo5 + 1 := f5; replace hlo5 : _ ≤ lo5 := hlo5; subst e5; subst f5
  refine hK _ _ ?_; clear hK K
  refine stepS _ rfl (by kernel_rfl) (fun K hK => ?_); go_simp
  refine ⟨?_, ?_⟩
  · exact sStoreT rfl rfl rfl rfl rfl rfl rfl (by kernel_rfl) rfl (by kernel_rfl) (by decide) aggOf_congr
  rintro ⟨v6, lo6, hi6⟩ - - (rfl : v6 = undef)
  refine hK _ _ ?_; clear hK K
  refine stepK rfl (by kernel_rfl) (fun K hK => ?_); go_simp
  apply Exists.intro; apply And.intro; (focus (intro wk hk; go_simp; exact ⟨rfl, rfl⟩)); refine hK _ _ ?_; clear hK K
  refine stepN ?_
  refine hQ _ _ ?_
  intro w8 hT hG hF
  have hb8 := hT.below
  have r5 : Row w8 lo5 31 (W4 V) := (hF 6 _ rfl rfl (by decide)).2
  have h05 : w.heap.size < lo5 := Nat.lt_of_lt_of_le r0.lt hlo5
  replace r0 := r0.below hb8 r0.lt
  replace hs := hs.below hb8
  replace ht := ht.trans (Tr.of hb8)
  clear hT hG hF hb8 hQ QQ L hlo5 hhi5 k81 rL
  go_upto_region 12 with (fail)
  let L : List Sp := [sO 1 (w.heap.size) 31 [0] (fun g => aggOf g 0)]
  refine wp_region_six0 (shs L) (look6 L) (fun c => c = w.heap.size) (by kernel_rfl) (by kernel_rfl) (mk_St L [1] [1] (by kernel_rfl) (by kernel_rfl) ⟨ok_O aggOf_congr r0.lt (rfl), trivial⟩ (by simp)) ?_
  intro QQ hQ
  refine stepK rfl (by kernel_rfl) (fun K hK => ?_); go_simp
  apply Exists.intro; apply And.intro; (focus exact kLoad rfl rfl aggT31 r5 rfl id); refine hK _ _ ?_; clear hK K
  refine stepS _ rfl (by kernel_rfl) (fun K hK => ?_); go_simp
  refine ⟨?_, ?_⟩
  · exact sStoreO rfl rfl rfl rfl rfl rfl r0 id (by kernel_rfl) rfl (by kernel_rfl) (by decide) aggOf_congr
  rintro ⟨v1, lo1, hi1⟩ - - (rfl : v1 = undef)
  refine hK _ _ ?_; clear hK K
  refine stepN ?_
  refine hQ _ _ ?_
  intro w9 hT hG hF
  have x0 : Row w9 (w.heap.size) 31 (W4 V) := hF 1 _ rfl rfl (by decide)
  have hs9 := hs.keep hT (fun b _ hb hc => by have hc' : b = w.heap.size := hc; omega)
  have ht9 := ht.trans_new hT (fun b hb hlt => by have hb' : b = w.heap.size := hb; omega)
  clear hT hG hF hQ QQ L
  go_wp2_with fail
  refine bodyPost_ret (results_c rfl aggT31 rfl x0 rfl) rfl ?_
  exact ⟨by rw [HV.out]; rfl, hs9, ht9⟩
set_option maxRecDepth 100000 in
set_option maxHeartbeats 8000000 in
theorem samt_e {w : World} {lo hi g n : Nat} (h : SA w lo hi g 0 ((n : Int) :: [])) (hhi : hi ≤ w.heap.size) (hn : n ≤ 32) (h0 : 0 < n) :
    Calls Try.prog 62 #[.pointer (some ⟨g, 0, none⟩)] w (Got w lo hi g (.agg #[.int .u64 0, .int .u64 0, .int .u64 0, .int .u64 0]) (3, [])) := by
  have hgh : g < hi := h.2.1
  have hA : Below w.heap.size w (w.alloc (.cells #[Value.int .u64 0, .int .u64 0, .int .u64 0, .int .u64 0] 31)) := (Below.refl _ _).alloc (Nat.le_refl _) _
  have hsz : (w.alloc (.cells #[Value.int .u64 0, .int .u64 0, .int .u64 0, .int .u64 0] 31)).heap.size = w.heap.size + 1 := by simp
  have r0 : Row (w.alloc (.cells #[Value.int .u64 0, .int .u64 0, .int .u64 0, .int .u64 0] 31)) w.heap.size 31 #[.int .u64 0, .int .u64 0, .int .u64 0, .int .u64 0] := Row.new_at rfl
  have hn3 : (n : Int) ≤ 32 := by omega
  have hn4 : (0 : Int) < (n : Int) := by omega
  have hby0 : By ([]) := fun x hx => h.2.2.2.1 x (List.mem_cons_of_mem _ hx)
  obtain ⟨E, hE⟩ : ∃ E : Int, E = 3 := ⟨_, rfl⟩
  obtain ⟨O, hO⟩ : ∃ O : List Int, O = [] := ⟨_, rfl⟩
  obtain ⟨R, hR⟩ : ∃ R : List Int, R = [] := ⟨_, rfl⟩
  have tk := Lib.hid (fun wk (hk : SA wk lo hi g 0 ([])) => take_lets (n := n) (E := E) (O := O) (R := R) (by rw [hE]; unfold tkE; rw [if_pos rfl, if_neg (by simp; omega)]) (by rw [hO]; unfold tkO; rw [if_pos rfl, if_neg (by simp; omega)]) (by rw [hR]; unfold tkR; rw [if_pos rfl, if_neg (by simp; omega)]) hk)
  have hOby : By O := by rw [hO]; exact By.nil
  have hOl : E = 0 → O.length = n := by intro hc; omega
  have hOn : E ≠ 0 → O = [] := by intro _; exact hO
  obtain ⟨j, hj⟩ : ∃ j, 32 - n = j := ⟨_, rfl⟩
  have ej : (32 : Int) - (n : Int) = (j : Int) := by omega
  have ej2 : 32 - j = n := by omega
  have wj : IntKind.i64.wrap (j : Int) = (j : Int) := by rw [IntKind.wrap_i64]; omega
  have hj35 : (j : Int) ≤ 32 := by omega
  have hj34 : ¬ 32 = j := by omega
  have cpy := Lib.hid (fun (w2X : Nat) wk u (hr : Row wk w2X 34 zr32) (hu : Bs wk u O) => copy_pad (j := j) (c := n) hr hu (by exact .inr hj.symm) hn hOl hOn)
  have hLl := Lib.hid (padL_len (E := E) (O := O) hn hOl)
  have hLb := Lib.hid (padL_by (n := n) (E := E) hOby)
  have HE := Lib.hid (show _ ∧ _ ∧ _ from ⟨hE, hO, hR⟩)
  clear hOby hOl hOn hby0 hE hO hR
  have hby := byte_at (h.below hA)
  rw [show byO 0 ((n : Int) :: []) = (n : Int) from by unfold byO tkO; simp, show tkE 1 0 ((n : Int) :: []) = 0 from by unfold tkE; simp, show tkR 1 0 ((n : Int) :: []) = [] from by unfold tkR; simp] at hby
  replace hby := Lib.hid hby
  have R0 := Lib.hid (show _ ∧ _ ∧ _ from ⟨hA, hsz, r0⟩)
  have wn : IntKind.i64.wrap (n : Int) = (n : Int) := by rw [IntKind.wrap_i64]; omega
  clear h hA hsz r0
  go_enter Try.func62, Try.ntmps62
  go_wp2_with fail
  refine hby.out.mono ?_
  rintro r w1 ⟨rfl, hs, ht⟩
  have ok := ok_at hs
  rw [decide_eq_true rfl] at ok
  replace ok := Lib.hid ok
  have r1 := K6.Row.tr R0.out.2.2 ht (by omega)
  have hsw : w.heap.size < w1.heap.size := Nat.lt_of_lt_of_le (by rw [R0.out.2.1]; omega) ht.size
  replace ht : Tr (fun b => b = g) w w1 := (Tr.of R0.out.1 : Tr (fun b => b = g) w _).trans ht
  have HS := Lib.hid (show _ ∧ _ ∧ _ from ⟨hs, ht, r1⟩)
  clear hby hs ht r1 R0
  go_wp2_with fail
  refine ok.out.mono ?_
  rintro r w2 ⟨rfl, rfl⟩
  clear ok
  go_upto_region 5 with (fail)
  obtain ⟨hs, ht, r1⟩ := HS.out
  clear HS
  have hB0 : ∀ x, Below w2.heap.size w2 (w2.alloc x) := fun x => (Below.refl _ _).alloc (Nat.le_refl _) _
  refine wp_abs (fun wx => SA wx lo hi g 0 ([]) ∧ Tr (fun b => b = g) w wx ∧ Row wx w.heap.size 31 #[.int .u64 0, .int .u64 0, .int .u64 0, .int .u64 0] ∧ Row wx w2.heap.size 34 zr32) ⟨hs.below (hB0 _), ht.trans (Tr.of (hB0 _)), r1.below (hB0 _) r1.lt, ?_⟩ ?_
  · refine Row.new_at ?_; simp
  rintro w5 ⟨hs5, ht5, r0, rT⟩
  have hh5 : hi ≤ w5.heap.size := Nat.le_trans hhi ht5.size
  clear hB0 hs ht r1
  replace cpy := Lib.hid (cpy.out w2.heap.size)
  obtain ⟨q0, cp, c0⟩ := hs5.len
  replace c0 := c0.resolve_right (fun hc => hc rfl)
  go_upto_region 8 with (fail)
  let L : List Sp := [sW 5 [] [] [] g (fun b => lo ≤ b ∧ b < hi) (fun _ => True) (TkF lo hi g E O R), sW 6 [5] [5] [] (w2.heap.size) (fun b => b = w2.heap.size) (fun _ => True) (fun _ wz => Row wz (w2.heap.size) 34 (bv (padL n E O)).toArray)]
  refine wp_region_six (shs L) (look6 L) (fun c => c = g ∨ c = w2.heap.size) (by kernel_rfl) (by kernel_rfl) (mk_St L [5, 6] [5, 6] (by kernel_rfl) (by kernel_rfl) ⟨ok_W ⟨undef, trivial⟩ TkF.loc hs5.lt (.inl rfl) (fun b hb => Nat.lt_of_lt_of_le hb.2 hh5), ok_W ⟨undef, trivial⟩ (fun _ => Row.loc) rT.lt (.inr rfl) (fun b hb => hb ▸ rT.lt), trivial⟩ (by intro i hi j hj hne b hb hx; simp only [List.mem_cons, List.not_mem_nil, or_false] at hi hj; rcases hi with rfl | rfl <;> rcases hj with rfl | rfl <;> first | exact absurd rfl hne | (have hb1 : lo ≤ b ∧ b < hi := hb; have hx1 : b = w2.heap.size := hx; omega) | (have hb1 : b = w2.heap.size := hb; have hx1 : b = g := hx; omega))) ?_
  intro QQ hQ
  refine stepKz rfl (fun K hK => ?_); go_simp
  apply Exists.intro; apply And.intro; (focus (intro wk hk; go_simp; exact ⟨rfl, rfl⟩)); refine hK _ _ ?_; clear hK K
  refine stepKz rfl (fun K hK => ?_); go_simp
  apply Exists.intro; apply And.intro; (focus (intro wk hk; go_simp; exact ⟨rfl, rfl⟩)); refine hK _ _ ?_; clear hK K
  refine stepKz rfl (fun K hK => ?_); go_simp
  apply Exists.intro; apply And.intro; (focus (intro wk hk; go_simp; exact ⟨rfl, rfl⟩)); refine hK _ _ ?_; clear hK K
  refine stepK rfl (by kernel_rfl) (fun K hK => ?_); go_simp
  apply Exists.intro; apply And.intro; (focus (intro wk hk; go_simp; exact ⟨rfl, rfl⟩)); refine hK _ _ ?_; clear hK K
  refine stepK rfl (by kernel_rfl) (fun K hK => ?_); go_simp
  apply Exists.intro; apply And.intro; (focus (intro wk hk; go_simp; exact ⟨rfl, rfl⟩)); refine hK _ _ ?_; clear hK K
  refine stepS _ rfl (by kernel_rfl) (fun K hK => ?_); go_simp
  refine ⟨?_, ?_⟩
  · intro wk hk hg hu; go_simp; refine upon_enter ((tk.out _ (hs5.below hk.undrew.below)).mono ?_); rintro e w' ⟨u, rfl, hf, ht⟩; exact ⟨_, rfl, left_W rfl rfl trivial ht hf⟩
  rintro ⟨v5, lo5, hi5⟩ - - -
  refine hK _ _ ?_; clear hK K
  refine stepSx _ [5] (fun c => c = g) rfl (by kernel_rfl) (by intro i hi b hb; simp only [List.mem_cons, List.not_mem_nil, or_false] at hi; subst hi; exact hb) (fun K hK => ?_); go_simp
  refine ⟨?_, ?_⟩
  · intro wk hk hg hu; have u5 : TkF lo hi g E O R v5 wk := hu 5 (show 5 ∈ [5] by decide); have rTk : Row wk (w2.heap.size) 34 zr32 := K6.Row.tr rT hk.undrew (by intro hc; have hc' : w2.heap.size = g := hc; omega); obtain ⟨vv, w', hrun, hrow, htr⟩ := cpy.out wk v5 rTk u5.1; refine sUpon_copy rfl rfl rfl hrun ?_; exact left_W rfl rfl trivial htr hrow
  rintro ⟨v6, lo6, hi6⟩ - - -
  refine hK _ _ ?_; clear hK K
  refine stepN ?_
  refine hQ _ _ ?_
  intro w6 hT hG hF
  have hT' := hT.undrew
  have u5 : TkF lo hi g E O R v5 w6 := hF 5 _ rfl rfl (by decide)
  have rL : Row w6 (w2.heap.size) 34 (bv (padL n E O)).toArray := hF 6 _ rfl rfl (by decide)
  have hs := u5.2.2
  have r0' := K6.Row.tr r0 hT' (by rintro (hc | hc) <;> omega)
  have ht : Tr (fun b => b = g) w w6 := ht5.trans_new hT' (fun b hb hlt => by rcases hb with hb | hb <;> omega)
  clear hT hT' hG hF hQ QQ L u5 tk cpy ht5 hs5 rT r0
  have r0 := r0'
  clear r0'
  clear c0
  obtain ⟨rfl, rfl, rfl⟩ := HE.out
  have ok := ok_at hs
  rw [decide_eq_false (by decide)] at ok
  replace ok := Lib.hid ok
  have HS := Lib.hid (show _ ∧ _ ∧ _ from ⟨hs, ht, r0⟩)
  clear hs ht r0 HE hLl hLb rL
  go_wp2_with fail
  refine ok.out.mono ?_
  rintro r w7 ⟨rfl, rfl⟩
  clear ok
  obtain ⟨hs, ht, r0⟩ := HS.out
  clear HS
  go_upto_region 10 with (fail)
  let L : List Sp := [sO 1 (w.heap.size) 31 [0] (fun g => aggOf g 0)]
  refine wp_region_six0 (shs L) (look6 L) (fun c => c = w.heap.size) (by kernel_rfl) (by kernel_rfl) (mk_St L [1] [1] (by kernel_rfl) (by kernel_rfl) ⟨ok_O aggOf_congr r0.lt (rfl), trivial⟩ (by simp)) ?_
  intro QQ hQ
  refine stepK rfl (by kernel_rfl) (fun K hK => ?_); go_simp
  apply Exists.intro; apply And.intro; (focus (intro wk hk; go_simp; exact ⟨rfl, rfl⟩)); refine hK _ _ ?_; clear hK K
  refine stepS _ rfl (by kernel_rfl) (fun K hK => ?_); go_simp
  refine ⟨?_, ?_⟩
  · exact sStoreO rfl rfl rfl rfl rfl rfl r0 id (by kernel_rfl) rfl (by kernel_rfl) (by decide) aggOf_congr
  rintro ⟨v1, lo1, hi1⟩ - - (rfl : v1 = undef)
  refine hK _ _ ?_; clear hK K
  refine stepN ?_
  refine hQ _ _ ?_
  intro w9 hT hG hF
  have x0 : Row w9 (w.heap.size) 31 (#[.int .u64 0, .int .u64 0, .int .u64 0, .int .u64 0]) := hF 1 _ rfl rfl (by decide)
  have hs9 := hs.keep hT (fun b _ hb hc => by have hc' : b = w.heap.size := hc; omega)
  have ht9 := ht.trans_new hT (fun b hb hlt => by have hb' : b = w.heap.size := hb; omega)
  clear hT hG hF hQ QQ L
  go_wp2_with fail
  refine bodyPost_ret (results_c rfl aggT31 rfl x0 rfl) rfl ?_
  exact ⟨rfl, hs9, ht9⟩
set_option maxRecDepth 100000 in
set_option maxHeartbeats 8000000 in
theorem samt_f2 {w : World} {lo hi g n : Nat} {d : Int} {ds : List Int} (h : SA w lo hi g 0 ((n : Int) :: d :: ds)) (hhi : hi ≤ w.heap.size) (hn : n ≤ 32) (h0 : 0 < n) (hd : d ≠ 0) (hm : n ≤ (d :: ds).length) :
    Calls Try.prog 62 #[.pointer (some ⟨g, 0, none⟩)] w (Got w lo hi g (.agg (W4 (beV ((d :: ds).take n)))) (0, (d :: ds).drop n)) := by
  have hgh : g < hi := h.2.1
  have hA : Below w.heap.size w (w.alloc (.cells #[Value.int .u64 0, .int .u64 0, .int .u64 0, .int .u64 0] 31)) := (Below.refl _ _).alloc (Nat.le_refl _) _
  have hsz : (w.alloc (.cells #[Value.int .u64 0, .int .u64 0, .int .u64 0, .int .u64 0] 31)).heap.size = w.heap.size + 1 := by simp
  have r0 : Row (w.alloc (.cells #[Value.int .u64 0, .int .u64 0, .int .u64 0, .int .u64 0] 31)) w.heap.size 31 #[.int .u64 0, .int .u64 0, .int .u64 0, .int .u64 0] := Row.new_at rfl
  have hn3 : (n : Int) ≤ 32 := by omega
  have hn4 : (0 : Int) < (n : Int) := by omega
  have hdq : (d == 0) = false := by rw [beq_eq_false_iff_ne]; exact hd
  have hby0 : By (d :: ds) := fun x hx => h.2.2.2.1 x (List.mem_cons_of_mem _ hx)
  obtain ⟨E, hE⟩ : ∃ E : Int, E = 0 := ⟨_, rfl⟩
  obtain ⟨O, hO⟩ : ∃ O : List Int, O = (d :: ds).take n := ⟨_, rfl⟩
  obtain ⟨R, hR⟩ : ∃ R : List Int, R = (d :: ds).drop n := ⟨_, rfl⟩
  have tk := Lib.hid (fun wk (hk : SA wk lo hi g 0 (d :: ds)) => take_lets (n := n) (E := E) (O := O) (R := R) (by rw [hE]; unfold tkE; rw [if_pos rfl, if_pos hm]) (by rw [hO]; unfold tkO; rw [if_pos rfl, if_pos hm]) (by rw [hR]; unfold tkR; rw [if_pos rfl, if_pos hm]) hk)
  have hOby : By O := by rw [hO]; exact hby0.take _
  have hOl : E = 0 → O.length = n := by intro _; rw [hO, List.length_take]; omega
  have hOn : E ≠ 0 → O = [] := by intro hc; exact absurd hE hc
  obtain ⟨j, hj⟩ : ∃ j, 32 - n = j := ⟨_, rfl⟩
  have ej : (32 : Int) - (n : Int) = (j : Int) := by omega
  have ej2 : 32 - j = n := by omega
  have wj : IntKind.i64.wrap (j : Int) = (j : Int) := by rw [IntKind.wrap_i64]; omega
  have hj35 : (j : Int) ≤ 32 := by omega
  have hj34 : ¬ 32 = j := by omega
  have cpy := Lib.hid (fun (w2X : Nat) wk u (hr : Row wk w2X 34 zr32) (hu : Bs wk u O) => copy_pad (j := j) (c := n) hr hu (by exact .inr hj.symm) hn hOl hOn)
  have hLl := Lib.hid (padL_len (E := E) (O := O) hn hOl)
  have hLb := Lib.hid (padL_by (n := n) (E := E) hOby)
  have HE := Lib.hid (show _ ∧ _ ∧ _ from ⟨hE, hO, hR⟩)
  clear hOby hOl hOn hby0 hE hO hR hd hm
  have hby := byte_at (h.below hA)
  rw [show byO 0 ((n : Int) :: d :: ds) = (n : Int) from by unfold byO tkO; simp, show tkE 1 0 ((n : Int) :: d :: ds) = 0 from by unfold tkE; simp, show tkR 1 0 ((n : Int) :: d :: ds) = d :: ds from by unfold tkR; simp] at hby
  replace hby := Lib.hid hby
  have R0 := Lib.hid (show _ ∧ _ ∧ _ from ⟨hA, hsz, r0⟩)
  have wn : IntKind.i64.wrap (n : Int) = (n : Int) := by rw [IntKind.wrap_i64]; omega
  clear h hA hsz r0
  go_enter Try.func62, Try.ntmps62
  go_wp2_with fail
  refine hby.out.mono ?_
  rintro r w1 ⟨rfl, hs, ht⟩
  have ok := ok_at hs
  rw [decide_eq_true rfl] at ok
  replace ok := Lib.hid ok
  have r1 := K6.Row.tr R0.out.2.2 ht (by omega)
  have hsw : w.heap.size < w1.heap.size := Nat.lt_of_lt_of_le (by rw [R0.out.2.1]; omega) ht.size
  replace ht : Tr (fun b => b = g) w w1 := (Tr.of R0.out.1 : Tr (fun b => b = g) w _).trans ht
  have HS := Lib.hid (show _ ∧ _ ∧ _ from ⟨hs, ht, r1⟩)
  clear hby hs ht r1 R0
  go_wp2_with fail
  refine ok.out.mono ?_
  rintro r w2 ⟨rfl, rfl⟩
  clear ok
  go_upto_region 5 with (fail)
  obtain ⟨hs, ht, r1⟩ := HS.out
  clear HS
  have hB0 : ∀ x, Below w2.heap.size w2 (w2.alloc x) := fun x => (Below.refl _ _).alloc (Nat.le_refl _) _
  refine wp_abs (fun wx => SA wx lo hi g 0 (d :: ds) ∧ Tr (fun b => b = g) w wx ∧ Row wx w.heap.size 31 #[.int .u64 0, .int .u64 0, .int .u64 0, .int .u64 0] ∧ Row wx w2.heap.size 34 zr32) ⟨hs.below (hB0 _), ht.trans (Tr.of (hB0 _)), r1.below (hB0 _) r1.lt, ?_⟩ ?_
  · refine Row.new_at ?_; simp
  rintro w5 ⟨hs5, ht5, r0, rT⟩
  have hh5 : hi ≤ w5.heap.size := Nat.le_trans hhi ht5.size
  clear hB0 hs ht r1
  replace cpy := Lib.hid (cpy.out w2.heap.size)
  obtain ⟨-, -, -, -, -, v, hr, hv⟩ := id hs5
  rcases hv with ⟨-, hv⟩ | ⟨b, o, cp, -, -, -, rfl, hcp, hcell⟩
  · cases hv
  have c0 : w5.cell? ⟨g, 0, none⟩ = some (.slice (some ⟨b, o, none⟩) (ds.length + 1) cp) := hr.cell 0
  have c1 : w5.cell? ⟨b, o, none⟩ = some (.int .u8 d) := hcell 0 _ rfl
  have hpos : (0 : Int) < ((ds.length + 1 : Nat) : Int) := by omega
  clear hr hcell hcp
  go_upto_region 8 with (fail)
  let L : List Sp := [sW 5 [] [] [] g (fun b => lo ≤ b ∧ b < hi) (fun _ => True) (TkF lo hi g E O R), sW 6 [5] [5] [] (w2.heap.size) (fun b => b = w2.heap.size) (fun _ => True) (fun _ wz => Row wz (w2.heap.size) 34 (bv (padL n E O)).toArray)]
  refine wp_region_six (shs L) (look6 L) (fun c => c = g ∨ c = w2.heap.size) (by kernel_rfl) (by kernel_rfl) (mk_St L [5, 6] [5, 6] (by kernel_rfl) (by kernel_rfl) ⟨ok_W ⟨undef, trivial⟩ TkF.loc hs5.lt (.inl rfl) (fun b hb => Nat.lt_of_lt_of_le hb.2 hh5), ok_W ⟨undef, trivial⟩ (fun _ => Row.loc) rT.lt (.inr rfl) (fun b hb => hb ▸ rT.lt), trivial⟩ (by intro i hi j hj hne b hb hx; simp only [List.mem_cons, List.not_mem_nil, or_false] at hi hj; rcases hi with rfl | rfl <;> rcases hj with rfl | rfl <;> first | exact absurd rfl hne | (have hb1 : lo ≤ b ∧ b < hi := hb; have hx1 : b = w2.heap.size := hx; omega) | (have hb1 : b = w2.heap.size := hb; have hx1 : b = g := hx; omega))) ?_
  intro QQ hQ
  refine stepKz rfl (fun K hK => ?_); go_simp
  apply Exists.intro; apply And.intro; (focus (intro wk hk; go_simp; exact ⟨rfl, rfl⟩)); refine hK _ _ ?_; clear hK K
  refine stepKz rfl (fun K hK => ?_); go_simp
  apply Exists.intro; apply And.intro; (focus (intro wk hk; go_simp; exact ⟨rfl, rfl⟩)); refine hK _ _ ?_; clear hK K
  refine stepKz rfl (fun K hK => ?_); go_simp
  apply Exists.intro; apply And.intro; (focus (intro wk hk; go_simp; exact ⟨rfl, rfl⟩)); refine hK _ _ ?_; clear hK K
  refine stepK rfl (by kernel_rfl) (fun K hK => ?_); go_simp
  apply Exists.intro; apply And.intro; (focus (intro wk hk; go_simp; exact ⟨rfl, rfl⟩)); refine hK _ _ ?_; clear hK K
  refine stepK rfl (by kernel_rfl) (fun K hK => ?_); go_simp
  apply Exists.intro; apply And.intro; (focus (intro wk hk; go_simp; exact ⟨rfl, rfl⟩)); refine hK _ _ ?_; clear hK K
  refine stepS _ rfl (by kernel_rfl) (fun K hK => ?_); go_simp
  refine ⟨?_, ?_⟩
  · intro wk hk hg hu; go_simp; refine upon_enter ((tk.out _ (hs5.below hk.undrew.below)).mono ?_); rintro e w' ⟨u, rfl, hf, ht⟩; exact ⟨_, rfl, left_W rfl rfl trivial ht hf⟩
  rintro ⟨v5, lo5, hi5⟩ - - -
  refine hK _ _ ?_; clear hK K
  refine stepSx _ [5] (fun c => c = g) rfl (by kernel_rfl) (by intro i hi b hb; simp only [List.mem_cons, List.not_mem_nil, or_false] at hi; subst hi; exact hb) (fun K hK => ?_); go_simp
  refine ⟨?_, ?_⟩
  · intro wk hk hg hu; have u5 : TkF lo hi g E O R v5 wk := hu 5 (show 5 ∈ [5] by decide); have rTk : Row wk (w2.heap.size) 34 zr32 := K6.Row.tr rT hk.undrew (by intro hc; have hc' : w2.heap.size = g := hc; omega); obtain ⟨vv, w', hrun, hrow, htr⟩ := cpy.out wk v5 rTk u5.1; refine sUpon_copy rfl rfl rfl hrun ?_; exact left_W rfl rfl trivial htr hrow
  rintro ⟨v6, lo6, hi6⟩ - - -
  refine hK _ _ ?_; clear hK K
  refine stepN ?_
  refine hQ _ _ ?_
  intro w6 hT hG hF
  have hT' := hT.undrew
  have u5 : TkF lo hi g E O R v5 w6 := hF 5 _ rfl rfl (by decide)
  have rL : Row w6 (w2.heap.size) 34 (bv (padL n E O)).toArray := hF 6 _ rfl rfl (by decide)
  have hs := u5.2.2
  have r0' := K6.Row.tr r0 hT' (by rintro (hc | hc) <;> omega)
  have ht : Tr (fun b => b = g) w w6 := ht5.trans_new hT' (fun b hb hlt => by rcases hb with hb | hb <;> omega)
  clear hT hT' hG hF hQ QQ L u5 tk cpy ht5 hs5 rT r0
  have r0 := r0'
  clear r0'
  clear c0 c1 hpos hdq
  obtain ⟨rfl, rfl, rfl⟩ := HE.out
  have ok := ok_at hs
  rw [decide_eq_true rfl] at ok
  replace ok := Lib.hid ok
  have hval := beV_zeros (32 - n) ((d :: ds).take n)
  obtain ⟨Lb, hLb2⟩ : ∃ Lb, padL n 0 ((d :: ds).take n) = Lb := ⟨_, rfl⟩
  rw [hLb2] at rL hLl hLb
  replace hval : beV Lb = beV ((d :: ds).take n) := by rw [← hLb2]; unfold padL; rw [if_pos rfl]; exact hval
  obtain ⟨V, hV⟩ : ∃ V, beV Lb = V := ⟨_, rfl⟩
  have k81 := Lib.hid (fun wk (hr : Row wk w2.heap.size 34 (bv Lb).toArray) => from32 (c := 32) hLl.out hLb.out hr)
  rw [hV] at k81 hval
  have HV := Lib.hid hval
  have HS := Lib.hid (show _ ∧ _ ∧ _ ∧ _ from ⟨hs, ht, r0, rL⟩)
  clear hs ht r0 HE hLl hLb rL hval hV hLb2
  go_wp2_with fail
  refine ok.out.mono ?_
  rintro r w7 ⟨rfl, rfl⟩
  clear ok
  obtain ⟨hs, ht, r0, rL⟩ := HS.out
  clear HS
  go_upto_region 11 with (fail)
  let L : List Sp := [sV 1 [] [] (fun u => u = .tuple #[.agg (W4 V), .bool true]), sA 5 31 [6] #[.int .u64 0, .int .u64 0, .int .u64 0, .int .u64 0], sT 6 5 31 [3] (fun g => aggOf g 3)]
  refine wp_region_six0 (shs L) (look6 L) (None_) (by kernel_rfl) (by kernel_rfl) (mk_St L [] [] (by kernel_rfl) (by kernel_rfl) ⟨ok_V ⟨_, rfl⟩, ok_A, ok_T aggOf_congr, trivial⟩ (by simp)) ?_
  intro QQ hQ
  refine stepK rfl (by kernel_rfl) (fun K hK => ?_); go_simp
  apply Exists.intro; apply And.intro; (focus (intro wk hk; go_simp; exact ⟨rfl, rfl⟩)); refine hK _ _ ?_; clear hK K
  refine stepS _ rfl (by kernel_rfl) (fun K hK => ?_); go_simp
  refine ⟨?_, ?_⟩
  · intro wk hk hg hu; go_simp; refine upon_enter ((k81.out _ (K6.Row.tr rL hk id)).mono ?_); rintro e w' ⟨rfl, hb⟩; exact ⟨_, rfl, left_V (p := fun u => u = .tuple #[.agg (W4 V), .bool true]) rfl (hb) rfl⟩
  rintro ⟨v1, lo1, hi1⟩ - - (rfl : v1 = _)
  refine hK _ _ ?_; clear hK K
  refine stepK rfl (by kernel_rfl) (fun K hK => ?_); go_simp
  apply Exists.intro; apply And.intro; (focus (intro wk hk; go_simp; exact ⟨rfl, rfl⟩)); refine hK _ _ ?_; clear hK K
  refine stepK rfl (by kernel_rfl) (fun K hK => ?_); go_simp
  apply Exists.intro; apply And.intro; (focus (intro wk hk; go_simp; exact ⟨rfl, rfl⟩)); refine hK _ _ ?_; clear hK K
  refine stepK rfl (by kernel_rfl) (fun K hK => ?_); go_simp
  apply Exists.intro; apply And.intro; (focus (intro wk hk; go_simp; exact ⟨rfl, rfl⟩)); refine hK _ _ ?_; clear hK K
  refine stepS _ rfl (by kernel_rfl) (fun K hK => ?_); go_simp
  refine ⟨?_, ?_⟩
  · intro wk hk hg hu; go_simp; exact left_A rfl rfl
  rintro ⟨v5, lo5, hi5⟩ hlo5 hhi5 ⟨e5, f5⟩
  replace e5 : v5 = .pointer (some ⟨lo5, 0, none⟩) := e5; replace f5 : hi5 = lo5 + 1 := f5; replace hlo5 : _ ≤ lo5 := hlo5; subst e5; subst f5
  refine hK _ _ ?_; clear hK K
  refine stepS _ rfl (by kernel_rfl) (fun K hK => ?_); go_simp
  refine ⟨?_, ?_⟩
  · exact sStoreT rfl rfl rfl rfl rfl rfl rfl (by kernel_rfl) rfl (by kernel_rfl) (by decide) aggOf_congr
  rintro ⟨v6, lo6, hi6⟩ - - (rfl : v6 = undef)
  refine hK _ _ ?_; clear hK K
  refine stepK rfl (by kernel_rfl) (fun K hK => ?_); go_simp
  apply Exists.intro; apply And.intro; (focus (intro wk hk; go_simp; exact ⟨rfl, rfl⟩)); refine hK _ _ ?_; clear hK K
  refine stepN ?_
  refine hQ _ _ ?_
  intro w8 hT hG hF
  have hb8 := hT.below
  have r5 : Row w8 lo5 31 (W4 V) := (hF 6 _ rfl rfl (by decide)).2
  have h05 : w.heap.size < lo5 := Nat.lt_of_lt_of_le r0.lt hlo5
  replace r0 := r0.below hb8 r0.lt
  replace hs := hs.below hb8
  replace ht := ht.trans (Tr.of hb8)
  clear hT hG hF hb8 hQ QQ L hlo5 hhi5 k81 rL
  go_upto_region 12 with (fail)
  let L : List Sp := [sO 1 (w.heap.size) 31 [0] (fun g => aggOf g 0)]
  refine wp_region_six0 (shs L) (look6 L) (fun c => c = w.heap.size) (by kernel_rfl) (by kernel_rfl) (mk_St L [1] [1] (by kernel_rfl) (by kernel_rfl) ⟨ok_O aggOf_congr r0.lt (rfl), trivial⟩ (by simp)) ?_
  intro QQ hQ
  refine stepK rfl (by kernel_rfl) (fun K hK => ?_); go_simp
  apply Exists.intro; apply And.intro; (focus exact kLoad rfl rfl aggT31 r5 rfl id); refine hK _ _ ?_; clear hK K
  refine stepS _ rfl (by kernel_rfl) (fun K hK => ?_); go_simp
  refine ⟨?_, ?_⟩
  · exact sStoreO rfl rfl rfl rfl rfl rfl r0 id (by kernel_rfl) rfl (by kernel_rfl) (by decide) aggOf_congr
  rintro ⟨v1, lo1, hi1⟩ - - (rfl : v1 = undef)
  refine hK _ _ ?_; clear hK K
  refine stepN ?_
  refine hQ _ _ ?_
  intro w9 hT hG hF
  have x0 : Row w9 (w.heap.size) 31 (W4 V) := hF 1 _ rfl rfl (by decide)
  have hs9 := hs.keep hT (fun b _ hb hc => by have hc' : b = w.heap.size := hc; omega)
  have ht9 := ht.trans_new hT (fun b hb hlt => by have hb' : b = w.heap.size := hb; omega)
  clear hT hG hF hQ QQ L
  go_wp2_with fail
  refine bodyPost_ret (results_c rfl aggT31 rfl x0 rfl) rfl ?_
  exact ⟨by rw [HV.out], hs9, ht9⟩
set_option maxRecDepth 100000 in
set_option maxHeartbeats 8000000 in
theorem samt_s {w : World} {lo hi g n : Nat} {d : Int} {ds : List Int} (h : SA w lo hi g 0 ((n : Int) :: d :: ds)) (hhi : hi ≤ w.heap.size) (hn : n ≤ 32) (h0 : 0 < n) (hd : d ≠ 0) (hm : (d :: ds).length < n) :
    Calls Try.prog 62 #[.pointer (some ⟨g, 0, none⟩)] w (Got w lo hi g (.agg #[.int .u64 0, .int .u64 0, .int .u64 0, .int .u64 0]) (3, [])) := by
  have hgh : g < hi := h.2.1
  have hA : Below w.heap.size w (w.alloc (.cells #[Value.int .u64 0, .int .u64 0, .int .u64 0, .int .u64 0] 31)) := (Below.refl _ _).alloc (Nat.le_refl _) _
  have hsz : (w.alloc (.cells #[Value.int .u64 0, .int .u64 0, .int .u64 0, .int .u64 0] 31)).heap.size = w.heap.size + 1 := by simp
  have r0 : Row (w.alloc (.cells #[Value.int .u64 0, .int .u64 0, .int .u64 0, .int .u64 0] 31)) w.heap.size 31 #[.int .u64 0, .int .u64 0, .int .u64 0, .int .u64 0] := Row.new_at rfl
  have hn3 : (n : Int) ≤ 32 := by omega
  have hn4 : (0 : Int) < (n : Int) := by omega
  have hdq : (d == 0) = false := by rw [beq_eq_false_iff_ne]; exact hd
  have hby0 : By (d :: ds) := fun x hx => h.2.2.2.1 x (List.mem_cons_of_mem _ hx)
  obtain ⟨E, hE⟩ : ∃ E : Int, E = 3 := ⟨_, rfl⟩
  obtain ⟨O, hO⟩ : ∃ O : List Int, O = [] := ⟨_, rfl⟩
  obtain ⟨R, hR⟩ : ∃ R : List Int, R = [] := ⟨_, rfl⟩
  have tk := Lib.hid (fun wk (hk : SA wk lo hi g 0 (d :: ds)) => take_lets (n := n) (E := E) (O := O) (R := R) (by rw [hE]; unfold tkE; rw [if_pos rfl, if_neg (by omega)]) (by rw [hO]; unfold tkO; rw [if_pos rfl, if_neg (by omega)]) (by rw [hR]; unfold tkR; rw [if_pos rfl, if_neg (by omega)]) hk)
  have hOby : By O := by rw [hO]; exact By.nil
  have hOl : E = 0 → O.length = n := by intro hc; omega
  have hOn : E ≠ 0 → O = [] := by intro _; exact hO
  obtain ⟨j, hj⟩ : ∃ j, 32 - n = j := ⟨_, rfl⟩
  have ej : (32 : Int) - (n : Int) = (j : Int) := by omega
  have ej2 : 32 - j = n := by omega
  have wj : IntKind.i64.wrap (j : Int) = (j : Int) := by rw [IntKind.wrap_i64]; omega
  have hj35 : (j : Int) ≤ 32 := by omega
  have hj34 : ¬ 32 = j := by omega
  have cpy := Lib.hid (fun (w2X : Nat) wk u (hr : Row wk w2X 34 zr32) (hu : Bs wk u O) => copy_pad (j := j) (c := n) hr hu (by exact .inr hj.symm) hn hOl hOn)
  have hLl := Lib.hid (padL_len (E := E) (O := O) hn hOl)
  have hLb := Lib.hid (padL_by (n := n) (E := E) hOby)
  have HE := Lib.hid (show _ ∧ _ ∧ _ from ⟨hE, hO, hR⟩)
  clear hOby hOl hOn hby0 hE hO hR hd hm
  have hby := byte_at (h.below hA)
  rw [show byO 0 ((n : Int) :: d :: ds) = (n : Int) from by unfold byO tkO; simp, show tkE 1 0 ((n : Int) :: d :: ds) = 0 from by unfold tkE; simp, show tkR 1 0 ((n : Int) :: d :: ds) = d :: ds from by unfold tkR; simp] at hby
  replace hby := Lib.hid hby
  have R0 := Lib.hid (show _ ∧ _ ∧ _ from ⟨hA, hsz, r0⟩)
  have wn : IntKind.i64.wrap (n : Int) = (n : Int) := by rw [IntKind.wrap_i64]; omega
  clear h hA hsz r0
  go_enter Try.func62, Try.ntmps62
  go_wp2_with fail
  refine hby.out.mono ?_
  rintro r w1 ⟨rfl, hs, ht⟩
  have ok := ok_at hs
  rw [decide_eq_true rfl] at ok
  replace ok := Lib.hid ok
  have r1 := K6.Row.tr R0.out.2.2 ht (by omega)
  have hsw : w.heap.size < w1.heap.size := Nat.lt_of_lt_of_le (by rw [R0.out.2.1]; omega) ht.size
  replace ht : Tr (fun b => b = g) w w1 := (Tr.of R0.out.1 : Tr (fun b => b = g) w _).trans ht
  have HS := Lib.hid (show _ ∧ _ ∧ _ from ⟨hs, ht, r1⟩)
  clear hby hs ht r1 R0
  go_wp2_with fail
  refine ok.out.mono ?_
  rintro r w2 ⟨rfl, rfl⟩
  clear ok
  go_upto_region 5 with (fail)
  obtain ⟨hs, ht, r1⟩ := HS.out
  clear HS
  have hB0 : ∀ x, Below w2.heap.size w2 (w2.alloc x) := fun x => (Below.refl _ _).alloc (Nat.le_refl _) _
  refine wp_abs (fun wx => SA wx lo hi g 0 (d :: ds) ∧ Tr (fun b => b = g) w wx ∧ Row wx w.heap.size 31 #[.int .u64 0, .int .u64 0, .int .u64 0, .int .u64 0] ∧ Row wx w2.heap.size 34 zr32) ⟨hs.below (hB0 _), ht.trans (Tr.of (hB0 _)), r1.below (hB0 _) r1.lt, ?_⟩ ?_
  · refine Row.new_at ?_; simp
  rintro w5 ⟨hs5, ht5, r0, rT⟩
  have hh5 : hi ≤ w5.heap.size := Nat.le_trans hhi ht5.size
  clear hB0 hs ht r1
  replace cpy := Lib.hid (cpy.out w2.heap.size)
  obtain ⟨-, -, -, -, -, v, hr, hv⟩ := id hs5
  rcases hv with ⟨-, hv⟩ | ⟨b, o, cp, -, -, -, rfl, hcp, hcell⟩
  · cases hv
  have c0 : w5.cell? ⟨g, 0, none⟩ = some (.slice (some ⟨b, o, none⟩) (ds.length + 1) cp) := hr.cell 0
  have c1 : w5.cell? ⟨b, o, none⟩ = some (.int .u8 d) := hcell 0 _ rfl
  have hpos : (0 : Int) < ((ds.length + 1 : Nat) : Int) := by omega
  clear hr hcell hcp
  go_upto_region 8 with (fail)
  let L : List Sp := [sW 5 [] [] [] g (fun b => lo ≤ b ∧ b < hi) (fun _ => True) (TkF lo hi g E O R), sW 6 [5] [5] [] (w2.heap.size) (fun b => b = w2.heap.size) (fun _ => True) (fun _ wz => Row wz (w2.heap.size) 34 (bv (padL n E O)).toArray)]
  refine wp_region_six (shs L) (look6 L) (fun c => c = g ∨ c = w2.heap.size) (by kernel_rfl) (by kernel_rfl) (mk_St L [5, 6] [5, 6] (by kernel_rfl) (by kernel_rfl) ⟨ok_W ⟨undef, trivial⟩ TkF.loc hs5.lt (.inl rfl) (fun b hb => Nat.lt_of_lt_of_le hb.2 hh5), ok_W ⟨undef, trivial⟩ (fun _ => Row.loc) rT.lt (.inr rfl) (fun b hb => hb ▸ rT.lt), trivial⟩ (by intro i hi j hj hne b hb hx; simp only [List.mem_cons, List.not_mem_nil, or_false] at hi hj; rcases hi with rfl | rfl <;> rcases hj with rfl | rfl <;> first | exact absurd rfl hne | (have hb1 : lo ≤ b ∧ b < hi := hb; have hx1 : b = w2.heap.size := hx; omega) | (have hb1 : b = w2.heap.size := hb; have hx1 : b = g := hx; omega))) ?_
  intro QQ hQ
  refine stepKz rfl (fun K hK => ?_); go_simp
  apply Exists.intro; apply And.intro; (focus (intro wk hk; go_simp; exact ⟨rfl, rfl⟩)); refine hK _ _ ?_; clear hK K
  refine stepKz rfl (fun K hK => ?_); go_simp
  apply Exists.intro; apply And.intro; (focus (intro wk hk; go_simp; exact ⟨rfl, rfl⟩)); refine hK _ _ ?_; clear hK K
  refine stepKz rfl (fun K hK => ?_); go_simp
  apply Exists.intro; apply And.intro; (focus (intro wk hk; go_simp; exact ⟨rfl, rfl⟩)); refine hK _ _ ?_; clear hK K
  refine stepK rfl (by kernel_rfl) (fun K hK => ?_); go_simp
  apply Exists.intro; apply And.intro; (focus (intro wk hk; go_simp; exact ⟨rfl, rfl⟩)); refine hK _ _ ?_; clear hK K
  refine stepK rfl (by kernel_rfl) (fun K hK => ?_); go_simp
  apply Exists.intro; apply And.intro; (focus (intro wk hk; go_simp; exact ⟨rfl, rfl⟩)); refine hK _ _ ?_; clear hK K
  refine stepS _ rfl (by kernel_rfl) (fun K hK => ?_); go_simp
  refine ⟨?_, ?_⟩
  · intro wk hk hg hu; go_simp; refine upon_enter ((tk.out _ (hs5.below hk.undrew.below)).mono ?_); rintro e w' ⟨u, rfl, hf, ht⟩; exact ⟨_, rfl, left_W rfl rfl trivial ht hf⟩
  rintro ⟨v5, lo5, hi5⟩ - - -
  refine hK _ _ ?_; clear hK K
  refine stepSx _ [5] (fun c => c = g) rfl (by kernel_rfl) (by intro i hi b hb; simp only [List.mem_cons, List.not_mem_nil, or_false] at hi; subst hi; exact hb) (fun K hK => ?_); go_simp
  refine ⟨?_, ?_⟩
  · intro wk hk hg hu; have u5 : TkF lo hi g E O R v5 wk := hu 5 (show 5 ∈ [5] by decide); have rTk : Row wk (w2.heap.size) 34 zr32 := K6.Row.tr rT hk.undrew (by intro hc; have hc' : w2.heap.size = g := hc; omega); obtain ⟨vv, w', hrun, hrow, htr⟩ := cpy.out wk v5 rTk u5.1; refine sUpon_copy rfl rfl rfl hrun ?_; exact left_W rfl rfl trivial htr hrow
  rintro ⟨v6, lo6, hi6⟩ - - -
  refine hK _ _ ?_; clear hK K
  refine stepN ?_
  refine hQ _ _ ?_
  intro w6 hT hG hF
  have hT' := hT.undrew
  have u5 : TkF lo hi g E O R v5 w6 := hF 5 _ rfl rfl (by decide)
  have rL : Row w6 (w2.heap.size) 34 (bv (padL n E O)).toArray := hF 6 _ rfl rfl (by decide)
  have hs := u5.2.2
  have r0' := K6.Row.tr r0 hT' (by rintro (hc | hc) <;> omega)
  have ht : Tr (fun b => b = g) w w6 := ht5.trans_new hT' (fun b hb hlt => by rcases hb with hb | hb <;> omega)
  clear hT hT' hG hF hQ QQ L u5 tk cpy ht5 hs5 rT r0
  have r0 := r0'
  clear r0'
  clear c0 c1 hpos hdq
  obtain ⟨rfl, rfl, rfl⟩ := HE.out
  have ok := ok_at hs
  rw [decide_eq_false (by decide)] at ok
  replace ok := Lib.hid ok
  have HS := Lib.hid (show _ ∧ _ ∧ _ from ⟨hs, ht, r0⟩)
  clear hs ht r0 HE hLl hLb rL
  go_wp2_with fail
  refine ok.out.mono ?_
  rintro r w7 ⟨rfl, rfl⟩
  clear ok
  obtain ⟨hs, ht, r0⟩ := HS.out
  clear HS
  go_upto_region 10 with (fail)
  let L : List Sp := [sO 1 (w.heap.size) 31 [0] (fun g => aggOf g 0)]
  refine wp_region_six0 (shs L) (look6 L) (fun c => c = w.heap.size) (by kernel_rfl) (by kernel_rfl) (mk_St L [1] [1] (by kernel_rfl) (by kernel_rfl) ⟨ok_O aggOf_congr r0.lt (rfl), trivial⟩ (by simp)) ?_
  intro QQ hQ
  refine stepK rfl (by kernel_rfl) (fun K hK => ?_); go_simp
  apply Exists.intro; apply And.intro; (focus (intro wk hk; go_simp; exact ⟨rfl, rfl⟩)); refine hK _ _ ?_; clear hK K
  refine stepS _ rfl (by kernel_rfl) (fun K hK => ?_); go_simp
  refine ⟨?_, ?_⟩
  · exact sStoreO rfl rfl rfl rfl rfl rfl r0 id (by kernel_rfl) rfl (by kernel_rfl) (by decide) aggOf_congr
  rintro ⟨v1, lo1, hi1⟩ - - (rfl : v1 = undef)
  refine hK _ _ ?_; clear hK K
  refine stepN ?_
  refine hQ _ _ ?_
  intro w9 hT hG hF
  have x0 : Row w9 (w.heap.size) 31 (#[.int .u64 0, .int .u64 0, .int .u64 0, .int .u64 0]) := hF 1 _ rfl rfl (by decide)
  have hs9 := hs.keep hT (fun b _ hb hc => by have hc' : b = w.heap.size := hc; omega)
  have ht9 := ht.trans_new hT (fun b hb hlt => by have hb' : b = w.heap.size := hb; omega)
  clear hT hG hF hQ QQ L
  go_wp2_with fail
  refine bodyPost_ret (results_c rfl aggT31 rfl x0 rfl) rfl ?_
  exact ⟨rfl, hs9, ht9⟩
theorem samt_at {w : World} {lo hi g : Nat} {e : Int} {xs : List Int} (h : SA w lo hi g e xs) (hhi : hi ≤ w.heap.size) :
    Calls Try.prog 62 #[.pointer (some ⟨g, 0, none⟩)] w (Got w lo hi g (.agg (W4 (gA (e, xs)).1)) (gA (e, xs)).2) := by
  by_cases he : e = 0
  · subst he
    match xs, h with
    | [], h =>
      have h2 := samt_f h hhi (by unfold byO tkO; simp) (by unfold tkE; simp) (by unfold tkR; simp)
      rw [show tkE 1 0 [] = 3 from by unfold tkE; simp, W4_zero] at h2
      exact h2
    | c :: cs, h =>
      have hc := h.2.2.2.1 c (List.mem_cons_self ..)
      obtain ⟨n, rfl⟩ : ∃ n : Nat, c = (n : Int) := ⟨c.toNat, by omega⟩
      unfold gA
      rw [if_pos rfl]
      simp only
      by_cases h32 : 32 < n
      · rw [if_pos (.inl (by omega))]
        have h2 := samt_big h hhi h32 (by omega)
        rw [W4_zero] at h2
        exact h2
      · by_cases hz : n = 0
        · subst hz
          rw [if_neg (by rintro (h | ⟨h, -⟩) <;> omega), if_pos (by simp)]
          exact samt_z h hhi
        · match cs, h with
          | [], h =>
            rw [if_neg (by rintro (h | ⟨-, h⟩); omega; cases h), if_neg (by simp; omega)]
            have h2 := samt_e h hhi (by omega) (by omega)
            rw [W4_zero] at h2
            exact h2
          | d :: ds, h =>
            by_cases hd : d = 0
            · subst hd
              rw [if_pos (.inr ⟨by omega, rfl⟩)]
              have h2 := samt_lead h hhi (by omega) (by omega)
              rw [W4_zero] at h2
              exact h2
            · rw [if_neg (by rintro (h | ⟨-, h⟩); omega; exact hd (Option.some.inj h))]
              by_cases hm : n ≤ (d :: ds).length
              · rw [if_pos (by rw [Int.toNat_natCast]; exact hm)]
                have h2 := samt_f2 h hhi (by omega) (by omega) hd hm
                rw [Int.toNat_natCast]
                exact h2
              · rw [if_neg (by rw [Int.toNat_natCast]; exact hm)]
                have h2 := samt_s h hhi (by omega) (by omega) hd (by omega)
                rw [W4_zero] at h2
                exact h2
  · have hx := h.2.2.1 he
    subst hx
    have h2 := samt_f h hhi (by unfold byO tkO; rw [if_neg he]; rfl) (by unfold tkE; rw [if_neg he]; exact he) (by unfold tkR; rw [if_neg he])
    rw [show tkE 1 e [] = e from by unfold tkE; rw [if_neg he], W4_zero] at h2
    unfold gA
    rw [if_neg he]
    exact h2
set_option maxRecDepth 100000 in
set_option maxHeartbeats 8000000 in
theorem shash_at {w : World} {lo hi g : Nat} {e : Int} {xs : List Int} (h : SA w lo hi g e xs) (hhi : hi ≤ w.heap.size) :
    Calls Try.prog 68 #[.pointer (some ⟨g, 0, none⟩)] w (Got w lo hi g (.agg (bv (gH (e, xs)).1).toArray) (gH (e, xs)).2) := by
  have hgh : g < hi := h.2.1
  have hOl0 : tkE 32 e xs = 0 → (tkO 32 e xs).length = 32 := fun hc => by
    unfold tkE at hc
    unfold tkO
    split at hc
    · rename_i h1
      split at hc
      · rename_i h2; rw [if_pos h1, if_pos h2, List.length_take]; omega
      · cases hc
    · rename_i h1; exact absurd hc h1
  have hOn0 : tkE 32 e xs ≠ 0 → tkO 32 e xs = [] := fun hc => by
    unfold tkE at hc
    unfold tkO
    split at hc
    · rename_i h1
      split at hc
      · exact absurd rfl hc
      · rename_i h2; rw [if_pos h1, if_neg h2]
    · rename_i h1; rw [if_neg h1]
  have hfin : gH (e, xs) = (padL 32 (tkE 32 e xs) (tkO 32 e xs), tkE 32 e xs, tkR 32 e xs) := by
    unfold gH gT padL
    rfl
  rw [hfin]
  have tk0 := fun wk (hk : SA wk lo hi g e xs) => take_at 32 hk
  unfold Took at tk0
  obtain ⟨E, hE⟩ : ∃ E : Int, tkE 32 e xs = E := ⟨_, rfl⟩
  obtain ⟨O, hO⟩ : ∃ O : List Int, tkO 32 e xs = O := ⟨_, rfl⟩
  obtain ⟨R, hR⟩ : ∃ R : List Int, tkR 32 e xs = R := ⟨_, rfl⟩
  rw [hE, hO] at hOl0 hOn0
  rw [hE, hO, hR]
  simp only [hE, hO, hR] at tk0
  have tk := Lib.hid (fun wk (hk : SA wk lo hi g e xs) => (tk0 wk hk).mono fun (r : Ending) w' ⟨u, h0, h1, h2, h3, h4⟩ => (⟨u, h0, ⟨h1, h2, h3⟩, h4⟩ : ∃ u, r = Ending.returned u ∧ TkF lo hi g E O R u w' ∧ Tr (fun b => b = g) wk w'))
  have cpy := Lib.hid (fun (wk : World) u (hr : Row wk (w.heap.size + 1) 35 zr32) (hu : Bs wk u O) => copy_pad (n := 32) (j := 0) (c := 32) hr hu (.inr rfl) (by decide) hOl0 hOn0)
  have hlen := Lib.hid (padL_len (E := E) (O := O) (n := 32) (by decide) hOl0)
  have H0 := Lib.hid h
  clear hfin tk0 hE hO hR hOl0 hOn0 h
  go_enter Try.func68, Try.ntmps68
  go_upto_region 2 with (fail)
  refine wp_abs (Mem w [(w.heap.size, 35, zr32), (w.heap.size + 1, 35, zr32)]) ⟨by go_grown, ?_, ?_, trivial⟩ ?_
  · repeat (first | (refine Row.new_at ?_; simp; done) | refine Row.alloc ?_ _)
  · repeat (first | (refine Row.new_at ?_; simp; done) | refine Row.alloc ?_ _)
  intro w0 hM
  obtain ⟨hl, r0, rT, -⟩ := hM
  have hs5 := H0.out.below hl
  have hh5 : hi ≤ w0.heap.size := Nat.le_trans hhi hl.size
  have hTg : g < w.heap.size + 1 := by omega
  go_upto_region 2 with (fail)
  let L : List Sp := [sW 2 [] [] [] g (fun b => lo ≤ b ∧ b < hi) (fun _ => True) (TkF lo hi g E O R), sW 3 [2] [2] [] (w.heap.size + 1) (fun b => b = w.heap.size + 1) (fun _ => True) (fun _ wz => Row wz (w.heap.size + 1) 35 (bv (padL 32 E O)).toArray)]
  refine wp_region_six (shs L) (look6 L) (fun c => c = g ∨ c = w.heap.size + 1) (by kernel_rfl) (by kernel_rfl) (mk_St L [2, 3] [2, 3] (by kernel_rfl) (by kernel_rfl) ⟨ok_W ⟨undef, trivial⟩ TkF.loc hs5.lt (.inl rfl) (fun b hb => Nat.lt_of_lt_of_le hb.2 hh5), ok_W ⟨undef, trivial⟩ (fun _ => Row.loc) rT.lt (.inr rfl) (fun b hb => hb ▸ rT.lt), trivial⟩ (by intro i hi j hj hne b hb hx; simp only [List.mem_cons, List.not_mem_nil, or_false] at hi hj; rcases hi with rfl | rfl <;> rcases hj with rfl | rfl <;> first | exact absurd rfl hne | (have hb1 : lo ≤ b ∧ b < hi := hb; have hx1 : b = w.heap.size + 1 := hx; omega) | (have hb1 : b = w.heap.size + 1 := hb; have hx1 : b = g := hx; omega))) ?_
  intro QQ hQ
  refine stepKz rfl (fun K hK => ?_); go_simp
  apply Exists.intro; apply And.intro; (focus (intro wk hk; go_simp; exact ⟨rfl, rfl⟩)); refine hK _ _ ?_; clear hK K
  refine stepK rfl (by kernel_rfl) (fun K hK => ?_); go_simp
  apply Exists.intro; apply And.intro; (focus (intro wk hk; go_simp; exact ⟨rfl, rfl⟩)); refine hK _ _ ?_; clear hK K
  refine stepS _ rfl (by kernel_rfl) (fun K hK => ?_); go_simp
  refine ⟨?_, ?_⟩
  · intro wk hk hg hu; go_simp; refine upon_enter ((tk.out _ (hs5.below hk.undrew.below)).mono ?_); rintro e w' ⟨u, rfl, hf, ht⟩; exact ⟨_, rfl, left_W rfl rfl trivial ht hf⟩
  rintro ⟨v2, lo2, hi2⟩ - - -
  refine hK _ _ ?_; clear hK K
  refine stepSx _ [2] (fun c => c = g) rfl (by kernel_rfl) (by intro i hi b hb; simp only [List.mem_cons, List.not_mem_nil, or_false] at hi; subst hi; exact hb) (fun K hK => ?_); go_simp
  refine ⟨?_, ?_⟩
  · intro wk hk hg hu; have u2 : TkF lo hi g E O R v2 wk := hu 2 (show 2 ∈ [2] by decide); have rTk : Row wk (w.heap.size + 1) 35 zr32 := K6.Row.tr rT hk.undrew (by intro hc; have hc' : w.heap.size + 1 = g := hc; omega); obtain ⟨vv, w', hrun, hrow, htr⟩ := cpy.out wk v2 rTk u2.1; refine sUpon_copy rfl rfl rfl hrun ?_; exact left_W rfl rfl trivial htr hrow
  rintro ⟨v3, lo3, hi3⟩ - - -
  refine hK _ _ ?_; clear hK K
  refine stepN ?_
  refine hQ _ _ ?_
  intro w6 hT hG hF
  have hT' := hT.undrew
  have u2 : TkF lo hi g E O R v2 w6 := hF 2 _ rfl rfl (by decide)
  have rL : Row w6 (w.heap.size + 1) 35 (bv (padL 32 E O)).toArray := hF 3 _ rfl rfl (by decide)
  have hs := u2.2.2
  have r0' := K6.Row.tr r0 hT' (by rintro (hc | hc) <;> omega)
  have ht : Tr (fun b => b = g) w w6 := (Tr.of hl : Tr (fun b => b = g) w w0).trans_new hT' (fun b hb hlt => by rcases hb with hb | hb <;> omega)
  clear hT hT' hG hF hQ QQ L u2 tk cpy hs5 rT r0 H0 hl
  have r0 := r0'
  clear r0'
  obtain ⟨Z, hZ⟩ : ∃ Z, padL 32 E O = Z := ⟨_, rfl⟩
  rw [hZ] at hlen rL
  have HZ := Lib.hid hZ
  clear hZ
  have hszZ : (bv Z).toArray.size = 32 := by rw [List.size_toArray, bv_len]; exact hlen.out
  obtain ⟨Y, hY⟩ : ∃ Y, (bv Z).toArray = Y := ⟨_, rfl⟩
  have hone : (bv Z).toArray.all (·.oneCell') = true := bv_one Z
  have hinf : (Try.prog.info? 35).map (·.size) = some (bv Z).toArray.size := by rw [hszZ]; kernel_rfl
  rw [hY] at rL hszZ hone hinf
  have HY := Lib.hid hY
  clear hY
  go_upto_region 3 with (fail)
  let L : List Sp := [sO 1 (w.heap.size) 35 [0] (fun g => aggOf g 0)]
  refine wp_region_six0 (shs L) (look6 L) (fun c => c = w.heap.size) (by kernel_rfl) (by kernel_rfl) (mk_St L [1] [1] (by kernel_rfl) (by kernel_rfl) ⟨ok_O aggOf_congr r0.lt (rfl), trivial⟩ (by simp)) ?_
  intro QQ hQ
  refine stepK rfl (by kernel_rfl) (fun K hK => ?_); go_simp
  apply Exists.intro; apply And.intro; (focus exact kLoad rfl rfl aggR35 rL hszZ id); refine hK _ _ ?_; clear hK K
  refine stepS _ rfl (by kernel_rfl) (fun K hK => ?_); go_simp
  refine ⟨?_, ?_⟩
  · exact sStoreO rfl rfl rfl rfl rfl rfl r0 id hinf hszZ.symm hone (by decide) aggOf_congr
  rintro ⟨v1, lo1, hi1⟩ - - (rfl : v1 = undef)
  refine hK _ _ ?_; clear hK K
  refine stepN ?_
  refine hQ _ _ ?_
  intro w9 hT hG hF
  have x0 : Row w9 (w.heap.size) 35 (Y) := hF 1 _ rfl rfl (by decide)
  have hs9 := hs.keep hT (fun b _ hb hc => by have hc' : b = w.heap.size := hc; omega)
  have ht9 := ht.trans_new hT (fun b hb hlt => by have hb' : b = w.heap.size := hb; omega)
  clear hT hG hF hQ QQ L
  go_wp2_with fail
  refine bodyPost_ret (results_c rfl aggR35 rfl x0 hszZ) rfl ?_
  exact ⟨by rw [← HY.out, ← HZ.out], hs9, ht9⟩
end Go.Proofs.Ytpdenhmkpiafiaa
namespace Go.Proofs.Ytpdenhmkpiafiaa
open Go Go.RowKit K6
def SRv (w : World) (q : Option Nat) (v : Value) (xs : List Int) : Prop :=
  (xs = [] ∧ ∃ a, v = .slice a 0 0) ∨
  ∃ b o c, q = some b ∧ v = .slice (some ⟨b, o, none⟩) xs.length c ∧ xs.length ≤ c ∧ 0 < c ∧ ∀ j x, xs[j]? = some x → w.cell? ⟨b, o + j, none⟩ = some (.int .u8 x)
def SR (w : World) (g : Nat) (q : Option Nat) (e : Int) (xs : List Int) : Prop :=
  (e ≠ 0 → xs = []) ∧ By xs ∧ xs.length ≤ 100000000 ∧ q ≠ some g ∧ ∃ v, Row w g 66 #[v, .int .i64 e] ∧ SRv w q v xs
theorem SRv.keep {X : Nat → Prop} {w w' : World} {q : Option Nat} {v : Value} {xs : List Int} (h : SRv w q v xs) (hT : Tr X w w') (hq : ∀ b, q = some b → ¬ X b) : SRv w' q v xs := by
  rcases h with h | ⟨b, o, c, h1, h2, h3, h4, h5⟩
  · exact .inl h
  · exact .inr ⟨b, o, c, h1, h2, h3, h4, fun j x hj => (World.cell?_of_block (hT.block b (cell_lt (h5 j x hj)) (hq b h1))).trans (h5 j x hj)⟩
theorem SRv.bs {w : World} {q : Option Nat} {v : Value} {xs : List Int} (h : SRv w q v xs) : Bs w v xs := by
  rcases h with ⟨rfl, a, rfl⟩ | ⟨b, o, c, -, rfl, -, -, h5⟩
  · exact ⟨a, 0, rfl, fun _ => ⟨rfl, rfl⟩, fun _ _ j u hj => by simp [bv] at hj⟩
  · refine ⟨_, c, rfl, (fun h => (by cases h)), fun a ha j u hj => ?_⟩
    cases ha
    rw [add_off]
    unfold bv at hj
    rw [List.getElem?_map] at hj
    rcases hx : xs[j]? with _ | x
    · rw [hx] at hj; cases hj
    · rw [hx] at hj; cases hj
      exact h5 j x hx
theorem SR.lt {w : World} {g : Nat} {q : Option Nat} {e : Int} {xs : List Int} (h : SR w g q e xs) : g < w.heap.size := by
  obtain ⟨-, -, -, -, v, hs, -⟩ := h
  exact Row.lt hs
theorem SR.keep {X : Nat → Prop} {w w' : World} {g : Nat} {q : Option Nat} {e : Int} {xs : List Int} (h : SR w g q e xs) (hT : Tr X w w') (hg : ¬ X g) (hq : ∀ b, q = some b → ¬ X b) : SR w' g q e xs := by
  obtain ⟨h1, h2, h3, h4, v, hs, hv⟩ := h
  exact ⟨h1, h2, h3, h4, v, Row.tr hs hT hg, hv.keep hT hq⟩
theorem SR.below {w w' : World} {g : Nat} {q : Option Nat} {e : Int} {xs : List Int} (h : SR w g q e xs) (hb : Below w.heap.size w w') : SR w' g q e xs := h.keep (X := None_) (Tr.of hb) id fun _ _ => id
def GotR (w : World) (g : Nat) (q : Option Nat) (v : Value) (s : St) (r : Ending) (w' : World) : Prop := r = .returned v ∧ SR w' g q s.1 s.2 ∧ Tr (fun b => b = g) w w'
set_option maxRecDepth 100000 in
set_option maxHeartbeats 2000000 in
theorem wrong_at {w : World} {g : Nat} {q : Option Nat} {e : Int} {xs : List Int} (c : Int) (h : SR w g q e xs) : Calls Try.prog 183 #[.pointer (some ⟨g, 0, none⟩), .int .i64 c] w fun r w' => (∃ u, r = .returned u) ∧ SR w' g q c [] ∧ Tr (fun b => b = g) w w' := by
  obtain ⟨-, -, -, h4, v, hs, -⟩ := h
  have d0 : w.cell? ⟨g, 0, none⟩ = some v := hs.cell 0
  have d1 : w.cell? ⟨g, 1, none⟩ = some (.int .i64 e) := hs.cell 1
  have f0 := hs.frozen 0
  have f1 := hs.frozen 1
  have H := Lib.hid (show _ ∧ _ from ⟨hs, h4⟩)
  clear hs h4
  go_enter Try.func183, Try.ntmps183
  go_wp2_with fail
  first | (refine bodyPost_ret (results_none rfl _ _ _) rfl ?_) | (refine bodyPost_end (results_none rfl _ _ _) rfl ?_)
  exact ⟨⟨_, rfl⟩, ⟨fun _ => rfl, By.nil, Nat.zero_le _, H.out.2, _, Row.congr ((Row.set H.out.1 0 (.slice none 0 0)).set 1 (.int .i64 c)) rfl, .inl ⟨rfl, none, rfl⟩⟩, (tr_cell (X := fun b => b = g) rfl).trans (tr_cell (X := fun b => b = g) rfl)⟩
theorem SR.drop {w : World} {g n : Nat} {q : Option Nat} {v v' : Value} {xs : List Int} (hs : Row w g 66 #[v, .int .i64 0]) (hb : By xs) (hL : xs.length ≤ 100000000) (hq : q ≠ some g) (hn : n ≤ xs.length)
    (hv : SRv (w.setCell ⟨g, 0, none⟩ v') q v' (xs.drop n)) : SR (w.setCell ⟨g, 0, none⟩ v') g q 0 (xs.drop n) :=
  ⟨fun h => absurd rfl h, hb.drop n, by rw [List.length_drop]; omega, hq, v', Row.congr (Row.set hs 0 v') rfl, hv⟩
theorem SRv.drop {w w' : World} {b o c n m g : Nat} {q : Option Nat} {v' : Value} {xs : List Int} (hq : q = some b) (hqg : q ≠ some g) (hT : Tr (fun b => b = g) w w') (hc : m ≤ c) (hm : xs.length = m) (hn : n ≤ m) (hcell : ∀ j x, xs[j]? = some x → w.cell? ⟨b, o + j, none⟩ = some (.int .u8 x))
    (hv : (n < c ∧ v' = .slice (some ⟨b, o + n, none⟩) (m - n) (c - n)) ∨ (n = c ∧ v' = .slice (some ⟨b, o, none⟩) 0 0)) : SRv w' q v' (xs.drop n) := by
  rcases hv with ⟨hlt, rfl⟩ | ⟨rfl, rfl⟩
  · refine .inr ⟨b, o + n, c - n, hq, by rw [List.length_drop, hm], by rw [List.length_drop]; omega, by omega, fun j x hj => ?_⟩
    rw [List.getElem?_drop] at hj
    rw [Nat.add_assoc]
    have h5 := hcell _ _ hj
    exact (World.cell?_of_block (hT.block b (cell_lt h5) (fun e => hqg (by rw [hq, e])))).trans h5
  · exact .inl ⟨List.drop_eq_nil_of_le (by omega), _, rfl⟩
def RTook (w : World) (g n : Nat) (q : Option Nat) (e : Int) (xs : List Int) (r : Ending) (w' : World) : Prop := ∃ v, r = .returned v ∧ Ob w' w.heap.size v (tkO n e xs) ∧ SR w' g q (tkE n e xs) (tkR n e xs) ∧ Tr (fun b => b = g) w w'
set_option maxRecDepth 100000 in
set_option maxHeartbeats 8000000 in
theorem rtake_at {w : World} {g : Nat} {q : Option Nat} {e : Int} {xs : List Int} (n : Nat) (h : SR w g q e xs) : Calls Try.prog 230 #[.pointer (some ⟨g, 0, none⟩), .int .i64 (n : Int)] w (RTook w g n q e xs) := by
  by_cases he : e = 0
  · subst he
    have wr := wrong_at 3 h
    obtain ⟨-, hb, hL, hqg, v, hs, hv⟩ := id h
    have c1 : w.cell? ⟨g, 1, none⟩ = some (.int .i64 0) := hs.cell 1
    have c0 : w.cell? ⟨g, 0, none⟩ = some v := hs.cell 0
    have c0a : (w.alloc (.cells #[] 5)).cell? ⟨g, 0, none⟩ = some v := (Row.below hs ((Below.refl _ _).alloc (Nat.le_refl _) _ : Below w.heap.size w (w.alloc (.cells #[] 5))) (Row.lt hs)).cell 0
    by_cases hn : n ≤ xs.length
    · have hE : tkE n 0 xs = 0 := by unfold tkE; rw [if_pos rfl, if_pos hn]
      have hO : tkO n 0 xs = xs.take n := by unfold tkO; rw [if_pos rfl, if_pos hn]
      have hR : tkR n 0 xs = xs.drop n := by unfold tkR; rw [if_pos rfl, if_pos hn]
      clear wr
      rcases hv with ⟨rfl, a, rfl⟩ | ⟨b, o, c, hqb, rfl, hc, hc0, hcell⟩
      · obtain rfl : n = 0 := Nat.le_zero.1 hn
        have hB9 : Bs w (.slice a 0 0) [] := ⟨a, 0, rfl, fun _ => ⟨rfl, rfl⟩, fun _ _ j u hj => by simp [bv] at hj⟩
        obtain ⟨v2, w2, hrun, ho2, hl2⟩ := fresh_append hB9 (Nat.zero_le _)
        have hs2 := hs.below hl2 hs.lt
        have e0 : w2.cell? ⟨g, 0, none⟩ = some (.slice a 0 0) := hs2.cell 0
        have f0 := hs2.frozen 0
        have hT : ∀ u, Tr (fun b => b = g) w2 (w2.setCell ⟨g, 0, none⟩ u) := fun u => tr_cell (X := fun b => b = g) rfl
        have fin : RTook w g 0 q 0 [] (.returned v2) (w2.setCell ⟨g, 0, none⟩ (.slice a 0 0)) := ⟨v2, rfl, by
            rw [hO]
            refine ho2.keep (hT _) fun b hb2 e2 => ?_
            have := (ho2.lt b hb2).1
            have := hs.lt
            omega, by rw [hE, hR]; exact SR.drop (xs := []) (n := 0) hs2 hb hL hqg hn (.inl ⟨rfl, a, rfl⟩), (Tr.of hl2 : Tr (fun b => b = g) w w2).trans (hT _)⟩
        have H := Lib.hid fin
        clear fin hT ho2 hl2 hs2 hs hE hO hR hb hL hqg hn  h hB9
        cases a with
        | none =>
          go_enter Try.func230, Try.ntmps230
          go_wp2_with (at_builtin; refine wpList_app rfl rfl rfl rfl hrun ?_)
          go_ret
          exact H.out
        | some a =>
          go_enter Try.func230, Try.ntmps230
          go_wp2_with (at_builtin; refine wpList_app rfl rfl rfl rfl hrun ?_)
          go_ret
          exact H.out
      · obtain ⟨m, hm⟩ : ∃ m, xs.length = m := ⟨_, rfl⟩
        have hB9 : Bs w (.slice (some ⟨b, o, none⟩) n c) (xs.take n) := by
          refine ⟨some ⟨b, o, none⟩, c, by rw [List.length_take, Nat.min_eq_left hn], (fun h => (by cases h)), fun a ha j u hj => ?_⟩
          cases ha
          rw [add_off]
          unfold bv at hj
          rw [List.getElem?_map, List.getElem?_take] at hj
          split at hj
          · rcases hx9 : xs[j]? with _ | x
            · rw [hx9] at hj; cases hj
            · rw [hx9] at hj; cases hj
              exact hcell j x hx9
          · cases hj
        obtain ⟨v2, w2, hrun, ho2, hl2⟩ := fresh_append hB9 (by rw [List.length_take]; omega)
        have hs2 := hs.below hl2 hs.lt
        have e0 : w2.cell? ⟨g, 0, none⟩ = some (.slice (some ⟨b, o, none⟩) xs.length c) := hs2.cell 0
        have f0 := hs2.frozen 0
        have hT : ∀ u, Tr (fun b => b = g) w2 (w2.setCell ⟨g, 0, none⟩ u) := fun u => tr_cell (X := fun b => b = g) rfl
        have hcell2 : ∀ j x, xs[j]? = some x → w2.cell? ⟨b, o + j, none⟩ = some (.int .u8 x) := fun j x hj => (World.cell?_of_block (hl2.block b (cell_lt (hcell j x hj)))).trans (hcell j x hj)
        rw [hm] at c0 c0a e0 hn hc
        have fin : ∀ v', ((n < c ∧ v' = .slice (some ⟨b, o + n, none⟩) (m - n) (c - n)) ∨ (n = c ∧ v' = .slice (some ⟨b, o, none⟩) 0 0)) → RTook w g n q 0 xs (.returned v2) (w2.setCell ⟨g, 0, none⟩ v') := fun v' hv' => ⟨v2, rfl, by
            rw [hO]
            refine ho2.keep (hT _) fun b hb2 e2 => ?_
            have := (ho2.lt b hb2).1
            have := hs.lt
            omega, by rw [hE, hR]; exact SR.drop hs2 hb hL hqg (by omega) (SRv.drop hqb hqg (hT v') hc hm hn hcell2 hv'), (Tr.of hl2 : Tr (fun b => b = g) w w2).trans (hT _)⟩
        have hm1 : (n : Int) ≤ (m : Int) := by omega
        have hm2 : (n : Int) ≤ (c : Int) := by omega
        have hm3 : (m : Int) ≤ (c : Int) := by omega
        by_cases hcn : c = n
        · subst hcn
          obtain rfl : m = c := by omega
          have H := Lib.hid (fin _ (.inr ⟨rfl, rfl⟩))
          clear fin hT ho2 hl2 hs2 hs hE hO hR hb hL hqg hcell hcell2 h hB9 hqb hm hc hc0 hn hm2 hm3
          go_enter Try.func230, Try.ntmps230
          go_wp2_with (at_builtin; refine wpList_app rfl rfl rfl rfl hrun ?_)
          all_goals (go_ret; exact H.out)
        · have H := Lib.hid (fin _ (.inl ⟨by omega, rfl⟩))
          clear fin hT ho2 hl2 hs2 hs hE hO hR hb hL hqg hcell hcell2 h hB9 hqb hm hc0
          go_enter Try.func230, Try.ntmps230
          go_wp2_with (at_builtin; refine wpList_app rfl rfl rfl rfl hrun ?_)
          all_goals (go_ret; exact H.out)
    · have hE : tkE n 0 xs = 3 := by unfold tkE; rw [if_pos rfl, if_neg hn]
      have hO : tkO n 0 xs = [] := by unfold tkO; rw [if_pos rfl, if_neg hn]
      have hR : tkR n 0 xs = [] := by unfold tkR; rw [if_pos rfl, if_neg hn]
      obtain ⟨a, c, rfl⟩ : ∃ a c, v = .slice a xs.length c := by
        rcases hv with ⟨rfl, a, rfl⟩ | ⟨b, o, c, -, rfl, -⟩
        · exact ⟨_, _, rfl⟩
        · exact ⟨_, _, rfl⟩
      have W := Lib.hid wr
      have HH := Lib.hid (show _ ∧ _ ∧ _ from ⟨hE, hO, hR⟩)
      have hm1 : (xs.length : Int) < (n : Int) := by omega
      clear wr hE hO hR hv hs hb hL hqg h hn
      go_enter Try.func230, Try.ntmps230
      go_wp2_with fail
      refine W.out.mono ?_
      rintro r w2 ⟨⟨u, rfl⟩, hs, ht⟩
      have H := Lib.hid (show _ ∧ _ from ⟨hs, ht⟩)
      clear W hs ht
      go_wp2_with fail
      go_ret
      obtain ⟨hE, hO, hR⟩ := HH.out
      exact ⟨_, rfl, by rw [hO]; exact Ob.nil _ _, by rw [hE, hR]; exact H.out.1, H.out.2⟩
  · have H := Lib.hid (show RTook w g n q e xs (.returned (.slice none 0 0)) w from ⟨_, rfl, by unfold tkO; rw [if_neg he]; exact Ob.nil _ _, by unfold tkE tkR; rw [if_neg he, if_neg he]; rw [h.1 he] at h; exact h, Tr.refl _ _⟩)
    obtain ⟨-, -, -, -, v, hs, -⟩ := h
    have c1 : w.cell? ⟨g, 1, none⟩ = some (.int .i64 e) := hs.cell 1
    have hq : (e != 0) = true := by simpa using he
    clear hs he
    go_enter Try.func230, Try.ntmps230
    go_wp2_with fail
    go_ret
    exact H.out
theorem tkO1_len (e : Int) (xs : List Int) : (tkO 1 e xs).length ≤ 1 := by
  unfold tkO
  split
  · split
    · rw [List.length_take]; omega
    · exact Nat.zero_le _
  · exact Nat.zero_le _
set_option maxRecDepth 100000 in
set_option maxHeartbeats 2000000 in
theorem rbyte_at {w : World} {g : Nat} {q : Option Nat} {e : Int} {xs : List Int} (h : SR w g q e xs) : Calls Try.prog 182 #[.pointer (some ⟨g, 0, none⟩)] w (GotR w g q (.int .u8 (byO e xs)) (tkE 1 e xs, tkR 1 e xs)) := by
  have tk := Lib.hid (rtake_at 1 h)
  have hlen := tkO1_len e xs
  unfold byO
  obtain ⟨z, hz⟩ : ∃ z, tkO 1 e xs = z := ⟨_, rfl⟩
  rw [hz] at hlen ⊢
  clear h
  go_enter Try.func182, Try.ntmps182
  go_wp2_with fail
  refine tk.out.mono ?_
  rintro r w' ⟨u, rfl, hu, hs, ht⟩
  rw [hz] at hu
  have hu2 := hu.bs
  have H := Lib.hid (show _ ∧ _ from ⟨hs, ht⟩)
  clear tk hs ht hz hu
  obtain ⟨a, c, rfl, hq, hc⟩ := hu2
  rcases z with _ | ⟨y, ys⟩
  · clear hq hc
    go_wp2_with fail
    go_ret
    exact ⟨rfl, H.out.1, H.out.2⟩
  · obtain rfl : ys = [] := List.eq_nil_of_length_eq_zero (by simpa using hlen)
    cases a with
    | none => cases (hq rfl).2
    | some a =>
      have k0 := hc a rfl 0 _ rfl
      rw [show a.add 0 = a from by unfold Addr.add; rfl] at k0
      clear hq hc hlen
      go_wp2_with fail
      go_ret
      exact ⟨rfl, H.out.1, H.out.2⟩
set_option maxRecDepth 100000 in
set_option maxHeartbeats 2000000 in
theorem rend_at {w : World} {g : Nat} {q : Option Nat} {e : Int} {xs : List Int} (h : SR w g q e xs) : Calls Try.prog 67 #[.pointer (some ⟨g, 0, none⟩)] w (GotR w g q (.int .i64 (edE e xs)) (edE e xs, [])) := by
  by_cases he : e = 0
  · subst he
    have wr := wrong_at 4 h
    have h' := Lib.hid h
    obtain ⟨-, -, -, -, v, hs, hv⟩ := h
    have c1 : w.cell? ⟨g, 1, none⟩ = some (.int .i64 0) := hs.cell 1
    have c0 : w.cell? ⟨g, 0, none⟩ = some v := hs.cell 0
    obtain ⟨a, c, rfl⟩ : ∃ a c, v = .slice a xs.length c := by
      rcases hv with ⟨rfl, a, rfl⟩ | ⟨b, o, c, -, rfl, -⟩
      · exact ⟨_, _, rfl⟩
      · exact ⟨_, _, rfl⟩
    have W := Lib.hid wr
    clear wr hs hv
    by_cases h0 : 0 < xs.length
    · have hE : edE 0 xs = 4 := by unfold edE; rw [if_pos h0]
      rw [hE]
      have hm : (0 : Int) < (xs.length : Int) := by omega
      clear hE h0 h'
      go_enter Try.func67, Try.ntmps67
      go_wp2_with fail
      refine W.out.mono ?_
      rintro r w2 ⟨⟨u, rfl⟩, hs, ht⟩
      have c9 : w2.cell? ⟨g, 1, none⟩ = some (.int .i64 4) := by
        obtain ⟨-, -, -, -, v, hs, -⟩ := hs
        exact hs.cell 1
      have H := Lib.hid (show _ ∧ _ from ⟨hs, ht⟩)
      clear W hs ht c0 c1
      go_wp2_with fail
      go_ret
      exact ⟨rfl, H.out.1, H.out.2⟩
    · have h1 : xs = [] := List.eq_nil_of_length_eq_zero (by omega)
      subst h1
      have hE : edE 0 [] = 0 := by unfold edE; rfl
      rw [hE]
      clear hE h0 W
      go_enter Try.func67, Try.ntmps67
      go_wp2_with fail
      go_ret
      exact ⟨rfl, h'.out, Tr.refl _ _⟩
  · obtain rfl := h.1 he
    have hE : edE e [] = e := by unfold edE; rw [if_neg (by simp)]
    rw [hE]
    have H := Lib.hid h
    obtain ⟨-, -, -, -, v, hs, -⟩ := h
    have c1 : w.cell? ⟨g, 1, none⟩ = some (.int .i64 e) := hs.cell 1
    have hq : (e == 0) = false := by rw [beq_eq_false_iff_ne]; exact he
    clear hs he hE
    go_enter Try.func67, Try.ntmps67
    go_wp2_with fail
    go_ret
    exact ⟨rfl, H.out, Tr.refl _ _⟩
set_option maxRecDepth 100000 in
set_option maxHeartbeats 16000000 in
theorem rvar_at {w : World} {g : Nat} {q : Option Nat} {e : Int} {xs : List Int} (most : Int) (h : SR w g q e xs) : Calls Try.prog 178 #[.pointer (some ⟨g, 0, none⟩), .int .i64 most] w (GotR w g q (.int .i64 (((gV most (e, xs)).1 : Nat) : Int)) (gV most (e, xs)).2) := by
  by_cases he : e = 0
  · subst he
    have wr := Lib.hid (fun c => wrong_at c h)
    have hsp := grp_spec xs 0 (by omega)
    obtain ⟨ke, kn, hk⟩ : ∃ ke kn, grp 0 xs = (ke, kn) := ⟨_, _, rfl⟩
    rw [hk] at hsp
    have HB := Lib.hid (show ∀ c w' , ke = c → c ≠ 0 → SR w' g q c [] → Tr (fun b => b = g) w w' → GotR w g q (.int .i64 (((gV most (0, xs)).1 : Nat) : Int)) (gV most (0, xs)).2 (.returned (.int .i64 0)) w' from fun c w' hc h0 h1 h2 => by
      subst hc
      have hE : svE most 0 xs = ke := by unfold svE; rw [if_pos rfl, hk, if_neg h0]
      unfold gV svN svR
      simp only
      rw [hE, if_neg h0, if_neg h0]
      exact ⟨rfl, h1, h2⟩)
    have HR := Lib.hid (show ∀ G w', ke = 0 → gval (xs.take kn) = G → most < (G : Int) → SR w' g q 5 [] → Tr (fun b => b = g) w w' → GotR w g q (.int .i64 (((gV most (0, xs)).1 : Nat) : Int)) (gV most (0, xs)).2 (.returned (.int .i64 0)) w' from fun G w' hc hG hm h1 h2 => by
      subst hc
      have hE : svE most 0 xs = 5 := by unfold svE; rw [if_pos rfl, hk]; simp only; rw [if_pos trivial, hG, if_pos hm]
      unfold gV svN svR
      simp only
      rw [hE, if_neg (by decide), if_neg (by decide)]
      exact ⟨rfl, h1, h2⟩)
    have HG := Lib.hid (show ∀ G w', ke = 0 → gval (xs.take kn) = G → ¬ most < (G : Int) → SR w' g q 0 (xs.drop kn) → Tr (fun b => b = g) w w' → GotR w g q (.int .i64 (((gV most (0, xs)).1 : Nat) : Int)) (gV most (0, xs)).2 (.returned (.int .i64 (G : Int))) w' from fun G w' hc hG hm h1 h2 => by
      subst hc
      have hE : svE most 0 xs = 0 := by unfold svE; rw [if_pos rfl, hk]; simp only; rw [if_pos trivial, hG, if_neg hm]
      unfold gV svN svR
      simp only
      rw [hE, if_pos rfl, if_pos rfl, hk]
      simp only
      rw [hG]
      exact ⟨rfl, h1, h2⟩)
    have hk0 := Lib.hid (show grp 0 (xs.drop 0) = (ke, kn) from hk)
    have H0 := Lib.hid h
    obtain ⟨-, hb, hL, hqg, v, hs, hv⟩ := h
    have c1 : w.cell? ⟨g, 1, none⟩ = some (.int .i64 0) := hs.cell 1
    have c0 : w.cell? ⟨g, 0, none⟩ = some v := hs.cell 0
    have f0 := hs.frozen 0
    rcases hv with ⟨rfl, a, rfl⟩ | ⟨b, o, c, hqb, rfl, hc, hc0, hcell⟩
    · have e3 : ke = 3 := by
        have : grp 0 [] = (3, 0) := rfl
        rw [hk] at this
        injection this
      have hB := Lib.hid (HB.out 3 · e3 (by decide))
      clear HB HR HG hk hk0 hsp hb hL hqg  hs H0
      go_enter Try.func178, Try.ntmps178
      go_wp2_with fail
      go_loopg [5, 6, 7, 8] 0 (fun gg s5 s6 s7 s8 wr => s6 = .int .i64 0 ∧ wr = w)
      case atStart => exact ⟨rfl, rfl⟩
      case round =>
        obtain ⟨rfl, rfl⟩ := hrel
        go_wp2_with fail
        refine (wr.out 3).mono ?_
        rintro r w' ⟨⟨u, rfl⟩, hs, ht⟩
        have H := Lib.hid (hB.out w' hs ht)
        clear hs ht wr hB
        go_wp2_with fail
        go_ret
        exact H.out
    · obtain ⟨m, hm⟩ : ∃ m, xs.length = m := ⟨_, rfl⟩
      have hT : ∀ u, Tr (fun b => b = g) w (w.setCell ⟨g, 0, none⟩ u) := fun u => tr_cell (X := fun b => b = g) rfl
      have fin := Lib.hid (show ∀ n v', n ≤ m → ((n < c ∧ v' = .slice (some ⟨b, o + n, none⟩) (m - n) (c - n)) ∨ (n = c ∧ v' = .slice (some ⟨b, o, none⟩) 0 0)) → SR (w.setCell ⟨g, 0, none⟩ v') g q 0 (xs.drop n) ∧ Tr (fun b => b = g) w (w.setCell ⟨g, 0, none⟩ v') from fun n v' hn hv' => ⟨SR.drop hs hb hL hqg (by omega) (SRv.drop hqb hqg (hT v') (by omega) hm hn hcell hv'), hT v'⟩)
      have hf : Hid (∀ i : Nat, i < m → ∃ y : Int, xs.drop i = y :: xs.drop (i + 1) ∧ 0 ≤ y ∧ y < 256 ∧ w.cell? ⟨b, o + i, none⟩ = some (.int .u8 y) ∧ gval (xs.take (i + 1)) = gval (xs.take i) + (y % 128).toNat * 128 ^ i ∧ gval (xs.take i) < 128 ^ i) := Lib.hid fun i hi => by
        have hi2 : i < xs.length := by omega
        have h1 : xs[i]? = some xs[i] := List.getElem?_eq_getElem hi2
        refine ⟨xs[i], List.drop_eq_getElem_cons hi2, (hb _ (List.getElem_mem _)).1, (hb _ (List.getElem_mem _)).2, hcell i _ h1, ?_, ?_⟩
        · rw [List.take_succ_eq_append_getElem hi2, gval_snoc, List.length_take, Nat.min_eq_left (by omega)]
        · have := gval_lt (xs.take i)
          rwa [List.length_take, Nat.min_eq_left (by omega)] at this
      have hd : Hid (xs.drop m = []) := Lib.hid (List.drop_eq_nil_of_le (by omega))
      have hg0 : gval (xs.take 0) = 0 := rfl
      rw [hm] at c0 hc hL
      clear hT hk hsp hb hqg hqb hs hcell hm H0 hc0
      go_enter Try.func178, Try.ntmps178
      go_wp2_with fail
      go_loopg [5, 6, 7, 8] m (fun gg s5 s6 s7 s8 wr => ∃ i n : Nat, i + gg = m ∧ i ≤ 9 ∧ s5 = .int .i64 (n : Int) ∧ s6 = .int .i64 (i : Int) ∧ wr = w ∧ Hid (gval (xs.take i) = n) ∧ Hid (grp i (xs.drop i) = (ke, kn)))
      case atStart => exact ⟨0, 0, by omega, by omega, rfl, rfl, rfl, Lib.hid rfl, hk0⟩
      case round =>
        obtain ⟨gk0, rfl⟩ : ∃ m : Nat, m = gk := ⟨_, rfl⟩
        obtain ⟨i, n, hik, hi9, rfl, rfl, hw, hn, hk⟩ := hrel
        replace hw := hw.symm
        subst hw
        by_cases him : i < m
        · obtain ⟨y, hdr, hy0, hy1, cy, hg1, hg2⟩ := hf.out i him
          have hk2 := hk.out
          rw [hdr] at hk2
          unfold grp at hk2
          have hlt : (i : Int) < (m : Int) := by omega
          by_cases h9 : i = 9
          · rw [if_pos h9] at hk2
            injection hk2 with e1 e2
            have hB := Lib.hid (HB.out 4 · e1.symm (by decide))
            subst h9
            clear e1 e2
            clear hdr hk hk0 hg1 hg2 HB HR HG fin hf hd hn
            go_wp2_with fail
            refine (wr.out 4).mono ?_
            rintro r w' ⟨⟨u, rfl⟩, hs, ht⟩
            have H := Lib.hid (hB.out w' hs ht)
            clear hs ht wr hB
            go_wp2_with fail
            go_ret
            exact H.out
          · rw [if_neg h9] at hk2
            have h9' : ¬ (i : Int) = 9 := by omega
            have h9q : ((i : Int) == 9) = false := by rw [beq_eq_false_iff_ne]; omega
            have wi : IntKind.i64.wrap ((i : Int) + 1) = (i : Int) + 1 := by rw [IntKind.wrap_i64]; omega
            obtain ⟨z, hz⟩ : ∃ z, (y % 128).toNat = z := ⟨_, rfl⟩
            have hz2 : y % 128 = (z : Int) := by omega
            have hzt : y.tmod 128 = (z : Int) := by rw [Int.tmod_eq_emod_of_nonneg hy0]; exact hz2
            have wz : IntKind.i64.wrap (z : Int) = (z : Int) := by rw [IntKind.wrap_i64]; omega
            have hz128 : z < 128 := by omega
            rw [hz, hn.out] at hg1
            rw [hn.out] at hg2
            have hpw := Lib.hid (show ∀ j, j ≤ i → z * 128 ^ j < 9223372036854775808 from fun j hj => by
              have h1 : 128 ^ j ≤ 128 ^ 8 := Nat.pow_le_pow_right (by decide) (by omega)
              have h2 : z * 128 ^ j ≤ 127 * 128 ^ 8 := Nat.mul_le_mul (by omega) h1
              omega)
            have hsum : n + z * 128 ^ i < 9223372036854775808 := by
              have h1 : 128 ^ i ≤ 128 ^ 8 := Nat.pow_le_pow_right (by decide) (by omega)
              have h2 : z * 128 ^ i ≤ 127 * 128 ^ 8 := Nat.mul_le_mul (by omega) h1
              have h3 : (128 : Nat) ^ 8 = 72057594037927936 := by decide
              omega
            obtain ⟨S, hS⟩ : ∃ S, z * 128 ^ i = S := ⟨_, rfl⟩
            rw [hS] at hg1 hsum
            have wn : IntKind.i64.wrap ((n : Int) + (S : Int)) = ((n + S : Nat) : Int) := by rw [IntKind.wrap_i64]; omega
            have HN := Lib.hid hg1
            have HD := Lib.hid hdr
            have HS := Lib.hid hS
            clear hg1 hg2 hdr hsum hS hz hz2 hk
            go_wp2_with fail
            go_loopg [7, 8] i (fun gg s7 s8 wr => ∃ j d : Nat, j + gg = i ∧ s7 = .int .i64 (d : Int) ∧ s8 = .int .i64 (j : Int) ∧ wr = w ∧ Hid (z * 128 ^ j = d))
            case atStart => exact ⟨0, z, by omega, rfl, rfl, rfl, Lib.hid (by simp)⟩
            case round =>
              obtain ⟨j, d, hji, rfl, rfl, hw, hd2⟩ := hrel
              replace hw := hw.symm
              subst hw
              by_cases hlt2 : j < i
              · have hlt3 : (j : Int) < (i : Int) := by omega
                have hb2 := hpw.out (j + 1) (by omega)
                rw [Nat.pow_succ, ← Nat.mul_assoc, hd2.out] at hb2
                have wd : IntKind.i64.wrap ((d : Int) * 128) = ((d * 128 : Nat) : Int) := by rw [IntKind.wrap_i64]; omega
                have wj : IntKind.i64.wrap ((j : Int) + 1) = (j : Int) + 1 := by rw [IntKind.wrap_i64]; omega
                have hn2 := Lib.hid (show z * 128 ^ (j + 1) = d * 128 by rw [Nat.pow_succ, ← Nat.mul_assoc, hd2.out])
                clear hb2
                go_wp2_with fail
                go_roundg (gk - 1)
                case measure => omega
                case rel => exact ⟨j + 1, d * 128, by omega, by go_num, by go_num, rfl, hn2⟩
              · obtain rfl : j = i := by omega
                obtain rfl : d = S := hd2.out.symm.trans HS.out
                clear hpw hd2
                by_cases hc1 : 128 ≤ y
                · rw [if_pos hc1] at hk2
                  have hn2 := Lib.hid hk2
                  have hn3 := Lib.hid HN.out
                  clear hk2
                  go_wp2_with fail
                  go_roundg (gk0 - 1)
                  case measure => omega
                  case rel => exact ⟨j + 1, n + d, by omega, by omega, by go_num, by go_num, rfl, hn3, hn2⟩
                · rw [if_neg hc1] at hk2
                  have hc2 : y < 128 := by omega
                  by_cases h0 : y = 0 ∧ 0 < j
                  · rw [if_pos h0] at hk2
                    injection hk2 with e1 e2
                    have hB := Lib.hid (HB.out 4 · e1.symm (by decide))
                    clear e1 e2
                    obtain ⟨rfl, h0⟩ := h0
                    have hp : (0 : Int) < (j : Int) := by omega
                    clear HB HR HG fin hf hd
                    go_wp2_with fail
                    refine (wr.out 4).mono ?_
                    rintro r w' ⟨⟨u, rfl⟩, hs, ht⟩
                    have H := Lib.hid (hB.out w' hs ht)
                    clear hs ht wr hB
                    go_wp2_with fail
                    go_ret
                    exact H.out
                  · rw [if_neg h0] at hk2
                    injection hk2 with e1 e2
                    subst e1
                    subst e2
                    have hcond : (j : Int) ≤ 0 ∨ (0 : Int) < (j : Int) ∧ (y == 0) = false := by
                      rcases Nat.eq_zero_or_pos j with h | h
                      · exact .inl (by omega)
                      · refine .inr ⟨by omega, ?_⟩
                        rw [beq_eq_false_iff_ne]
                        exact fun e => h0 ⟨e, h⟩
                    clear h0
                    by_cases hm5 : most < ((n + d : Nat) : Int)
                    · have hR := Lib.hid (HR.out (n + d) · rfl HN.out (by first | exact hm5 | omega))
                      have hm6 : most < (n : Int) + (d : Int) := by omega
                      clear HB HR HG fin hf hd
                      rcases hcond with hcond | ⟨hcond, hcq⟩
                      all_goals
                        go_wp2_with fail
                        refine (wr.out 5).mono ?_
                        rintro r w' ⟨⟨u, rfl⟩, hs, ht⟩
                        have H := Lib.hid (hR.out w' hs ht)
                        clear hs ht wr hR
                        go_wp2_with fail
                        go_ret
                        exact H.out
                    · have hm6 : (n : Int) + (d : Int) ≤ most := by omega
                      have hm7 : (j : Int) + 1 ≤ (m : Int) := by omega
                      have hm8 : (j : Int) + 1 ≤ (c : Int) := by omega
                      have hm9 : (m : Int) ≤ (c : Int) := by omega
                      have ht1 : ((j : Int) + 1).toNat = j + 1 := by omega
                      by_cases hcn : c = j + 1
                      · subst hcn
                        obtain rfl : m = j + 1 := by omega
                        obtain ⟨f1, f2⟩ := fin.out (j + 1) _ (by omega) (.inr ⟨rfl, rfl⟩)
                        have H := Lib.hid (HG.out (n + d) _ rfl HN.out (by first | exact hm5 | omega) f1 f2)
                        clear HB HR HG fin hf hd hm5 f1 f2 wr
                        rcases hcond with hcond | ⟨hcond, hcq⟩
                        all_goals
                          go_wp2_with fail
                          all_goals (go_ret; exact H.out)
                      · obtain ⟨f1, f2⟩ := fin.out (j + 1) _ (by omega) (.inl ⟨by omega, rfl⟩)
                        have H := Lib.hid (HG.out (n + d) _ rfl HN.out (by first | exact hm5 | omega) f1 f2)
                        clear HB HR HG fin hf hd hm5 f1 f2 wr
                        rcases hcond with hcond | ⟨hcond, hcq⟩
                        all_goals
                          go_wp2_with fail
                          all_goals (go_ret; exact H.out)
        · obtain rfl : i = m := by omega
          have hk2 := hk.out
          rw [hd.out] at hk2
          have e : grp i [] = (3, 0) := rfl
          rw [e] at hk2
          injection hk2 with e1 e2
          have hB := Lib.hid (HB.out 3 · e1.symm (by decide))
          clear e1 e2
          clear hk hk0 e hi9 HB HR HG fin hf hd hn
          go_wp2_with fail
          refine (wr.out 3).mono ?_
          rintro r w' ⟨⟨u, rfl⟩, hs, ht⟩
          have H := Lib.hid (hB.out w' hs ht)
          clear hs ht wr hB
          go_wp2_with fail
          go_ret
          exact H.out
  · obtain rfl := h.1 he
    rw [gV_fault he]
    have H := Lib.hid h
    obtain ⟨-, -, -, -, v, hs, -⟩ := h
    have c1 : w.cell? ⟨g, 1, none⟩ = some (.int .i64 e) := hs.cell 1
    have hq : (e != 0) = true := by simpa using he
    clear hs he
    go_enter Try.func178, Try.ntmps178
    go_wp2_with fail
    go_ret
    exact ⟨rfl, H.out, Tr.refl _ _⟩
end Go.Proofs.Ytpdenhmkpiafiaa
namespace Go.Proofs.Ytpdenhmkpiafiaa
open Go Go.RowKit
set_option maxRecDepth 100000 in
set_option maxHeartbeats 2000000 in
theorem refFrom_any (r : Option Addr) (n c : Nat) (f : Nat → Nat) (w : World) (hf : ∀ i, f i < 256) (hr : n = 32 → ∃ g o, r = some ⟨g, o, none⟩ ∧ g < w.heap.size ∧ ∀ i, i < 32 → w.cell? ⟨g, o + i, none⟩ = some (.int .u8 ((f i : Nat) : Int))) :
    Calls Try.prog 96 #[.slice r n c] w (Pair w (if n = 32 then fromN f 32 else 0) (decide (n = 32))) := by
  go_enter Try.func96, Try.ntmps96
  by_cases hn : n = 32
  · subst hn
    obtain ⟨g, o, rfl, hg, hc⟩ := hr rfl
    go_wp2_with fail
    go_loopg [14] 32 (fun gg i wr => ∃ (k : Nat), k + gg = 32 ∧ i = .int .i64 (k : Int) ∧ Below w.heap.size w wr ∧ Row wr w.heap.size 31 (arr .u64 (fun _ => 0) 4) ∧ Row wr (w.heap.size + 1) 31 (arr .u64 (wordsOf (fromN f k)) 4))
    case atStart =>
      refine ⟨0, by omega, rfl, by go_grown, ?_, ?_⟩
      · repeat (first | (refine Row.new_at ?_; simp; done) | refine Row.alloc ?_ _)
      · rw [show fromN f 0 = 0 from rfl, wordsOf_zero]
        repeat (first | (refine Row.new_at ?_; simp; done) | refine Row.alloc ?_ _)
    case round =>
      obtain ⟨i, hi, rfl, hl, rr, ro⟩ := hrel
      by_cases hlt : i < 32
      · obtain ⟨k, hk⟩ : ∃ k, k + i = 31 := ⟨31 - i, by omega⟩
        have e0 : (31 : Int) - (i : Int) = (k : Int) := by omega
        have t1 : ((k : Int)).tdiv 8 = (k : Int) / 8 := Int.tdiv_eq_ediv_of_nonneg (by omega)
        have t2 : ((k : Int)).tmod 8 = (k : Int) % 8 := Int.tmod_eq_emod_of_nonneg (by omega)
        have t5 : (k : Int) / 8 < 4 := by omega
        have t6 : 0 ≤ (k : Int) / 8 := by omega
        have t7 : 0 ≤ (k : Int) % 8 := by omega
        have t8 : (k : Int) % 8 < 8 := by omega
        have t9 : ((k : Int) / 8).toNat = k / 8 := by omega
        have t10 : (8 * ((k : Int) % 8)).toNat = 8 * (k % 8) := by omega
        have ci : wr.cell? ⟨g, o + i, none⟩ = some (.int .u8 ((f i : Nat) : Int)) := ((bcell hl).1 g (o + i) hg).trans (hc i hlt)
        have t11 : IntKind.u64.wrap (8 * ((k : Int) % 8)) = 8 * ((k : Int) % 8) := by rw [IntKind.wrap_u64]; omega
        have wb : IntKind.u64.wrap ((f i : Nat) : Int) = ((f i : Nat) : Int) := by rw [IntKind.wrap_u64]; have := hf i; omega
        have co := ro.at_ (k / 8) (by omega)
        have fo := ro.frozen (k / 8)
        have S := Lib.hid (show _ ∧ _ ∧ _ from ⟨rr, ro, hk⟩)
        clear rr ro
        all_goals
          go_wp2_with fail
          go_roundg (gk - 1)
          case measure => omega
          case rel =>
            obtain ⟨rr, ro, hk⟩ := S.out
            obtain ⟨m, hm⟩ := fromN_mul f i (by omega)
            have hp := put_byte m (f i) k (hf i)
            rw [show 8 * (k + 1) = 8 * (32 - i) by omega, ← hm] at hp
            refine ⟨i + 1, by omega, by go_num, by go_grown, rr.far (by dsimp only; omega) _, ?_⟩
            refine (ro.put (k / 8) (by omega) _).congr ?_
            rw [hp]
            rw [show fromN f (i + 1) = fromN f i + f i * 2 ^ (8 * (31 - i)) from rfl, show 31 - i = k by omega]
      · obtain rfl : i = 32 := by omega
        have d0 := ro.at_ 0 (by omega)
        have d1 := ro.at_ 1 (by omega)
        have d2 := ro.at_ 2 (by omega)
        have d3 := ro.at_ 3 (by omega)
        have e0 := rr.at_ 0 (by omega)
        have e1 := rr.at_ 1 (by omega)
        have e2 := rr.at_ 2 (by omega)
        have e3 := rr.at_ 3 (by omega)
        have f0 := rr.frozen 0
        have f1 := rr.frozen 1
        have f2 := rr.frozen 2
        have f3 := rr.frozen 3
        have H := Lib.hid (show _ from rr)
        clear rr ro hlt
        go_wp2
        refine bodyPost_ret (results_ct rfl aggT31 rfl (H.out.store4 rfl _ _ _ _) rfl) rfl ?_
        exact ⟨_, _, _, _, rfl, wordsOf_isW _ (fromN_bd f hf), by go_grown⟩
  · have hne : ((n : Int) != 32) = true := by simp; omega
    have r0 : Row ((w.alloc (.cells #[Value.int .u64 0, Value.int .u64 0, Value.int .u64 0, Value.int .u64 0] 31)).alloc (.cells #[Value.int .u64 0, Value.int .u64 0, Value.int .u64 0, Value.int .u64 0] 31)) w.heap.size 31 #[Value.int .u64 0, Value.int .u64 0, Value.int .u64 0, Value.int .u64 0] := by
      repeat (first | (refine Row.new_at ?_; simp; done) | refine Row.alloc ?_ _)
    go_wp2_with fail
    refine bodyPost_ret (results_ct rfl aggT31 rfl r0 rfl) rfl ?_
    exact ⟨_, _, _, _, rfl, isW_zero, by go_grown⟩
end Go.Proofs.Ytpdenhmkpiafiaa
