/-
 What the statement rests on, part 4: OctRead RefForm1 RefSrc2 EvPlain.
-/
import Derived.Deep.OwnRows
import Derived.Test.YtpdenhmkpiafiaaQTR0
import Derived.Test.YtpdenhmkpiafiaaQTR1
import Derived.Test.YtpdenhmkpiafiaaQTR2
namespace Go.Proofs.Ytpdenhmkpiafiaa
open Go Go.RowKit K6
def Got (w : World) (lo hi g : Nat) (v : Value) (s : St) (r : Ending) (w' : World) : Prop := r = .returned v ∧ SA w' lo hi g s.1 s.2 ∧ Tr (fun b => b = g) w w'
set_option maxRecDepth 100000 in
set_option maxHeartbeats 8000000 in
theorem samt_f {w : World} {lo hi g : Nat} {e : Int} {xs : List Int} (h : SA w lo hi g e xs) (hhi : hi ≤ w.heap.size) (h0 : byO e xs = 0) (h1 : tkE 1 e xs ≠ 0) (h2 : tkR 1 e xs = []) :
  Calls Try.prog 62 #[.pointer (some ⟨g, 0, none⟩)] w (Got w lo hi g (.agg #[.int .u64 0, .int .u64 0, .int .u64 0, .int .u64 0]) (tkE 1 e xs, [])) := by
 have hgh : g < hi := h.2.1
 have hA : Below w.heap.size w (w.alloc (.cells #[Value.int .u64 0, .int .u64 0, .int .u64 0, .int .u64 0] 31)) := (Below.refl _ _).alloc (Nat.le_refl _) _
 have hsz : (w.alloc (.cells #[Value.int .u64 0, .int .u64 0, .int .u64 0, .int .u64 0] 31)).heap.size = w.heap.size + 1 := by simp
 have r0 : Row (w.alloc (.cells #[Value.int .u64 0, .int .u64 0, .int .u64 0, .int .u64 0] 31)) w.heap.size 31 #[.int .u64 0, .int .u64 0, .int .u64 0, .int .u64 0] := Row.new_at rfl
 have hby := byte_at (h.below hA)
 rw [h0, h2] at hby
 obtain ⟨k, hk⟩ : ∃ k, tkE 1 e xs = k := ⟨_, rfl⟩
 rw [hk] at h1 hby ⊢
 replace hby := Lib.hid hby
 have R0 := Lib.hid (show _ ∧ _ ∧ _ from ⟨hA, hsz, r0⟩)
 have H1 := Lib.hid h1
 clear h hA hsz r0 h0 h2 hk h1
 go_enter Try.func62, Try.ntmps62
 go_wp2_with fail
 refine hby.out.mono ?_
 rintro r w1 ⟨rfl, hs, ht⟩
 have ok := ok_at hs
 rw [decide_eq_false H1.out] at ok
 replace ok := Lib.hid ok
 have r1 := K6.Row.tr R0.out.2.2 ht (by omega)
 replace ht : Tr (fun b => b = g) w w1 := (Tr.of R0.out.1 : Tr (fun b => b = g) w _).trans ht
 have HS := Lib.hid (show _ ∧ _ ∧ _ from ⟨hs, ht, r1⟩)
 clear hby hs ht r1
 go_wp2_with fail
 refine ok.out.mono ?_
 rintro r w2 ⟨rfl, rfl⟩
 clear ok
 obtain ⟨hs, ht, r0⟩ := HS.out
 clear HS R0 H1
 go_upto_region 3 with (fail)
 let L : List Sp := [sO 1 (w.heap.size) 31 [0] (fun g => aggOf g 0)]
 refine wp_region_six0 (shs L) (look6 L) (fun c => c = w.heap.size) (by kernel_rfl) (by kernel_rfl) (mk_St L [1] [1] (by kernel_rfl) (by kernel_rfl) ⟨ok_O aggOf_congr r0.lt (rfl), trivial⟩ (by simp)) ?_
 intro QQ hQ
 refine stepK rfl (by kernel_rfl) (fun K hK => ?_); go_simp
 apply Exists.intro; apply And.intro; (focus (intro wk hk; go_simp; exact ⟨rfl, rfl⟩)); refine hK _ _ ?_; clear hK K
 refine stepS _ rfl (by kernel_rfl) (fun K hK => ?_); go_simp
 refine ⟨?_, ?_⟩
 ·exact sStoreO rfl rfl rfl rfl rfl rfl r0 id (by kernel_rfl) rfl (by kernel_rfl) (by decide) aggOf_congr
 rintro ⟨v1, lo1, hi1⟩ - - (rfl : v1 = undef)
 refine hK _ _ ?_; clear hK K
 refine stepN ?_
 refine hQ _ _ ?_
 intro w9 hT hG hF
 have x0 : Row w9 (w.heap.size) 31 (#[.int .u64 0, .int .u64 0, .int .u64 0, .int .u64 0]) := hF 1 _ rfl rfl (by decide)
 have hs9 := hs.keep hT (fun b _ hb hc => by have hc' : b = w.heap.size := hc; omega)
 have ht9 := ht.trans_new hT (fun b hb hlt => by have hb' : b = w.heap.size := hb; omega)
 clear hT hG hF hQ QQ L
 go_wp2_with fail
 refine bodyPost_ret (results_c rfl aggT31 rfl x0 rfl) rfl ?_
 exact ⟨rfl, hs9, ht9⟩
set_option maxRecDepth 100000 in
set_option maxHeartbeats 8000000 in
theorem samt_big {w : World} {lo hi g n : Nat} {cs : List Int} (h : SA w lo hi g 0 ((n : Int) :: cs)) (hhi : hi ≤ w.heap.size) (hn : 32 < n) (hn2 : n < 256) :
  Calls Try.prog 62 #[.pointer (some ⟨g, 0, none⟩)] w (Got w lo hi g (.agg #[.int .u64 0, .int .u64 0, .int .u64 0, .int .u64 0]) (4, [])) := by
 have hgh : g < hi := h.2.1
 have hA : Below w.heap.size w (w.alloc (.cells #[Value.int .u64 0, .int .u64 0, .int .u64 0, .int .u64 0] 31)) := (Below.refl _ _).alloc (Nat.le_refl _) _
 have hsz : (w.alloc (.cells #[Value.int .u64 0, .int .u64 0, .int .u64 0, .int .u64 0] 31)).heap.size = w.heap.size + 1 := by simp
 have r0 : Row (w.alloc (.cells #[Value.int .u64 0, .int .u64 0, .int .u64 0, .int .u64 0] 31)) w.heap.size 31 #[.int .u64 0, .int .u64 0, .int .u64 0, .int .u64 0] := Row.new_at rfl
 have hn3 : (32 : Int) < (n : Int) := by omega
 have hby := byte_at (h.below hA)
 rw [show byO 0 ((n : Int) :: cs) = (n : Int) from by unfold byO tkO; simp, show tkE 1 0 ((n : Int) :: cs) = 0 from by unfold tkE; simp, show tkR 1 0 ((n : Int) :: cs) = cs from by unfold tkR; simp] at hby
 replace hby := Lib.hid hby
 have R0 := Lib.hid (show _ ∧ _ ∧ _ from ⟨hA, hsz, r0⟩)
 have wn : IntKind.i64.wrap (n : Int) = (n : Int) := by rw [IntKind.wrap_i64]; omega
 clear h hA hsz r0
 go_enter Try.func62, Try.ntmps62
 go_wp2_with fail
 refine hby.out.mono ?_
 rintro r w1 ⟨rfl, hs, ht⟩
 have ok := ok_at hs
 rw [decide_eq_true rfl] at ok
 replace ok := Lib.hid ok
 have r1 := K6.Row.tr R0.out.2.2 ht (by omega)
 have hsw : w.heap.size < w1.heap.size := Nat.lt_of_lt_of_le (by rw [R0.out.2.1]; omega) ht.size
 replace ht : Tr (fun b => b = g) w w1 := (Tr.of R0.out.1 : Tr (fun b => b = g) w _).trans ht
 have HS := Lib.hid (show _ ∧ _ ∧ _ from ⟨hs, ht, r1⟩)
 clear hby hs ht r1 R0
 go_wp2_with fail
 refine ok.out.mono ?_
 rintro r w2 ⟨rfl, rfl⟩
 clear ok
 go_upto_region 5 with (fail)
 obtain ⟨hs, ht, r1⟩ := HS.out
 clear HS
 have hB0 : ∀ x, Below w2.heap.size w2 (w2.alloc x) := fun x => (Below.refl _ _).alloc (Nat.le_refl _) _
 refine wp_abs (fun wx => SA wx lo hi g 0 (cs) ∧ Tr (fun b => b = g) w wx ∧ Row wx w.heap.size 31 #[.int .u64 0, .int .u64 0, .int .u64 0, .int .u64 0] ∧ Row wx w2.heap.size 34 zr32) ⟨hs.below (hB0 _), ht.trans (Tr.of (hB0 _)), r1.below (hB0 _) r1.lt, ?_⟩ ?_
 ·refine Row.new_at ?_; simp
 rintro w5 ⟨hs5, ht5, r0, rT⟩
 have hh5 : hi ≤ w5.heap.size := Nat.le_trans hhi ht5.size
 clear hB0 hs ht r1
 have fl := Lib.hid (fail_at 4 hs5)
 have HS := Lib.hid (show _ ∧ _ from ⟨ht5, r0⟩)
 clear hs5 ht5 r0 rT
 go_wp2_with fail
 refine fl.out.mono ?_
 rintro r w3 ⟨⟨u, rfl⟩, hs, ht3⟩
 replace hs : SA w3 lo hi g 4 [] := by simpa using hs
 have r0 := K6.Row.tr HS.out.2 ht3 (by omega)
 have ht : Tr (fun b => b = g) w w3 := HS.out.1.trans ht3
 clear HS fl ht3
 go_upto_region 7 with (fail)
 let L : List Sp := [sO 1 (w.heap.size) 31 [0] (fun g => aggOf g 0)]
 refine wp_region_six0 (shs L) (look6 L) (fun c => c = w.heap.size) (by kernel_rfl) (by kernel_rfl) (mk_St L [1] [1] (by kernel_rfl) (by kernel_rfl) ⟨ok_O aggOf_congr r0.lt (rfl), trivial⟩ (by simp)) ?_
 intro QQ hQ
 refine stepK rfl (by kernel_rfl) (fun K hK => ?_); go_simp
 apply Exists.intro; apply And.intro; (focus (intro wk hk; go_simp; exact ⟨rfl, rfl⟩)); refine hK _ _ ?_; clear hK K
 refine stepS _ rfl (by kernel_rfl) (fun K hK => ?_); go_simp
 refine ⟨?_, ?_⟩
 ·exact sStoreO rfl rfl rfl rfl rfl rfl r0 id (by kernel_rfl) rfl (by kernel_rfl) (by decide) aggOf_congr
 rintro ⟨v1, lo1, hi1⟩ - - (rfl : v1 = undef)
 refine hK _ _ ?_; clear hK K
 refine stepN ?_
 refine hQ _ _ ?_
 intro w9 hT hG hF
 have x0 : Row w9 (w.heap.size) 31 (#[.int .u64 0, .int .u64 0, .int .u64 0, .int .u64 0]) := hF 1 _ rfl rfl (by decide)
 have hs9 := hs.keep hT (fun b _ hb hc => by have hc' : b = w.heap.size := hc; omega)
 have ht9 := ht.trans_new hT (fun b hb hlt => by have hb' : b = w.heap.size := hb; omega)
 clear hT hG hF hQ QQ L
 go_wp2_with fail
 refine bodyPost_ret (results_c rfl aggT31 rfl x0 rfl) rfl ?_
 exact ⟨rfl, hs9, ht9⟩
set_option maxRecDepth 100000 in
set_option maxHeartbeats 8000000 in
theorem samt_lead {w : World} {lo hi g n : Nat} {ds : List Int} (h : SA w lo hi g 0 ((n : Int) :: 0 :: ds)) (hhi : hi ≤ w.heap.size) (hn : n ≤ 32) (h0 : 0 < n) :
  Calls Try.prog 62 #[.pointer (some ⟨g, 0, none⟩)] w (Got w lo hi g (.agg #[.int .u64 0, .int .u64 0, .int .u64 0, .int .u64 0]) (4, [])) := by
 have hgh : g < hi := h.2.1
 have hA : Below w.heap.size w (w.alloc (.cells #[Value.int .u64 0, .int .u64 0, .int .u64 0, .int .u64 0] 31)) := (Below.refl _ _).alloc (Nat.le_refl _) _
 have hsz : (w.alloc (.cells #[Value.int .u64 0, .int .u64 0, .int .u64 0, .int .u64 0] 31)).heap.size = w.heap.size + 1 := by simp
 have r0 : Row (w.alloc (.cells #[Value.int .u64 0, .int .u64 0, .int .u64 0, .int .u64 0] 31)) w.heap.size 31 #[.int .u64 0, .int .u64 0, .int .u64 0, .int .u64 0] := Row.new_at rfl
 have hn3 : (n : Int) ≤ 32 := by omega
 have hn4 : (0 : Int) < (n : Int) := by omega
 have hby := byte_at (h.below hA)
 rw [show byO 0 ((n : Int) :: 0 :: ds) = (n : Int) from by unfold byO tkO; simp, show tkE 1 0 ((n : Int) :: 0 :: ds) = 0 from by unfold tkE; simp, show tkR 1 0 ((n : Int) :: 0 :: ds) = 0 :: ds from by unfold tkR; simp] at hby
 replace hby := Lib.hid hby
 have R0 := Lib.hid (show _ ∧ _ ∧ _ from ⟨hA, hsz, r0⟩)
 have wn : IntKind.i64.wrap (n : Int) = (n : Int) := by rw [IntKind.wrap_i64]; omega
 clear h hA hsz r0
 go_enter Try.func62, Try.ntmps62
 go_wp2_with fail
 refine hby.out.mono ?_
 rintro r w1 ⟨rfl, hs, ht⟩
 have ok := ok_at hs
 rw [decide_eq_true rfl] at ok
 replace ok := Lib.hid ok
 have r1 := K6.Row.tr R0.out.2.2 ht (by omega)
 have hsw : w.heap.size < w1.heap.size := Nat.lt_of_lt_of_le (by rw [R0.out.2.1]; omega) ht.size
 replace ht : Tr (fun b => b = g) w w1 := (Tr.of R0.out.1 : Tr (fun b => b = g) w _).trans ht
 have HS := Lib.hid (show _ ∧ _ ∧ _ from ⟨hs, ht, r1⟩)
 clear hby hs ht r1 R0
 go_wp2_with fail
 refine ok.out.mono ?_
 rintro r w2 ⟨rfl, rfl⟩
 clear ok
 go_upto_region 5 with (fail)
 obtain ⟨hs, ht, r1⟩ := HS.out
 clear HS
 have hB0 : ∀ x, Below w2.heap.size w2 (w2.alloc x) := fun x => (Below.refl _ _).alloc (Nat.le_refl _) _
 refine wp_abs (fun wx => SA wx lo hi g 0 (0 :: ds) ∧ Tr (fun b => b = g) w wx ∧ Row wx w.heap.size 31 #[.int .u64 0, .int .u64 0, .int .u64 0, .int .u64 0] ∧ Row wx w2.heap.size 34 zr32) ⟨hs.below (hB0 _), ht.trans (Tr.of (hB0 _)), r1.below (hB0 _) r1.lt, ?_⟩ ?_
 ·refine Row.new_at ?_; simp
 rintro w5 ⟨hs5, ht5, r0, rT⟩
 have hh5 : hi ≤ w5.heap.size := Nat.le_trans hhi ht5.size
 clear hB0 hs ht r1
 have fl := Lib.hid (fail_at 4 hs5)
 have HS := Lib.hid (show _ ∧ _ from ⟨ht5, r0⟩)
 obtain ⟨-, -, -, -, -, v, hr, hv⟩ := id hs5
 rcases hv with ⟨-, hv⟩ | ⟨b, o, cp, -, -, -, rfl, hcp, hcell⟩
 ·cases hv
 have c0 : w5.cell? ⟨g, 0, none⟩ = some (.slice (some ⟨b, o, none⟩) (ds.length + 1) cp) := hr.cell 0
 have c1 : w5.cell? ⟨b, o, none⟩ = some (.int .u8 0) := hcell 0 _ rfl
 have hpos : (0 : Int) < ((ds.length + 1 : Nat) : Int) := by omega
 clear hr hcell hcp
 clear hs5 ht5 r0 rT
 go_wp2_with fail
 refine fl.out.mono ?_
 rintro r w3 ⟨⟨u, rfl⟩, hs, ht3⟩
 replace hs : SA w3 lo hi g 4 [] := by simpa using hs
 have r0 := K6.Row.tr HS.out.2 ht3 (by omega)
 have ht : Tr (fun b => b = g) w w3 := HS.out.1.trans ht3
 clear HS fl ht3 c0 c1 hpos
 go_upto_region 7 with (fail)
 let L : List Sp := [sO 1 (w.heap.size) 31 [0] (fun g => aggOf g 0)]
 refine wp_region_six0 (shs L) (look6 L) (fun c => c = w.heap.size) (by kernel_rfl) (by kernel_rfl) (mk_St L [1] [1] (by kernel_rfl) (by kernel_rfl) ⟨ok_O aggOf_congr r0.lt (rfl), trivial⟩ (by simp)) ?_
 intro QQ hQ
 refine stepK rfl (by kernel_rfl) (fun K hK => ?_); go_simp
 apply Exists.intro; apply And.intro; (focus (intro wk hk; go_simp; exact ⟨rfl, rfl⟩)); refine hK _ _ ?_; clear hK K
 refine stepS _ rfl (by kernel_rfl) (fun K hK => ?_); go_simp
 refine ⟨?_, ?_⟩
 ·exact sStoreO rfl rfl rfl rfl rfl rfl r0 id (by kernel_rfl) rfl (by kernel_rfl) (by decide) aggOf_congr
 rintro ⟨v1, lo1, hi1⟩ - - (rfl : v1 = undef)
 refine hK _ _ ?_; clear hK K
 refine stepN ?_
 refine hQ _ _ ?_
 intro w9 hT hG hF
 have x0 : Row w9 (w.heap.size) 31 (#[.int .u64 0, .int .u64 0, .int .u64 0, .int .u64 0]) := hF 1 _ rfl rfl (by decide)
 have hs9 := hs.keep hT (fun b _ hb hc => by have hc' : b = w.heap.size := hc; omega)
 have ht9 := ht.trans_new hT (fun b hb hlt => by have hb' : b = w.heap.size := hb; omega)
 clear hT hG hF hQ QQ L
 go_wp2_with fail
 refine bodyPost_ret (results_c rfl aggT31 rfl x0 rfl) rfl ?_
 exact ⟨rfl, hs9, ht9⟩
def padL (n : Nat) (E : Int) (O : List Int) : List Int := if E = 0 then List.replicate (32 - n) 0 ++ O else List.replicate 32 0
theorem zr32_bv : zr32 = (bv (List.replicate 32 0)).toArray := by kernel_rfl
theorem padL_len {n : Nat} {E : Int} {O : List Int} (hn : n ≤ 32) (h : E = 0 → O.length = n) : (padL n E O).length = 32 := by
 unfold padL
 split
 ·rename_i h0; rw [List.length_append, List.length_replicate, h h0]; omega
 ·rw [List.length_replicate]
theorem padL_by {n : Nat} {E : Int} {O : List Int} (h : By O) : By (padL n E O) := by
 have hz : ∀ k, By (List.replicate k 0) := fun k x hx => by rw [(List.mem_replicate.1 hx).2]; omega
 unfold padL
 split
 ·exact (hz _).app h
 ·exact hz _
theorem copy_pad {w : World} {T t n j c : Nat} {E : Int} {O : List Int} {u : Value} (hr : Row w T t zr32) (hu : Bs w u O) (hj : n = 0 ∨ j = 32 - n) (hn : n ≤ 32) (h0 : E = 0 → O.length = n) (h1 : E ≠ 0 → O = []) :
  ∃ v2 w', (Builtin.copy_ #[33, 33] 3 #[.slice (some ⟨T, j, none⟩) n c, u]).run Try.prog w = .ok v2 w' ∧ Row w' T t (bv (padL n E O)).toArray ∧ Tr (fun b => b = T) w w' := by
 by_cases hE : E = 0
 ·have hl := h0 hE
  by_cases hz : n = 0
  ·obtain rfl : O = [] := List.eq_nil_of_length_eq_zero (hl.trans hz)
   refine ⟨_, w, copy_none hu, ?_, Tr.refl _ _⟩
   unfold padL
   rw [if_pos hE, hz, List.append_nil, ← zr32_bv]
   exact hr
  ·have hj := hj.resolve_left hz
   obtain ⟨w', hrun, hrow, ht⟩ := copy_run (ty := 3) (c := c) (o := j) hr hu hl (by show j + n ≤ 32; omega)
   refine ⟨_, w', hrun, ?_, ht⟩
   rw [zr32_copy (by omega)] at hrow
   unfold padL
   rw [if_pos hE, ← hj]
   exact hrow
 ·obtain rfl := h1 hE
  refine ⟨_, w, copy_none hu, ?_, Tr.refl _ _⟩
  unfold padL
  rw [if_neg hE, ← zr32_bv]
  exact hr
theorem sUpon_copy {P : Program} {V : Value → World → Prop} {o : Oper} {a : Act} {x y : Operand} {t t' : TypeId} {v u v2 : Value} {w w2 : World} (ho : o.op = .call { callee := .builtin .copy, args := #[x, y], argTypes := #[t, t'] }) (hx : a.eval x = v) (hy : a.eval y = u)
  (hrun : (Builtin.copy_ #[t, t'] o.type #[v, u]).run P w = .ok v2 w2) (h : sUpon P V (.ok (.value v2) w2)) : sUpon P V ((execOp a.eval o).run P w) := by
 rw [run_copy_op ho hx hy hrun]; exact h
theorem bv_one (l : List Int) : (bv l).toArray.all (·.oneCell') = true := by
 rw [Array.all_eq_true]
 intro i hi
 simp [bv, Value.oneCell']
theorem take_lets {n : Nat} {E : Int} {cs O R : List Int} (hE : tkE n 0 cs = E) (hO : tkO n 0 cs = O) (hR : tkR n 0 cs = R) {w : World} {lo hi g : Nat} (h : SA w lo hi g 0 cs) :
  Calls Try.prog 177 #[.pointer (some ⟨g, 0, none⟩), .int .i64 (n : Int)] w fun r w' => ∃ u, r = .returned u ∧ (Bs w' u O ∧ (∀ b, u.ownBlock = some b → lo ≤ b ∧ b < hi ∧ b ≠ g) ∧ SA w' lo hi g E R) ∧ Tr (fun b => b = g) w w' := by
 refine (take_at n h).mono ?_
 rintro r w' ⟨u, rfl, h1, h2, h3, h4⟩
 rw [hO] at h1
 rw [hE, hR] at h3
 exact ⟨u, rfl, ⟨h1, h2, h3⟩, h4⟩
def TkF (lo hi g : Nat) (E : Int) (O R : List Int) (u : Value) (w : World) : Prop := Bs w u O ∧ (∀ b, u.ownBlock = some b → lo ≤ b ∧ b < hi ∧ b ≠ g) ∧ SA w lo hi g E R
theorem TkF.loc {lo hi g : Nat} {E : Int} {O R : List Int} (u : Value) (w w' : World) (h : TkF lo hi g E O R u w) (hT : Tr (fun b => ¬ (lo ≤ b ∧ b < hi)) w w') : TkF lo hi g E O R u w' :=
 ⟨h.1.keep hT fun b hb hn => hn ⟨(h.2.1 b hb).1, (h.2.1 b hb).2.1⟩, h.2.1, h.2.2.keep hT fun _ h1 h2 hn => hn ⟨h1, h2⟩⟩
theorem Row.loc {T t : Nat} {cs : Array Value} (w w' : World) (h : Row w T t cs) (hT : Tr (fun b => ¬ b = T) w w') : Row w' T t cs := K6.Row.tr h hT fun hn => hn rfl
set_option maxRecDepth 100000 in
set_option maxHeartbeats 8000000 in
theorem samt_z {w : World} {lo hi g : Nat} {cs : List Int} (h : SA w lo hi g 0 (((0 : Nat) : Int) :: cs)) (hhi : hi ≤ w.heap.size)  :
  Calls Try.prog 62 #[.pointer (some ⟨g, 0, none⟩)] w (Got w lo hi g (.agg (W4 0)) (0, cs)) := by
 have hgh : g < hi := h.2.1
 have hA : Below w.heap.size w (w.alloc (.cells #[Value.int .u64 0, .int .u64 0, .int .u64 0, .int .u64 0] 31)) := (Below.refl _ _).alloc (Nat.le_refl _) _
 have hsz : (w.alloc (.cells #[Value.int .u64 0, .int .u64 0, .int .u64 0, .int .u64 0] 31)).heap.size = w.heap.size + 1 := by simp
 have r0 : Row (w.alloc (.cells #[Value.int .u64 0, .int .u64 0, .int .u64 0, .int .u64 0] 31)) w.heap.size 31 #[.int .u64 0, .int .u64 0, .int .u64 0, .int .u64 0] := Row.new_at rfl
 obtain ⟨n, hn0⟩ : ∃ n : Nat, 0 = n := ⟨_, rfl⟩
 rw [hn0] at h
 have hn : n ≤ 32 := by omega
 have hn3 : (n : Int) ≤ 32 := by omega
 have hby0 : By (cs) := fun x hx => h.2.2.2.1 x (List.mem_cons_of_mem _ hx)
 obtain ⟨E, hE⟩ : ∃ E : Int, E = 0 := ⟨_, rfl⟩
 obtain ⟨O, hO⟩ : ∃ O : List Int, O = [] := ⟨_, rfl⟩
 obtain ⟨R, hR⟩ : ∃ R : List Int, R = cs := ⟨_, rfl⟩
 have tk := Lib.hid (fun wk (hk : SA wk lo hi g 0 (cs)) => take_lets (n := n) (E := E) (O := O) (R := R) (by rw [hE]; unfold tkE; subst hn0; simp) (by rw [hO]; unfold tkO; subst hn0; simp) (by rw [hR]; unfold tkR; subst hn0; simp) hk)
 have hOby : By O := by rw [hO]; exact By.nil
 have hOl : E = 0 → O.length = n := by intro _; rw [hO]; exact hn0
 have hOn : E ≠ 0 → O = [] := by intro hc; exact absurd hE hc
 have ej : (32 : Int) - (n : Int) = 32 := by omega
 have hnz : n = 0 := hn0.symm
 have w32 : IntKind.i64.wrap 32 = 32 := by rw [IntKind.wrap_i64]; decide
 have cpy := Lib.hid (show ∀ (w2X : Nat) (wk : World) (u : Value), Row wk w2X 34 zr32 → Bs wk u O → ∃ v2 w', (Builtin.copy_ #[33, 33] 3 #[.slice (some ⟨w2X, 0, none⟩) 0 0, u]).run Try.prog wk = .ok v2 w' ∧ Row w' w2X 34 (bv (padL n E O)).toArray ∧ Tr (fun b => b = w2X) wk w' from fun w2X wk u hr hu => by subst hn0; exact copy_pad (j := 0) (c := 0) hr hu (.inl rfl) hn hOl hOn)
 have hLl := Lib.hid (padL_len (E := E) (O := O) hn hOl)
 have hLb := Lib.hid (padL_by (n := n) (E := E) hOby)
 have HE := Lib.hid (show _ ∧ _ ∧ _ from ⟨hE, hO, hR⟩)
 clear hOby hOl hOn hby0 hE hO hR hn0 hnz
 have hby := byte_at (h.below hA)
 rw [show byO 0 ((n : Int) :: cs) = (n : Int) from by unfold byO tkO; simp, show tkE 1 0 ((n : Int) :: cs) = 0 from by unfold tkE; simp, show tkR 1 0 ((n : Int) :: cs) = cs from by unfold tkR; simp] at hby
 replace hby := Lib.hid hby
 have R0 := Lib.hid (show _ ∧ _ ∧ _ from ⟨hA, hsz, r0⟩)
 have wn : IntKind.i64.wrap (n : Int) = (n : Int) := by rw [IntKind.wrap_i64]; omega
 clear h hA hsz r0
 go_enter Try.func62, Try.ntmps62
 go_wp2_with fail
 refine hby.out.mono ?_
 rintro r w1 ⟨rfl, hs, ht⟩
 have ok := ok_at hs
 rw [decide_eq_true rfl] at ok
 replace ok := Lib.hid ok
 have r1 := K6.Row.tr R0.out.2.2 ht (by omega)
 have hsw : w.heap.size < w1.heap.size := Nat.lt_of_lt_of_le (by rw [R0.out.2.1]; omega) ht.size
 replace ht : Tr (fun b => b = g) w w1 := (Tr.of R0.out.1 : Tr (fun b => b = g) w _).trans ht
 have HS := Lib.hid (show _ ∧ _ ∧ _ from ⟨hs, ht, r1⟩)
 clear hby hs ht r1 R0
 go_wp2_with fail
 refine ok.out.mono ?_
 rintro r w2 ⟨rfl, rfl⟩
 clear ok
 go_upto_region 5 with (fail)
 obtain ⟨hs, ht, r1⟩ := HS.out
 clear HS
 have hB0 : ∀ x, Below w2.heap.size w2 (w2.alloc x) := fun x => (Below.refl _ _).alloc (Nat.le_refl _) _
 refine wp_abs (fun wx => SA wx lo hi g 0 (cs) ∧ Tr (fun b => b = g) w wx ∧ Row wx w.heap.size 31 #[.int .u64 0, .int .u64 0, .int .u64 0, .int .u64 0] ∧ Row wx w2.heap.size 34 zr32) ⟨hs.below (hB0 _), ht.trans (Tr.of (hB0 _)), r1.below (hB0 _) r1.lt, ?_⟩ ?_
 ·refine Row.new_at ?_; simp
 rintro w5 ⟨hs5, ht5, r0, rT⟩
 have hh5 : hi ≤ w5.heap.size := Nat.le_trans hhi ht5.size
 clear hB0 hs ht r1
 replace cpy := Lib.hid (cpy.out w2.heap.size)
 go_upto_region 8 with (fail)
 let L : List Sp := [sW 5 [] [] [] g (fun b => lo ≤ b ∧ b < hi) (fun _ => True) (TkF lo hi g E O R), sW 6 [5] [5] [] (w2.heap.size) (fun b => b = w2.heap.size) (fun _ => True) (fun _ wz => Row wz (w2.heap.size) 34 (bv (padL n E O)).toArray)]
 refine wp_region_six (shs L) (look6 L) (fun c => c = g ∨ c = w2.heap.size) (by kernel_rfl) (by kernel_rfl) (mk_St L [5, 6] [5, 6] (by kernel_rfl) (by kernel_rfl) ⟨ok_W ⟨undef, trivial⟩ TkF.loc hs5.lt (.inl rfl) (fun b hb => Nat.lt_of_lt_of_le hb.2 hh5), ok_W ⟨undef, trivial⟩ (fun _ => Row.loc) rT.lt (.inr rfl) (fun b hb => hb ▸ rT.lt), trivial⟩ (by intro i hi j hj hne b hb hx; simp only [List.mem_cons, List.not_mem_nil, or_false] at hi hj; rcases hi with rfl | rfl <;> rcases hj with rfl | rfl <;> first | exact absurd rfl hne | (have hb1 : lo ≤ b ∧ b < hi := hb; have hx1 : b = w2.heap.size := hx; omega) | (have hb1 : b = w2.heap.size := hb; have hx1 : b = g := hx; omega))) ?_
 intro QQ hQ
 iterate 3 (refine stepKz rfl (fun K hK => ?_); go_simp; apply Exists.intro; apply And.intro; (focus (intro wk hk; go_simp; exact ⟨rfl, rfl⟩)); refine hK _ _ ?_; clear hK K)
 iterate 2 (refine stepK rfl (by kernel_rfl) (fun K hK => ?_); go_simp; apply Exists.intro; apply And.intro; (focus (intro wk hk; go_simp; exact ⟨rfl, rfl⟩)); refine hK _ _ ?_; clear hK K)
 refine stepS _ rfl (by kernel_rfl) (fun K hK => ?_); go_simp
 refine ⟨?_, ?_⟩
 ·intro wk hk hg hu; go_simp; refine upon_enter ((tk.out _ (hs5.below hk.undrew.below)).mono ?_); rintro e w' ⟨u, rfl, hf, ht⟩; exact ⟨_, rfl, left_W rfl rfl trivial ht hf⟩
 rintro ⟨v5, lo5, hi5⟩ - - -
 refine hK _ _ ?_; clear hK K
 refine stepSx _ [5] (fun c => c = g) rfl (by kernel_rfl) (by intro i hi b hb; simp only [List.mem_cons, List.not_mem_nil, or_false] at hi; subst hi; exact hb) (fun K hK => ?_); go_simp
 refine ⟨?_, ?_⟩
 ·intro wk hk hg hu; have u5 : TkF lo hi g E O R v5 wk := hu 5 (show 5 ∈ [5] by decide); have rTk : Row wk (w2.heap.size) 34 zr32 := K6.Row.tr rT hk.undrew (by intro hc; have hc' : w2.heap.size = g := hc; omega); obtain ⟨vv, w', hrun, hrow, htr⟩ := cpy.out wk v5 rTk u5.1; refine sUpon_copy rfl rfl rfl hrun ?_; exact left_W rfl rfl trivial htr hrow
 rintro ⟨v6, lo6, hi6⟩ - - -
 refine hK _ _ ?_; clear hK K
 refine stepN ?_
 refine hQ _ _ ?_
 intro w6 hT hG hF
 have hT' := hT.undrew
 have u5 : TkF lo hi g E O R v5 w6 := hF 5 _ rfl rfl (by decide)
 have rL : Row w6 (w2.heap.size) 34 (bv (padL n E O)).toArray := hF 6 _ rfl rfl (by decide)
 have hs := u5.2.2
 have r0' := K6.Row.tr r0 hT' (by rintro (hc | hc) <;> omega)
 have ht : Tr (fun b => b = g) w w6 := ht5.trans_new hT' (fun b hb hlt => by rcases hb with hb | hb <;> omega)
 clear hT hT' hG hF hQ QQ L u5 tk cpy ht5 hs5 rT r0
 have r0 := r0'
 clear r0'
 obtain ⟨rfl, rfl, rfl⟩ := HE.out
 have ok := ok_at hs
 rw [decide_eq_true rfl] at ok
 replace ok := Lib.hid ok
 have hval := beV_zeros (32 - n) []
 obtain ⟨Lb, hLb2⟩ : ∃ Lb, padL n 0 ([]) = Lb := ⟨_, rfl⟩
 rw [hLb2] at rL hLl hLb
 replace hval : beV Lb = beV ([]) := by rw [← hLb2]; unfold padL; rw [if_pos rfl]; exact hval
 obtain ⟨V, hV⟩ : ∃ V, beV Lb = V := ⟨_, rfl⟩
 have k81 := Lib.hid (fun wk (hr : Row wk w2.heap.size 34 (bv Lb).toArray) => from32 (c := 32) hLl.out hLb.out hr)
 rw [hV] at k81 hval
 have HV := Lib.hid hval
 have HS := Lib.hid (show _ ∧ _ ∧ _ ∧ _ from ⟨hs, ht, r0, rL⟩)
 clear hs ht r0 HE hLl hLb rL hval hV hLb2
 go_wp2_with fail
 refine ok.out.mono ?_
 rintro r w7 ⟨rfl, rfl⟩
 clear ok
 obtain ⟨hs, ht, r0, rL⟩ := HS.out
 clear HS
 go_upto_region 11 with (fail)
 let L : List Sp := [sV 1 [] [] (fun u => u = .tuple #[.agg (W4 V), .bool true]), sA 5 31 [6] #[.int .u64 0, .int .u64 0, .int .u64 0, .int .u64 0], sT 6 5 31 [3] (fun g => aggOf g 3)]
 refine wp_region_six0 (shs L) (look6 L) (None_) (by kernel_rfl) (by kernel_rfl) (mk_St L [] [] (by kernel_rfl) (by kernel_rfl) ⟨ok_V ⟨_, rfl⟩, ok_A, ok_T aggOf_congr, trivial⟩ (by simp)) ?_
 intro QQ hQ
 refine stepK rfl (by kernel_rfl) (fun K hK => ?_); go_simp
 apply Exists.intro; apply And.intro; (focus (intro wk hk; go_simp; exact ⟨rfl, rfl⟩)); refine hK _ _ ?_; clear hK K
 refine stepS _ rfl (by kernel_rfl) (fun K hK => ?_); go_simp
 refine ⟨?_, ?_⟩
 ·intro wk hk hg hu; go_simp; refine upon_enter ((k81.out _ (K6.Row.tr rL hk id)).mono ?_); rintro e w' ⟨rfl, hb⟩; exact ⟨_, rfl, left_V (p := fun u => u = .tuple #[.agg (W4 V), .bool true]) rfl (hb) rfl⟩
 rintro ⟨v1, lo1, hi1⟩ - - (rfl : v1 = _)
 refine hK _ _ ?_; clear hK K
 iterate 3 (refine stepK rfl (by kernel_rfl) (fun K hK => ?_); go_simp; apply Exists.intro; apply And.intro; (focus (intro wk hk; go_simp; exact ⟨rfl, rfl⟩)); refine hK _ _ ?_; clear hK K)
 refine stepS _ rfl (by kernel_rfl) (fun K hK => ?_); go_simp
 refine ⟨?_, ?_⟩
 ·intro wk hk hg hu; go_simp; exact left_A rfl rfl
 rintro ⟨v5, lo5, hi5⟩ hlo5 hhi5 ⟨e5, f5⟩
 replace e5 : v5 = .pointer (some ⟨lo5, 0, none⟩) := e5; replace f5 : hi5 = lo5 + 1 := f5; replace hlo5 : _ ≤ lo5 := hlo5; subst e5; subst f5
 refine hK _ _ ?_; clear hK K
 refine stepS _ rfl (by kernel_rfl) (fun K hK => ?_); go_simp
 refine ⟨?_, ?_⟩
 ·exact sStoreT rfl rfl rfl rfl rfl rfl rfl (by kernel_rfl) rfl (by kernel_rfl) (by decide) aggOf_congr
 rintro ⟨v6, lo6, hi6⟩ - - (rfl : v6 = undef)
 refine hK _ _ ?_; clear hK K
 refine stepK rfl (by kernel_rfl) (fun K hK => ?_); go_simp
 apply Exists.intro; apply And.intro; (focus (intro wk hk; go_simp; exact ⟨rfl, rfl⟩)); refine hK _ _ ?_; clear hK K
 refine stepN ?_
 refine hQ _ _ ?_
 intro w8 hT hG hF
 have hb8 := hT.below
 have r5 : Row w8 lo5 31 (W4 V) := (hF 6 _ rfl rfl (by decide)).2
 have h05 : w.heap.size < lo5 := Nat.lt_of_lt_of_le r0.lt hlo5
 replace r0 := r0.below hb8 r0.lt
 replace hs := hs.below hb8
 replace ht := ht.trans (Tr.of hb8)
 clear hT hG hF hb8 hQ QQ L hlo5 hhi5 k81 rL
 go_upto_region 12 with (fail)
 let L : List Sp := [sO 1 (w.heap.size) 31 [0] (fun g => aggOf g 0)]
 refine wp_region_six0 (shs L) (look6 L) (fun c => c = w.heap.size) (by kernel_rfl) (by kernel_rfl) (mk_St L [1] [1] (by kernel_rfl) (by kernel_rfl) ⟨ok_O aggOf_congr r0.lt (rfl), trivial⟩ (by simp)) ?_
 intro QQ hQ
 refine stepK rfl (by kernel_rfl) (fun K hK => ?_); go_simp
 apply Exists.intro; apply And.intro; (focus exact kLoad rfl rfl aggT31 r5 rfl id); refine hK _ _ ?_; clear hK K
 refine stepS _ rfl (by kernel_rfl) (fun K hK => ?_); go_simp
 refine ⟨?_, ?_⟩
 ·exact sStoreO rfl rfl rfl rfl rfl rfl r0 id (by kernel_rfl) rfl (by kernel_rfl) (by decide) aggOf_congr
 rintro ⟨v1, lo1, hi1⟩ - - (rfl : v1 = undef)
 refine hK _ _ ?_; clear hK K
 refine stepN ?_
 refine hQ _ _ ?_
 intro w9 hT hG hF
 have x0 : Row w9 (w.heap.size) 31 (W4 V) := hF 1 _ rfl rfl (by decide)
 have hs9 := hs.keep hT (fun b _ hb hc => by have hc' : b = w.heap.size := hc; omega)
 have ht9 := ht.trans_new hT (fun b hb hlt => by have hb' : b = w.heap.size := hb; omega)
 clear hT hG hF hQ QQ L
 go_wp2_with fail
 refine bodyPost_ret (results_c rfl aggT31 rfl x0 rfl) rfl ?_
 exact ⟨by rw [HV.out]; rfl, hs9, ht9⟩
set_option maxRecDepth 100000 in
set_option maxHeartbeats 8000000 in
theorem samt_e {w : World} {lo hi g n : Nat} (h : SA w lo hi g 0 ((n : Int) :: [])) (hhi : hi ≤ w.heap.size) (hn : n ≤ 32) (h0 : 0 < n) :
  Calls Try.prog 62 #[.pointer (some ⟨g, 0, none⟩)] w (Got w lo hi g (.agg #[.int .u64 0, .int .u64 0, .int .u64 0, .int .u64 0]) (3, [])) := by
 have hgh : g < hi := h.2.1
 have hA : Below w.heap.size w (w.alloc (.cells #[Value.int .u64 0, .int .u64 0, .int .u64 0, .int .u64 0] 31)) := (Below.refl _ _).alloc (Nat.le_refl _) _
 have hsz : (w.alloc (.cells #[Value.int .u64 0, .int .u64 0, .int .u64 0, .int .u64 0] 31)).heap.size = w.heap.size + 1 := by simp
 have r0 : Row (w.alloc (.cells #[Value.int .u64 0, .int .u64 0, .int .u64 0, .int .u64 0] 31)) w.heap.size 31 #[.int .u64 0, .int .u64 0, .int .u64 0, .int .u64 0] := Row.new_at rfl
 have hn3 : (n : Int) ≤ 32 := by omega
 have hn4 : (0 : Int) < (n : Int) := by omega
 have hby0 : By ([]) := fun x hx => h.2.2.2.1 x (List.mem_cons_of_mem _ hx)
 obtain ⟨E, hE⟩ : ∃ E : Int, E = 3 := ⟨_, rfl⟩
 obtain ⟨O, hO⟩ : ∃ O : List Int, O = [] := ⟨_, rfl⟩
 obtain ⟨R, hR⟩ : ∃ R : List Int, R = [] := ⟨_, rfl⟩
 have tk := Lib.hid (fun wk (hk : SA wk lo hi g 0 ([])) => take_lets (n := n) (E := E) (O := O) (R := R) (by rw [hE]; unfold tkE; rw [if_pos rfl, if_neg (by simp; omega)]) (by rw [hO]; unfold tkO; rw [if_pos rfl, if_neg (by simp; omega)]) (by rw [hR]; unfold tkR; rw [if_pos rfl, if_neg (by simp; omega)]) hk)
 have hOby : By O := by rw [hO]; exact By.nil
 have hOl : E = 0 → O.length = n := by intro hc; omega
 have hOn : E ≠ 0 → O = [] := by intro _; exact hO
 obtain ⟨j, hj⟩ : ∃ j, 32 - n = j := ⟨_, rfl⟩
 have ej : (32 : Int) - (n : Int) = (j : Int) := by omega
 have ej2 : 32 - j = n := by omega
 have wj : IntKind.i64.wrap (j : Int) = (j : Int) := by rw [IntKind.wrap_i64]; omega
 have hj35 : (j : Int) ≤ 32 := by omega
 have hj34 : ¬ 32 = j := by omega
 have cpy := Lib.hid (fun (w2X : Nat) wk u (hr : Row wk w2X 34 zr32) (hu : Bs wk u O) => copy_pad (j := j) (c := n) hr hu (by exact .inr hj.symm) hn hOl hOn)
 have hLl := Lib.hid (padL_len (E := E) (O := O) hn hOl)
 have hLb := Lib.hid (padL_by (n := n) (E := E) hOby)
 have HE := Lib.hid (show _ ∧ _ ∧ _ from ⟨hE, hO, hR⟩)
 clear hOby hOl hOn hby0 hE hO hR
 have hby := byte_at (h.below hA)
 rw [show byO 0 ((n : Int) :: []) = (n : Int) from by unfold byO tkO; simp, show tkE 1 0 ((n : Int) :: []) = 0 from by unfold tkE; simp, show tkR 1 0 ((n : Int) :: []) = [] from by unfold tkR; simp] at hby
 replace hby := Lib.hid hby
 have R0 := Lib.hid (show _ ∧ _ ∧ _ from ⟨hA, hsz, r0⟩)
 have wn : IntKind.i64.wrap (n : Int) = (n : Int) := by rw [IntKind.wrap_i64]; omega
 clear h hA hsz r0
 go_enter Try.func62, Try.ntmps62
 go_wp2_with fail
 refine hby.out.mono ?_
 rintro r w1 ⟨rfl, hs, ht⟩
 have ok := ok_at hs
 rw [decide_eq_true rfl] at ok
 replace ok := Lib.hid ok
 have r1 := K6.Row.tr R0.out.2.2 ht (by omega)
 have hsw : w.heap.size < w1.heap.size := Nat.lt_of_lt_of_le (by rw [R0.out.2.1]; omega) ht.size
 replace ht : Tr (fun b => b = g) w w1 := (Tr.of R0.out.1 : Tr (fun b => b = g) w _).trans ht
 have HS := Lib.hid (show _ ∧ _ ∧ _ from ⟨hs, ht, r1⟩)
 clear hby hs ht r1 R0
 go_wp2_with fail
 refine ok.out.mono ?_
 rintro r w2 ⟨rfl, rfl⟩
 clear ok
 go_upto_region 5 with (fail)
 obtain ⟨hs, ht, r1⟩ := HS.out
 clear HS
 have hB0 : ∀ x, Below w2.heap.size w2 (w2.alloc x) := fun x => (Below.refl _ _).alloc (Nat.le_refl _) _
 refine wp_abs (fun wx => SA wx lo hi g 0 ([]) ∧ Tr (fun b => b = g) w wx ∧ Row wx w.heap.size 31 #[.int .u64 0, .int .u64 0, .int .u64 0, .int .u64 0] ∧ Row wx w2.heap.size 34 zr32) ⟨hs.below (hB0 _), ht.trans (Tr.of (hB0 _)), r1.below (hB0 _) r1.lt, ?_⟩ ?_
 ·refine Row.new_at ?_; simp
 rintro w5 ⟨hs5, ht5, r0, rT⟩
 have hh5 : hi ≤ w5.heap.size := Nat.le_trans hhi ht5.size
 clear hB0 hs ht r1
 replace cpy := Lib.hid (cpy.out w2.heap.size)
 obtain ⟨q0, cp, c0⟩ := hs5.len
 replace c0 := c0.resolve_right (fun hc => hc rfl)
 go_upto_region 8 with (fail)
 let L : List Sp := [sW 5 [] [] [] g (fun b => lo ≤ b ∧ b < hi) (fun _ => True) (TkF lo hi g E O R), sW 6 [5] [5] [] (w2.heap.size) (fun b => b = w2.heap.size) (fun _ => True) (fun _ wz => Row wz (w2.heap.size) 34 (bv (padL n E O)).toArray)]
 refine wp_region_six (shs L) (look6 L) (fun c => c = g ∨ c = w2.heap.size) (by kernel_rfl) (by kernel_rfl) (mk_St L [5, 6] [5, 6] (by kernel_rfl) (by kernel_rfl) ⟨ok_W ⟨undef, trivial⟩ TkF.loc hs5.lt (.inl rfl) (fun b hb => Nat.lt_of_lt_of_le hb.2 hh5), ok_W ⟨undef, trivial⟩ (fun _ => Row.loc) rT.lt (.inr rfl) (fun b hb => hb ▸ rT.lt), trivial⟩ (by intro i hi j hj hne b hb hx; simp only [List.mem_cons, List.not_mem_nil, or_false] at hi hj; rcases hi with rfl | rfl <;> rcases hj with rfl | rfl <;> first | exact absurd rfl hne | (have hb1 : lo ≤ b ∧ b < hi := hb; have hx1 : b = w2.heap.size := hx; omega) | (have hb1 : b = w2.heap.size := hb; have hx1 : b = g := hx; omega))) ?_
 intro QQ hQ
 iterate 3 (refine stepKz rfl (fun K hK => ?_); go_simp; apply Exists.intro; apply And.intro; (focus (intro wk hk; go_simp; exact ⟨rfl, rfl⟩)); refine hK _ _ ?_; clear hK K)
 iterate 2 (refine stepK rfl (by kernel_rfl) (fun K hK => ?_); go_simp; apply Exists.intro; apply And.intro; (focus (intro wk hk; go_simp; exact ⟨rfl, rfl⟩)); refine hK _ _ ?_; clear hK K)
 refine stepS _ rfl (by kernel_rfl) (fun K hK => ?_); go_simp
 refine ⟨?_, ?_⟩
 ·intro wk hk hg hu; go_simp; refine upon_enter ((tk.out _ (hs5.below hk.undrew.below)).mono ?_); rintro e w' ⟨u, rfl, hf, ht⟩; exact ⟨_, rfl, left_W rfl rfl trivial ht hf⟩
 rintro ⟨v5, lo5, hi5⟩ - - -
 refine hK _ _ ?_; clear hK K
 refine stepSx _ [5] (fun c => c = g) rfl (by kernel_rfl) (by intro i hi b hb; simp only [List.mem_cons, List.not_mem_nil, or_false] at hi; subst hi; exact hb) (fun K hK => ?_); go_simp
 refine ⟨?_, ?_⟩
 ·intro wk hk hg hu; have u5 : TkF lo hi g E O R v5 wk := hu 5 (show 5 ∈ [5] by decide); have rTk : Row wk (w2.heap.size) 34 zr32 := K6.Row.tr rT hk.undrew (by intro hc; have hc' : w2.heap.size = g := hc; omega); obtain ⟨vv, w', hrun, hrow, htr⟩ := cpy.out wk v5 rTk u5.1; refine sUpon_copy rfl rfl rfl hrun ?_; exact left_W rfl rfl trivial htr hrow
 rintro ⟨v6, lo6, hi6⟩ - - -
 refine hK _ _ ?_; clear hK K
 refine stepN ?_
 refine hQ _ _ ?_
 intro w6 hT hG hF
 have hT' := hT.undrew
 have u5 : TkF lo hi g E O R v5 w6 := hF 5 _ rfl rfl (by decide)
 have rL : Row w6 (w2.heap.size) 34 (bv (padL n E O)).toArray := hF 6 _ rfl rfl (by decide)
 have hs := u5.2.2
 have r0' := K6.Row.tr r0 hT' (by rintro (hc | hc) <;> omega)
 have ht : Tr (fun b => b = g) w w6 := ht5.trans_new hT' (fun b hb hlt => by rcases hb with hb | hb <;> omega)
 clear hT hT' hG hF hQ QQ L u5 tk cpy ht5 hs5 rT r0
 have r0 := r0'
 clear r0'
 clear c0
 obtain ⟨rfl, rfl, rfl⟩ := HE.out
 have ok := ok_at hs
 rw [decide_eq_false (by decide)] at ok
 replace ok := Lib.hid ok
 have HS := Lib.hid (show _ ∧ _ ∧ _ from ⟨hs, ht, r0⟩)
 clear hs ht r0 HE hLl hLb rL
 go_wp2_with fail
 refine ok.out.mono ?_
 rintro r w7 ⟨rfl, rfl⟩
 clear ok
 obtain ⟨hs, ht, r0⟩ := HS.out
 clear HS
 go_upto_region 10 with (fail)
 let L : List Sp := [sO 1 (w.heap.size) 31 [0] (fun g => aggOf g 0)]
 refine wp_region_six0 (shs L) (look6 L) (fun c => c = w.heap.size) (by kernel_rfl) (by kernel_rfl) (mk_St L [1] [1] (by kernel_rfl) (by kernel_rfl) ⟨ok_O aggOf_congr r0.lt (rfl), trivial⟩ (by simp)) ?_
 intro QQ hQ
 refine stepK rfl (by kernel_rfl) (fun K hK => ?_); go_simp
 apply Exists.intro; apply And.intro; (focus (intro wk hk; go_simp; exact ⟨rfl, rfl⟩)); refine hK _ _ ?_; clear hK K
 refine stepS _ rfl (by kernel_rfl) (fun K hK => ?_); go_simp
 refine ⟨?_, ?_⟩
 ·exact sStoreO rfl rfl rfl rfl rfl rfl r0 id (by kernel_rfl) rfl (by kernel_rfl) (by decide) aggOf_congr
 rintro ⟨v1, lo1, hi1⟩ - - (rfl : v1 = undef)
 refine hK _ _ ?_; clear hK K
 refine stepN ?_
 refine hQ _ _ ?_
 intro w9 hT hG hF
 have x0 : Row w9 (w.heap.size) 31 (#[.int .u64 0, .int .u64 0, .int .u64 0, .int .u64 0]) := hF 1 _ rfl rfl (by decide)
 have hs9 := hs.keep hT (fun b _ hb hc => by have hc' : b = w.heap.size := hc; omega)
 have ht9 := ht.trans_new hT (fun b hb hlt => by have hb' : b = w.heap.size := hb; omega)
 clear hT hG hF hQ QQ L
 go_wp2_with fail
 refine bodyPost_ret (results_c rfl aggT31 rfl x0 rfl) rfl ?_
 exact ⟨rfl, hs9, ht9⟩
set_option maxRecDepth 100000 in
set_option maxHeartbeats 8000000 in
theorem samt_f2 {w : World} {lo hi g n : Nat} {d : Int} {ds : List Int} (h : SA w lo hi g 0 ((n : Int) :: d :: ds)) (hhi : hi ≤ w.heap.size) (hn : n ≤ 32) (h0 : 0 < n) (hd : d ≠ 0) (hm : n ≤ (d :: ds).length) :
  Calls Try.prog 62 #[.pointer (some ⟨g, 0, none⟩)] w (Got w lo hi g (.agg (W4 (beV ((d :: ds).take n)))) (0, (d :: ds).drop n)) := by
 have hgh : g < hi := h.2.1
 have hA : Below w.heap.size w (w.alloc (.cells #[Value.int .u64 0, .int .u64 0, .int .u64 0, .int .u64 0] 31)) := (Below.refl _ _).alloc (Nat.le_refl _) _
 have hsz : (w.alloc (.cells #[Value.int .u64 0, .int .u64 0, .int .u64 0, .int .u64 0] 31)).heap.size = w.heap.size + 1 := by simp
 have r0 : Row (w.alloc (.cells #[Value.int .u64 0, .int .u64 0, .int .u64 0, .int .u64 0] 31)) w.heap.size 31 #[.int .u64 0, .int .u64 0, .int .u64 0, .int .u64 0] := Row.new_at rfl
 have hn3 : (n : Int) ≤ 32 := by omega
 have hn4 : (0 : Int) < (n : Int) := by omega
 have hdq : (d == 0) = false := by rw [beq_eq_false_iff_ne]; exact hd
 have hby0 : By (d :: ds) := fun x hx => h.2.2.2.1 x (List.mem_cons_of_mem _ hx)
 obtain ⟨E, hE⟩ : ∃ E : Int, E = 0 := ⟨_, rfl⟩
 obtain ⟨O, hO⟩ : ∃ O : List Int, O = (d :: ds).take n := ⟨_, rfl⟩
 obtain ⟨R, hR⟩ : ∃ R : List Int, R = (d :: ds).drop n := ⟨_, rfl⟩
 have tk := Lib.hid (fun wk (hk : SA wk lo hi g 0 (d :: ds)) => take_lets (n := n) (E := E) (O := O) (R := R) (by rw [hE]; unfold tkE; rw [if_pos rfl, if_pos hm]) (by rw [hO]; unfold tkO; rw [if_pos rfl, if_pos hm]) (by rw [hR]; unfold tkR; rw [if_pos rfl, if_pos hm]) hk)
 have hOby : By O := by rw [hO]; exact hby0.take _
 have hOl : E = 0 → O.length = n := by intro _; rw [hO, List.length_take]; omega
 have hOn : E ≠ 0 → O = [] := by intro hc; exact absurd hE hc
 obtain ⟨j, hj⟩ : ∃ j, 32 - n = j := ⟨_, rfl⟩
 have ej : (32 : Int) - (n : Int) = (j : Int) := by omega
 have ej2 : 32 - j = n := by omega
 have wj : IntKind.i64.wrap (j : Int) = (j : Int) := by rw [IntKind.wrap_i64]; omega
 have hj35 : (j : Int) ≤ 32 := by omega
 have hj34 : ¬ 32 = j := by omega
 have cpy := Lib.hid (fun (w2X : Nat) wk u (hr : Row wk w2X 34 zr32) (hu : Bs wk u O) => copy_pad (j := j) (c := n) hr hu (by exact .inr hj.symm) hn hOl hOn)
 have hLl := Lib.hid (padL_len (E := E) (O := O) hn hOl)
 have hLb := Lib.hid (padL_by (n := n) (E := E) hOby)
 have HE := Lib.hid (show _ ∧ _ ∧ _ from ⟨hE, hO, hR⟩)
 clear hOby hOl hOn hby0 hE hO hR hd hm
 have hby := byte_at (h.below hA)
 rw [show byO 0 ((n : Int) :: d :: ds) = (n : Int) from by unfold byO tkO; simp, show tkE 1 0 ((n : Int) :: d :: ds) = 0 from by unfold tkE; simp, show tkR 1 0 ((n : Int) :: d :: ds) = d :: ds from by unfold tkR; simp] at hby
 replace hby := Lib.hid hby
 have R0 := Lib.hid (show _ ∧ _ ∧ _ from ⟨hA, hsz, r0⟩)
 have wn : IntKind.i64.wrap (n : Int) = (n : Int) := by rw [IntKind.wrap_i64]; omega
 clear h hA hsz r0
 go_enter Try.func62, Try.ntmps62
 go_wp2_with fail
 refine hby.out.mono ?_
 rintro r w1 ⟨rfl, hs, ht⟩
 have ok := ok_at hs
 rw [decide_eq_true rfl] at ok
 replace ok := Lib.hid ok
 have r1 := K6.Row.tr R0.out.2.2 ht (by omega)
 have hsw : w.heap.size < w1.heap.size := Nat.lt_of_lt_of_le (by rw [R0.out.2.1]; omega) ht.size
 replace ht : Tr (fun b => b = g) w w1 := (Tr.of R0.out.1 : Tr (fun b => b = g) w _).trans ht
 have HS := Lib.hid (show _ ∧ _ ∧ _ from ⟨hs, ht, r1⟩)
 clear hby hs ht r1 R0
 go_wp2_with fail
 refine ok.out.mono ?_
 rintro r w2 ⟨rfl, rfl⟩
 clear ok
 go_upto_region 5 with (fail)
 obtain ⟨hs, ht, r1⟩ := HS.out
 clear HS
 have hB0 : ∀ x, Below w2.heap.size w2 (w2.alloc x) := fun x => (Below.refl _ _).alloc (Nat.le_refl _) _
 refine wp_abs (fun wx => SA wx lo hi g 0 (d :: ds) ∧ Tr (fun b => b = g) w wx ∧ Row wx w.heap.size 31 #[.int .u64 0, .int .u64 0, .int .u64 0, .int .u64 0] ∧ Row wx w2.heap.size 34 zr32) ⟨hs.below (hB0 _), ht.trans (Tr.of (hB0 _)), r1.below (hB0 _) r1.lt, ?_⟩ ?_
 ·refine Row.new_at ?_; simp
 rintro w5 ⟨hs5, ht5, r0, rT⟩
 have hh5 : hi ≤ w5.heap.size := Nat.le_trans hhi ht5.size
 clear hB0 hs ht r1
 replace cpy := Lib.hid (cpy.out w2.heap.size)
 obtain ⟨-, -, -, -, -, v, hr, hv⟩ := id hs5
 rcases hv with ⟨-, hv⟩ | ⟨b, o, cp, -, -, -, rfl, hcp, hcell⟩
 ·cases hv
 have c0 : w5.cell? ⟨g, 0, none⟩ = some (.slice (some ⟨b, o, none⟩) (ds.length + 1) cp) := hr.cell 0
 have c1 : w5.cell? ⟨b, o, none⟩ = some (.int .u8 d) := hcell 0 _ rfl
 have hpos : (0 : Int) < ((ds.length + 1 : Nat) : Int) := by omega
 clear hr hcell hcp
 go_upto_region 8 with (fail)
 let L : List Sp := [sW 5 [] [] [] g (fun b => lo ≤ b ∧ b < hi) (fun _ => True) (TkF lo hi g E O R), sW 6 [5] [5] [] (w2.heap.size) (fun b => b = w2.heap.size) (fun _ => True) (fun _ wz => Row wz (w2.heap.size) 34 (bv (padL n E O)).toArray)]
 refine wp_region_six (shs L) (look6 L) (fun c => c = g ∨ c = w2.heap.size) (by kernel_rfl) (by kernel_rfl) (mk_St L [5, 6] [5, 6] (by kernel_rfl) (by kernel_rfl) ⟨ok_W ⟨undef, trivial⟩ TkF.loc hs5.lt (.inl rfl) (fun b hb => Nat.lt_of_lt_of_le hb.2 hh5), ok_W ⟨undef, trivial⟩ (fun _ => Row.loc) rT.lt (.inr rfl) (fun b hb => hb ▸ rT.lt), trivial⟩ (by intro i hi j hj hne b hb hx; simp only [List.mem_cons, List.not_mem_nil, or_false] at hi hj; rcases hi with rfl | rfl <;> rcases hj with rfl | rfl <;> first | exact absurd rfl hne | (have hb1 : lo ≤ b ∧ b < hi := hb; have hx1 : b = w2.heap.size := hx; omega) | (have hb1 : b = w2.heap.size := hb; have hx1 : b = g := hx; omega))) ?_
 intro QQ hQ
 iterate 3 (refine stepKz rfl (fun K hK => ?_); go_simp; apply Exists.intro; apply And.intro; (focus (intro wk hk; go_simp; exact ⟨rfl, rfl⟩)); refine hK _ _ ?_; clear hK K)
 iterate 2 (refine stepK rfl (by kernel_rfl) (fun K hK => ?_); go_simp; apply Exists.intro; apply And.intro; (focus (intro wk hk; go_simp; exact ⟨rfl, rfl⟩)); refine hK _ _ ?_; clear hK K)
 refine stepS _ rfl (by kernel_rfl) (fun K hK => ?_); go_simp
 refine ⟨?_, ?_⟩
 ·intro wk hk hg hu; go_simp; refine upon_enter ((tk.out _ (hs5.below hk.undrew.below)).mono ?_); rintro e w' ⟨u, rfl, hf, ht⟩; exact ⟨_, rfl, left_W rfl rfl trivial ht hf⟩
 rintro ⟨v5, lo5, hi5⟩ - - -
 refine hK _ _ ?_; clear hK K
 refine stepSx _ [5] (fun c => c = g) rfl (by kernel_rfl) (by intro i hi b hb; simp only [List.mem_cons, List.not_mem_nil, or_false] at hi; subst hi; exact hb) (fun K hK => ?_); go_simp
 refine ⟨?_, ?_⟩
 ·intro wk hk hg hu; have u5 : TkF lo hi g E O R v5 wk := hu 5 (show 5 ∈ [5] by decide); have rTk : Row wk (w2.heap.size) 34 zr32 := K6.Row.tr rT hk.undrew (by intro hc; have hc' : w2.heap.size = g := hc; omega); obtain ⟨vv, w', hrun, hrow, htr⟩ := cpy.out wk v5 rTk u5.1; refine sUpon_copy rfl rfl rfl hrun ?_; exact left_W rfl rfl trivial htr hrow
 rintro ⟨v6, lo6, hi6⟩ - - -
 refine hK _ _ ?_; clear hK K
 refine stepN ?_
 refine hQ _ _ ?_
 intro w6 hT hG hF
 have hT' := hT.undrew
 have u5 : TkF lo hi g E O R v5 w6 := hF 5 _ rfl rfl (by decide)
 have rL : Row w6 (w2.heap.size) 34 (bv (padL n E O)).toArray := hF 6 _ rfl rfl (by decide)
 have hs := u5.2.2
 have r0' := K6.Row.tr r0 hT' (by rintro (hc | hc) <;> omega)
 have ht : Tr (fun b => b = g) w w6 := ht5.trans_new hT' (fun b hb hlt => by rcases hb with hb | hb <;> omega)
 clear hT hT' hG hF hQ QQ L u5 tk cpy ht5 hs5 rT r0
 have r0 := r0'
 clear r0'
 clear c0 c1 hpos hdq
 obtain ⟨rfl, rfl, rfl⟩ := HE.out
 have ok := ok_at hs
 rw [decide_eq_true rfl] at ok
 replace ok := Lib.hid ok
 have hval := beV_zeros (32 - n) ((d :: ds).take n)
 obtain ⟨Lb, hLb2⟩ : ∃ Lb, padL n 0 ((d :: ds).take n) = Lb := ⟨_, rfl⟩
 rw [hLb2] at rL hLl hLb
 replace hval : beV Lb = beV ((d :: ds).take n) := by rw [← hLb2]; unfold padL; rw [if_pos rfl]; exact hval
 obtain ⟨V, hV⟩ : ∃ V, beV Lb = V := ⟨_, rfl⟩
 have k81 := Lib.hid (fun wk (hr : Row wk w2.heap.size 34 (bv Lb).toArray) => from32 (c := 32) hLl.out hLb.out hr)
 rw [hV] at k81 hval
 have HV := Lib.hid hval
 have HS := Lib.hid (show _ ∧ _ ∧ _ ∧ _ from ⟨hs, ht, r0, rL⟩)
 clear hs ht r0 HE hLl hLb rL hval hV hLb2
 go_wp2_with fail
 refine ok.out.mono ?_
 rintro r w7 ⟨rfl, rfl⟩
 clear ok
 obtain ⟨hs, ht, r0, rL⟩ := HS.out
 clear HS
 go_upto_region 11 with (fail)
 let L : List Sp := [sV 1 [] [] (fun u => u = .tuple #[.agg (W4 V), .bool true]), sA 5 31 [6] #[.int .u64 0, .int .u64 0, .int .u64 0, .int .u64 0], sT 6 5 31 [3] (fun g => aggOf g 3)]
 refine wp_region_six0 (shs L) (look6 L) (None_) (by kernel_rfl) (by kernel_rfl) (mk_St L [] [] (by kernel_rfl) (by kernel_rfl) ⟨ok_V ⟨_, rfl⟩, ok_A, ok_T aggOf_congr, trivial⟩ (by simp)) ?_
 intro QQ hQ
 refine stepK rfl (by kernel_rfl) (fun K hK => ?_); go_simp
 apply Exists.intro; apply And.intro; (focus (intro wk hk; go_simp; exact ⟨rfl, rfl⟩)); refine hK _ _ ?_; clear hK K
 refine stepS _ rfl (by kernel_rfl) (fun K hK => ?_); go_simp
 refine ⟨?_, ?_⟩
 ·intro wk hk hg hu; go_simp; refine upon_enter ((k81.out _ (K6.Row.tr rL hk id)).mono ?_); rintro e w' ⟨rfl, hb⟩; exact ⟨_, rfl, left_V (p := fun u => u = .tuple #[.agg (W4 V), .bool true]) rfl (hb) rfl⟩
 rintro ⟨v1, lo1, hi1⟩ - - (rfl : v1 = _)
 refine hK _ _ ?_; clear hK K
 iterate 3 (refine stepK rfl (by kernel_rfl) (fun K hK => ?_); go_simp; apply Exists.intro; apply And.intro; (focus (intro wk hk; go_simp; exact ⟨rfl, rfl⟩)); refine hK _ _ ?_; clear hK K)
 refine stepS _ rfl (by kernel_rfl) (fun K hK => ?_); go_simp
 refine ⟨?_, ?_⟩
 ·intro wk hk hg hu; go_simp; exact left_A rfl rfl
 rintro ⟨v5, lo5, hi5⟩ hlo5 hhi5 ⟨e5, f5⟩
 replace e5 : v5 = .pointer (some ⟨lo5, 0, none⟩) := e5; replace f5 : hi5 = lo5 + 1 := f5; replace hlo5 : _ ≤ lo5 := hlo5; subst e5; subst f5
 refine hK _ _ ?_; clear hK K
 refine stepS _ rfl (by kernel_rfl) (fun K hK => ?_); go_simp
 refine ⟨?_, ?_⟩
 ·exact sStoreT rfl rfl rfl rfl rfl rfl rfl (by kernel_rfl) rfl (by kernel_rfl) (by decide) aggOf_congr
 rintro ⟨v6, lo6, hi6⟩ - - (rfl : v6 = undef)
 refine hK _ _ ?_; clear hK K
 refine stepK rfl (by kernel_rfl) (fun K hK => ?_); go_simp
 apply Exists.intro; apply And.intro; (focus (intro wk hk; go_simp; exact ⟨rfl, rfl⟩)); refine hK _ _ ?_; clear hK K
 refine stepN ?_
 refine hQ _ _ ?_
 intro w8 hT hG hF
 have hb8 := hT.below
 have r5 : Row w8 lo5 31 (W4 V) := (hF 6 _ rfl rfl (by decide)).2
 have h05 : w.heap.size < lo5 := Nat.lt_of_lt_of_le r0.lt hlo5
 replace r0 := r0.below hb8 r0.lt
 replace hs := hs.below hb8
 replace ht := ht.trans (Tr.of hb8)
 clear hT hG hF hb8 hQ QQ L hlo5 hhi5 k81 rL
 go_upto_region 12 with (fail)
 let L : List Sp := [sO 1 (w.heap.size) 31 [0] (fun g => aggOf g 0)]
 refine wp_region_six0 (shs L) (look6 L) (fun c => c = w.heap.size) (by kernel_rfl) (by kernel_rfl) (mk_St L [1] [1] (by kernel_rfl) (by kernel_rfl) ⟨ok_O aggOf_congr r0.lt (rfl), trivial⟩ (by simp)) ?_
 intro QQ hQ
 refine stepK rfl (by kernel_rfl) (fun K hK => ?_); go_simp
 apply Exists.intro; apply And.intro; (focus exact kLoad rfl rfl aggT31 r5 rfl id); refine hK _ _ ?_; clear hK K
 refine stepS _ rfl (by kernel_rfl) (fun K hK => ?_); go_simp
 refine ⟨?_, ?_⟩
 ·exact sStoreO rfl rfl rfl rfl rfl rfl r0 id (by kernel_rfl) rfl (by kernel_rfl) (by decide) aggOf_congr
 rintro ⟨v1, lo1, hi1⟩ - - (rfl : v1 = undef)
 refine hK _ _ ?_; clear hK K
 refine stepN ?_
 refine hQ _ _ ?_
 intro w9 hT hG hF
 have x0 : Row w9 (w.heap.size) 31 (W4 V) := hF 1 _ rfl rfl (by decide)
 have hs9 := hs.keep hT (fun b _ hb hc => by have hc' : b = w.heap.size := hc; omega)
 have ht9 := ht.trans_new hT (fun b hb hlt => by have hb' : b = w.heap.size := hb; omega)
 clear hT hG hF hQ QQ L
 go_wp2_with fail
 refine bodyPost_ret (results_c rfl aggT31 rfl x0 rfl) rfl ?_
 exact ⟨by rw [HV.out], hs9, ht9⟩
set_option maxRecDepth 100000 in
set_option maxHeartbeats 8000000 in
theorem samt_s {w : World} {lo hi g n : Nat} {d : Int} {ds : List Int} (h : SA w lo hi g 0 ((n : Int) :: d :: ds)) (hhi : hi ≤ w.heap.size) (hn : n ≤ 32) (h0 : 0 < n) (hd : d ≠ 0) (hm : (d :: ds).length < n) :
  Calls Try.prog 62 #[.pointer (some ⟨g, 0, none⟩)] w (Got w lo hi g (.agg #[.int .u64 0, .int .u64 0, .int .u64 0, .int .u64 0]) (3, [])) := by
 have hgh : g < hi := h.2.1
 have hA : Below w.heap.size w (w.alloc (.cells #[Value.int .u64 0, .int .u64 0, .int .u64 0, .int .u64 0] 31)) := (Below.refl _ _).alloc (Nat.le_refl _) _
 have hsz : (w.alloc (.cells #[Value.int .u64 0, .int .u64 0, .int .u64 0, .int .u64 0] 31)).heap.size = w.heap.size + 1 := by simp
 have r0 : Row (w.alloc (.cells #[Value.int .u64 0, .int .u64 0, .int .u64 0, .int .u64 0] 31)) w.heap.size 31 #[.int .u64 0, .int .u64 0, .int .u64 0, .int .u64 0] := Row.new_at rfl
 have hn3 : (n : Int) ≤ 32 := by omega
 have hn4 : (0 : Int) < (n : Int) := by omega
 have hdq : (d == 0) = false := by rw [beq_eq_false_iff_ne]; exact hd
 have hby0 : By (d :: ds) := fun x hx => h.2.2.2.1 x (List.mem_cons_of_mem _ hx)
 obtain ⟨E, hE⟩ : ∃ E : Int, E = 3 := ⟨_, rfl⟩
 obtain ⟨O, hO⟩ : ∃ O : List Int, O = [] := ⟨_, rfl⟩
 obtain ⟨R, hR⟩ : ∃ R : List Int, R = [] := ⟨_, rfl⟩
 have tk := Lib.hid (fun wk (hk : SA wk lo hi g 0 (d :: ds)) => take_lets (n := n) (E := E) (O := O) (R := R) (by rw [hE]; unfold tkE; rw [if_pos rfl, if_neg (by omega)]) (by rw [hO]; unfold tkO; rw [if_pos rfl, if_neg (by omega)]) (by rw [hR]; unfold tkR; rw [if_pos rfl, if_neg (by omega)]) hk)
 have hOby : By O := by rw [hO]; exact By.nil
 have hOl : E = 0 → O.length = n := by intro hc; omega
 have hOn : E ≠ 0 → O = [] := by intro _; exact hO
 obtain ⟨j, hj⟩ : ∃ j, 32 - n = j := ⟨_, rfl⟩
 have ej : (32 : Int) - (n : Int) = (j : Int) := by omega
 have ej2 : 32 - j = n := by omega
 have wj : IntKind.i64.wrap (j : Int) = (j : Int) := by rw [IntKind.wrap_i64]; omega
 have hj35 : (j : Int) ≤ 32 := by omega
 have hj34 : ¬ 32 = j := by omega
 have cpy := Lib.hid (fun (w2X : Nat) wk u (hr : Row wk w2X 34 zr32) (hu : Bs wk u O) => copy_pad (j := j) (c := n) hr hu (by exact .inr hj.symm) hn hOl hOn)
 have hLl := Lib.hid (padL_len (E := E) (O := O) hn hOl)
 have hLb := Lib.hid (padL_by (n := n) (E := E) hOby)
 have HE := Lib.hid (show _ ∧ _ ∧ _ from ⟨hE, hO, hR⟩)
 clear hOby hOl hOn hby0 hE hO hR hd hm
 have hby := byte_at (h.below hA)
 rw [show byO 0 ((n : Int) :: d :: ds) = (n : Int) from by unfold byO tkO; simp, show tkE 1 0 ((n : Int) :: d :: ds) = 0 from by unfold tkE; simp, show tkR 1 0 ((n : Int) :: d :: ds) = d :: ds from by unfold tkR; simp] at hby
 replace hby := Lib.hid hby
 have R0 := Lib.hid (show _ ∧ _ ∧ _ from ⟨hA, hsz, r0⟩)
 have wn : IntKind.i64.wrap (n : Int) = (n : Int) := by rw [IntKind.wrap_i64]; omega
 clear h hA hsz r0
 go_enter Try.func62, Try.ntmps62
 go_wp2_with fail
 refine hby.out.mono ?_
 rintro r w1 ⟨rfl, hs, ht⟩
 have ok := ok_at hs
 rw [decide_eq_true rfl] at ok
 replace ok := Lib.hid ok
 have r1 := K6.Row.tr R0.out.2.2 ht (by omega)
 have hsw : w.heap.size < w1.heap.size := Nat.lt_of_lt_of_le (by rw [R0.out.2.1]; omega) ht.size
 replace ht : Tr (fun b => b = g) w w1 := (Tr.of R0.out.1 : Tr (fun b => b = g) w _).trans ht
 have HS := Lib.hid (show _ ∧ _ ∧ _ from ⟨hs, ht, r1⟩)
 clear hby hs ht r1 R0
 go_wp2_with fail
 refine ok.out.mono ?_
 rintro r w2 ⟨rfl, rfl⟩
 clear ok
 go_upto_region 5 with (fail)
 obtain ⟨hs, ht, r1⟩ := HS.out
 clear HS
 have hB0 : ∀ x, Below w2.heap.size w2 (w2.alloc x) := fun x => (Below.refl _ _).alloc (Nat.le_refl _) _
 refine wp_abs (fun wx => SA wx lo hi g 0 (d :: ds) ∧ Tr (fun b => b = g) w wx ∧ Row wx w.heap.size 31 #[.int .u64 0, .int .u64 0, .int .u64 0, .int .u64 0] ∧ Row wx w2.heap.size 34 zr32) ⟨hs.below (hB0 _), ht.trans (Tr.of (hB0 _)), r1.below (hB0 _) r1.lt, ?_⟩ ?_
 ·refine Row.new_at ?_; simp
 rintro w5 ⟨hs5, ht5, r0, rT⟩
 have hh5 : hi ≤ w5.heap.size := Nat.le_trans hhi ht5.size
 clear hB0 hs ht r1
 replace cpy := Lib.hid (cpy.out w2.heap.size)
 obtain ⟨-, -, -, -, -, v, hr, hv⟩ := id hs5
 rcases hv with ⟨-, hv⟩ | ⟨b, o, cp, -, -, -, rfl, hcp, hcell⟩
 ·cases hv
 have c0 : w5.cell? ⟨g, 0, none⟩ = some (.slice (some ⟨b, o, none⟩) (ds.length + 1) cp) := hr.cell 0
 have c1 : w5.cell? ⟨b, o, none⟩ = some (.int .u8 d) := hcell 0 _ rfl
 have hpos : (0 : Int) < ((ds.length + 1 : Nat) : Int) := by omega
 clear hr hcell hcp
 go_upto_region 8 with (fail)
 let L : List Sp := [sW 5 [] [] [] g (fun b => lo ≤ b ∧ b < hi) (fun _ => True) (TkF lo hi g E O R), sW 6 [5] [5] [] (w2.heap.size) (fun b => b = w2.heap.size) (fun _ => True) (fun _ wz => Row wz (w2.heap.size) 34 (bv (padL n E O)).toArray)]
 refine wp_region_six (shs L) (look6 L) (fun c => c = g ∨ c = w2.heap.size) (by kernel_rfl) (by kernel_rfl) (mk_St L [5, 6] [5, 6] (by kernel_rfl) (by kernel_rfl) ⟨ok_W ⟨undef, trivial⟩ TkF.loc hs5.lt (.inl rfl) (fun b hb => Nat.lt_of_lt_of_le hb.2 hh5), ok_W ⟨undef, trivial⟩ (fun _ => Row.loc) rT.lt (.inr rfl) (fun b hb => hb ▸ rT.lt), trivial⟩ (by intro i hi j hj hne b hb hx; simp only [List.mem_cons, List.not_mem_nil, or_false] at hi hj; rcases hi with rfl | rfl <;> rcases hj with rfl | rfl <;> first | exact absurd rfl hne | (have hb1 : lo ≤ b ∧ b < hi := hb; have hx1 : b = w2.heap.size := hx; omega) | (have hb1 : b = w2.heap.size := hb; have hx1 : b = g := hx; omega))) ?_
 intro QQ hQ
 iterate 3 (refine stepKz rfl (fun K hK => ?_); go_simp; apply Exists.intro; apply And.intro; (focus (intro wk hk; go_simp; exact ⟨rfl, rfl⟩)); refine hK _ _ ?_; clear hK K)
 iterate 2 (refine stepK rfl (by kernel_rfl) (fun K hK => ?_); go_simp; apply Exists.intro; apply And.intro; (focus (intro wk hk; go_simp; exact ⟨rfl, rfl⟩)); refine hK _ _ ?_; clear hK K)
 refine stepS _ rfl (by kernel_rfl) (fun K hK => ?_); go_simp
 refine ⟨?_, ?_⟩
 ·intro wk hk hg hu; go_simp; refine upon_enter ((tk.out _ (hs5.below hk.undrew.below)).mono ?_); rintro e w' ⟨u, rfl, hf, ht⟩; exact ⟨_, rfl, left_W rfl rfl trivial ht hf⟩
 rintro ⟨v5, lo5, hi5⟩ - - -
 refine hK _ _ ?_; clear hK K
 refine stepSx _ [5] (fun c => c = g) rfl (by kernel_rfl) (by intro i hi b hb; simp only [List.mem_cons, List.not_mem_nil, or_false] at hi; subst hi; exact hb) (fun K hK => ?_); go_simp
 refine ⟨?_, ?_⟩
 ·intro wk hk hg hu; have u5 : TkF lo hi g E O R v5 wk := hu 5 (show 5 ∈ [5] by decide); have rTk : Row wk (w2.heap.size) 34 zr32 := K6.Row.tr rT hk.undrew (by intro hc; have hc' : w2.heap.size = g := hc; omega); obtain ⟨vv, w', hrun, hrow, htr⟩ := cpy.out wk v5 rTk u5.1; refine sUpon_copy rfl rfl rfl hrun ?_; exact left_W rfl rfl trivial htr hrow
 rintro ⟨v6, lo6, hi6⟩ - - -
 refine hK _ _ ?_; clear hK K
 refine stepN ?_
 refine hQ _ _ ?_
 intro w6 hT hG hF
 have hT' := hT.undrew
 have u5 : TkF lo hi g E O R v5 w6 := hF 5 _ rfl rfl (by decide)
 have rL : Row w6 (w2.heap.size) 34 (bv (padL n E O)).toArray := hF 6 _ rfl rfl (by decide)
 have hs := u5.2.2
 have r0' := K6.Row.tr r0 hT' (by rintro (hc | hc) <;> omega)
 have ht : Tr (fun b => b = g) w w6 := ht5.trans_new hT' (fun b hb hlt => by rcases hb with hb | hb <;> omega)
 clear hT hT' hG hF hQ QQ L u5 tk cpy ht5 hs5 rT r0
 have r0 := r0'
 clear r0'
 clear c0 c1 hpos hdq
 obtain ⟨rfl, rfl, rfl⟩ := HE.out
 have ok := ok_at hs
 rw [decide_eq_false (by decide)] at ok
 replace ok := Lib.hid ok
 have HS := Lib.hid (show _ ∧ _ ∧ _ from ⟨hs, ht, r0⟩)
 clear hs ht r0 HE hLl hLb rL
 go_wp2_with fail
 refine ok.out.mono ?_
 rintro r w7 ⟨rfl, rfl⟩
 clear ok
 obtain ⟨hs, ht, r0⟩ := HS.out
 clear HS
 go_upto_region 10 with (fail)
 let L : List Sp := [sO 1 (w.heap.size) 31 [0] (fun g => aggOf g 0)]
 refine wp_region_six0 (shs L) (look6 L) (fun c => c = w.heap.size) (by kernel_rfl) (by kernel_rfl) (mk_St L [1] [1] (by kernel_rfl) (by kernel_rfl) ⟨ok_O aggOf_congr r0.lt (rfl), trivial⟩ (by simp)) ?_
 intro QQ hQ
 refine stepK rfl (by kernel_rfl) (fun K hK => ?_); go_simp
 apply Exists.intro; apply And.intro; (focus (intro wk hk; go_simp; exact ⟨rfl, rfl⟩)); refine hK _ _ ?_; clear hK K
 refine stepS _ rfl (by kernel_rfl) (fun K hK => ?_); go_simp
 refine ⟨?_, ?_⟩
 ·exact sStoreO rfl rfl rfl rfl rfl rfl r0 id (by kernel_rfl) rfl (by kernel_rfl) (by decide) aggOf_congr
 rintro ⟨v1, lo1, hi1⟩ - - (rfl : v1 = undef)
 refine hK _ _ ?_; clear hK K
 refine stepN ?_
 refine hQ _ _ ?_
 intro w9 hT hG hF
 have x0 : Row w9 (w.heap.size) 31 (#[.int .u64 0, .int .u64 0, .int .u64 0, .int .u64 0]) := hF 1 _ rfl rfl (by decide)
 have hs9 := hs.keep hT (fun b _ hb hc => by have hc' : b = w.heap.size := hc; omega)
 have ht9 := ht.trans_new hT (fun b hb hlt => by have hb' : b = w.heap.size := hb; omega)
 clear hT hG hF hQ QQ L
 go_wp2_with fail
 refine bodyPost_ret (results_c rfl aggT31 rfl x0 rfl) rfl ?_
 exact ⟨rfl, hs9, ht9⟩
theorem samt_at {w : World} {lo hi g : Nat} {e : Int} {xs : List Int} (h : SA w lo hi g e xs) (hhi : hi ≤ w.heap.size) :
  Calls Try.prog 62 #[.pointer (some ⟨g, 0, none⟩)] w (Got w lo hi g (.agg (W4 (gA (e, xs)).1)) (gA (e, xs)).2) := by
 by_cases he : e = 0
 ·subst he
  match xs, h with
  | [], h =>
   have h2 := samt_f h hhi (by unfold byO tkO; simp) (by unfold tkE; simp) (by unfold tkR; simp)
   rw [show tkE 1 0 [] = 3 from by unfold tkE; simp, W4_zero] at h2
   exact h2
  | c :: cs, h =>
   have hc := h.2.2.2.1 c (List.mem_cons_self ..)
   obtain ⟨n, rfl⟩ : ∃ n : Nat, c = (n : Int) := ⟨c.toNat, by omega⟩
   unfold gA
   rw [if_pos rfl]
   simp only
   by_cases h32 : 32 < n
   ·rw [if_pos (.inl (by omega))]
    have h2 := samt_big h hhi h32 (by omega)
    rw [W4_zero] at h2
    exact h2
   ·by_cases hz : n = 0
    ·subst hz
     rw [if_neg (by rintro (h | ⟨h, -⟩) <;> omega), if_pos (by simp)]
     exact samt_z h hhi
    ·match cs, h with
     | [], h =>
      rw [if_neg (by rintro (h | ⟨-, h⟩); omega; cases h), if_neg (by simp; omega)]
      have h2 := samt_e h hhi (by omega) (by omega)
      rw [W4_zero] at h2
      exact h2
     | d :: ds, h =>
      by_cases hd : d = 0
      ·subst hd
       rw [if_pos (.inr ⟨by omega, rfl⟩)]
       have h2 := samt_lead h hhi (by omega) (by omega)
       rw [W4_zero] at h2
       exact h2
      ·rw [if_neg (by rintro (h | ⟨-, h⟩); omega; exact hd (Option.some.inj h))]
       by_cases hm : n ≤ (d :: ds).length
       ·rw [if_pos (by rw [Int.toNat_natCast]; exact hm)]
        have h2 := samt_f2 h hhi (by omega) (by omega) hd hm
        rw [Int.toNat_natCast]
        exact h2
       ·rw [if_neg (by rw [Int.toNat_natCast]; exact hm)]
        have h2 := samt_s h hhi (by omega) (by omega) hd (by omega)
        rw [W4_zero] at h2
        exact h2
 ·have hx := h.2.2.1 he
  subst hx
  have h2 := samt_f h hhi (by unfold byO tkO; rw [if_neg he]; rfl) (by unfold tkE; rw [if_neg he]; exact he) (by unfold tkR; rw [if_neg he])
  rw [show tkE 1 e [] = e from by unfold tkE; rw [if_neg he], W4_zero] at h2
  unfold gA
  rw [if_neg he]
  exact h2
set_option maxRecDepth 100000 in
set_option maxHeartbeats 8000000 in
theorem shash_at {w : World} {lo hi g : Nat} {e : Int} {xs : List Int} (h : SA w lo hi g e xs) (hhi : hi ≤ w.heap.size) :
  Calls Try.prog 68 #[.pointer (some ⟨g, 0, none⟩)] w (Got w lo hi g (.agg (bv (gH (e, xs)).1).toArray) (gH (e, xs)).2) := by
 have hgh : g < hi := h.2.1
 have hOl0 : tkE 32 e xs = 0 → (tkO 32 e xs).length = 32 := fun hc => by
  unfold tkE at hc
  unfold tkO
  split at hc
  ·rename_i h1
   split at hc
   ·rename_i h2; rw [if_pos h1, if_pos h2, List.length_take]; omega
   ·cases hc
  ·rename_i h1; exact absurd hc h1
 have hOn0 : tkE 32 e xs ≠ 0 → tkO 32 e xs = [] := fun hc => by
  unfold tkE at hc
  unfold tkO
  split at hc
  ·rename_i h1
   split at hc
   ·exact absurd rfl hc
   ·rename_i h2; rw [if_pos h1, if_neg h2]
  ·rename_i h1; rw [if_neg h1]
 have hfin : gH (e, xs) = (padL 32 (tkE 32 e xs) (tkO 32 e xs), tkE 32 e xs, tkR 32 e xs) := by
  unfold gH gT padL
  rfl
 rw [hfin]
 have tk0 := fun wk (hk : SA wk lo hi g e xs) => take_at 32 hk
 unfold Took at tk0
 obtain ⟨E, hE⟩ : ∃ E : Int, tkE 32 e xs = E := ⟨_, rfl⟩
 obtain ⟨O, hO⟩ : ∃ O : List Int, tkO 32 e xs = O := ⟨_, rfl⟩
 obtain ⟨R, hR⟩ : ∃ R : List Int, tkR 32 e xs = R := ⟨_, rfl⟩
 rw [hE, hO] at hOl0 hOn0
 rw [hE, hO, hR]
 simp only [hE, hO, hR] at tk0
 have tk := Lib.hid (fun wk (hk : SA wk lo hi g e xs) => (tk0 wk hk).mono fun (r : Ending) w' ⟨u, h0, h1, h2, h3, h4⟩ => (⟨u, h0, ⟨h1, h2, h3⟩, h4⟩ : ∃ u, r = Ending.returned u ∧ TkF lo hi g E O R u w' ∧ Tr (fun b => b = g) wk w'))
 have cpy := Lib.hid (fun (wk : World) u (hr : Row wk (w.heap.size + 1) 35 zr32) (hu : Bs wk u O) => copy_pad (n := 32) (j := 0) (c := 32) hr hu (.inr rfl) (by decide) hOl0 hOn0)
 have hlen := Lib.hid (padL_len (E := E) (O := O) (n := 32) (by decide) hOl0)
 have H0 := Lib.hid h
 clear hfin tk0 hE hO hR hOl0 hOn0 h
 go_enter Try.func68, Try.ntmps68
 go_upto_region 2 with (fail)
 refine wp_abs (Mem w [(w.heap.size, 35, zr32), (w.heap.size + 1, 35, zr32)]) ⟨by go_grown, ?_, ?_, trivial⟩ ?_
 ·repeat (first | (refine Row.new_at ?_; simp; done) | refine Row.alloc ?_ _)
 ·repeat (first | (refine Row.new_at ?_; simp; done) | refine Row.alloc ?_ _)
 intro w0 hM
 obtain ⟨hl, r0, rT, -⟩ := hM
 have hs5 := H0.out.below hl
 have hh5 : hi ≤ w0.heap.size := Nat.le_trans hhi hl.size
 have hTg : g < w.heap.size + 1 := by omega
 go_upto_region 2 with (fail)
 let L : List Sp := [sW 2 [] [] [] g (fun b => lo ≤ b ∧ b < hi) (fun _ => True) (TkF lo hi g E O R), sW 3 [2] [2] [] (w.heap.size + 1) (fun b => b = w.heap.size + 1) (fun _ => True) (fun _ wz => Row wz (w.heap.size + 1) 35 (bv (padL 32 E O)).toArray)]
 refine wp_region_six (shs L) (look6 L) (fun c => c = g ∨ c = w.heap.size + 1) (by kernel_rfl) (by kernel_rfl) (mk_St L [2, 3] [2, 3] (by kernel_rfl) (by kernel_rfl) ⟨ok_W ⟨undef, trivial⟩ TkF.loc hs5.lt (.inl rfl) (fun b hb => Nat.lt_of_lt_of_le hb.2 hh5), ok_W ⟨undef, trivial⟩ (fun _ => Row.loc) rT.lt (.inr rfl) (fun b hb => hb ▸ rT.lt), trivial⟩ (by intro i hi j hj hne b hb hx; simp only [List.mem_cons, List.not_mem_nil, or_false] at hi hj; rcases hi with rfl | rfl <;> rcases hj with rfl | rfl <;> first | exact absurd rfl hne | (have hb1 : lo ≤ b ∧ b < hi := hb; have hx1 : b = w.heap.size + 1 := hx; omega) | (have hb1 : b = w.heap.size + 1 := hb; have hx1 : b = g := hx; omega))) ?_
 intro QQ hQ
 refine stepKz rfl (fun K hK => ?_); go_simp
 apply Exists.intro; apply And.intro; (focus (intro wk hk; go_simp; exact ⟨rfl, rfl⟩)); refine hK _ _ ?_; clear hK K
 refine stepK rfl (by kernel_rfl) (fun K hK => ?_); go_simp
 apply Exists.intro; apply And.intro; (focus (intro wk hk; go_simp; exact ⟨rfl, rfl⟩)); refine hK _ _ ?_; clear hK K
 refine stepS _ rfl (by kernel_rfl) (fun K hK => ?_); go_simp
 refine ⟨?_, ?_⟩
 ·intro wk hk hg hu; go_simp; refine upon_enter ((tk.out _ (hs5.below hk.undrew.below)).mono ?_); rintro e w' ⟨u, rfl, hf, ht⟩; exact ⟨_, rfl, left_W rfl rfl trivial ht hf⟩
 rintro ⟨v2, lo2, hi2⟩ - - -
 refine hK _ _ ?_; clear hK K
 refine stepSx _ [2] (fun c => c = g) rfl (by kernel_rfl) (by intro i hi b hb; simp only [List.mem_cons, List.not_mem_nil, or_false] at hi; subst hi; exact hb) (fun K hK => ?_); go_simp
 refine ⟨?_, ?_⟩
 ·intro wk hk hg hu; have u2 : TkF lo hi g E O R v2 wk := hu 2 (show 2 ∈ [2] by decide); have rTk : Row wk (w.heap.size + 1) 35 zr32 := K6.Row.tr rT hk.undrew (by intro hc; have hc' : w.heap.size + 1 = g := hc; omega); obtain ⟨vv, w', hrun, hrow, htr⟩ := cpy.out wk v2 rTk u2.1; refine sUpon_copy rfl rfl rfl hrun ?_; exact left_W rfl rfl trivial htr hrow
 rintro ⟨v3, lo3, hi3⟩ - - -
 refine hK _ _ ?_; clear hK K
 refine stepN ?_
 refine hQ _ _ ?_
 intro w6 hT hG hF
 have hT' := hT.undrew
 have u2 : TkF lo hi g E O R v2 w6 := hF 2 _ rfl rfl (by decide)
 have rL : Row w6 (w.heap.size + 1) 35 (bv (padL 32 E O)).toArray := hF 3 _ rfl rfl (by decide)
 have hs := u2.2.2
 have r0' := K6.Row.tr r0 hT' (by rintro (hc | hc) <;> omega)
 have ht : Tr (fun b => b = g) w w6 := (Tr.of hl : Tr (fun b => b = g) w w0).trans_new hT' (fun b hb hlt => by rcases hb with hb | hb <;> omega)
 clear hT hT' hG hF hQ QQ L u2 tk cpy hs5 rT r0 H0 hl
 have r0 := r0'
 clear r0'
 obtain ⟨Z, hZ⟩ : ∃ Z, padL 32 E O = Z := ⟨_, rfl⟩
 rw [hZ] at hlen rL
 have HZ := Lib.hid hZ
 clear hZ
 have hszZ : (bv Z).toArray.size = 32 := by rw [List.size_toArray, bv_len]; exact hlen.out
 obtain ⟨Y, hY⟩ : ∃ Y, (bv Z).toArray = Y := ⟨_, rfl⟩
 have hone : (bv Z).toArray.all (·.oneCell') = true := bv_one Z
 have hinf : (Try.prog.info? 35).map (·.size) = some (bv Z).toArray.size := by rw [hszZ]; kernel_rfl
 rw [hY] at rL hszZ hone hinf
 have HY := Lib.hid hY
 clear hY
 go_upto_region 3 with (fail)
 let L : List Sp := [sO 1 (w.heap.size) 35 [0] (fun g => aggOf g 0)]
 refine wp_region_six0 (shs L) (look6 L) (fun c => c = w.heap.size) (by kernel_rfl) (by kernel_rfl) (mk_St L [1] [1] (by kernel_rfl) (by kernel_rfl) ⟨ok_O aggOf_congr r0.lt (rfl), trivial⟩ (by simp)) ?_
 intro QQ hQ
 refine stepK rfl (by kernel_rfl) (fun K hK => ?_); go_simp
 apply Exists.intro; apply And.intro; (focus exact kLoad rfl rfl aggR35 rL hszZ id); refine hK _ _ ?_; clear hK K
 refine stepS _ rfl (by kernel_rfl) (fun K hK => ?_); go_simp
 refine ⟨?_, ?_⟩
 ·exact sStoreO rfl rfl rfl rfl rfl rfl r0 id hinf hszZ.symm hone (by decide) aggOf_congr
 rintro ⟨v1, lo1, hi1⟩ - - (rfl : v1 = undef)
 refine hK _ _ ?_; clear hK K
 refine stepN ?_
 refine hQ _ _ ?_
 intro w9 hT hG hF
 have x0 : Row w9 (w.heap.size) 35 (Y) := hF 1 _ rfl rfl (by decide)
 have hs9 := hs.keep hT (fun b _ hb hc => by have hc' : b = w.heap.size := hc; omega)
 have ht9 := ht.trans_new hT (fun b hb hlt => by have hb' : b = w.heap.size := hb; omega)
 clear hT hG hF hQ QQ L
 go_wp2_with fail
 refine bodyPost_ret (results_c rfl aggR35 rfl x0 hszZ) rfl ?_
 exact ⟨by rw [← HY.out, ← HZ.out], hs9, ht9⟩
end Go.Proofs.Ytpdenhmkpiafiaa
namespace Go.Proofs.Ytpdenhmkpiafiaa
open Go Go.RowKit
set_option maxRecDepth 100000 in
set_option maxHeartbeats 2000000 in
theorem refFrom_any (r : Option Addr) (n c : Nat) (f : Nat → Nat) (w : World) (hf : ∀ i, f i < 256) (hr : n = 32 → ∃ g o, r = some ⟨g, o, none⟩ ∧ g < w.heap.size ∧ ∀ i, i < 32 → w.cell? ⟨g, o + i, none⟩ = some (.int .u8 ((f i : Nat) : Int))) :
  Calls Try.prog 96 #[.slice r n c] w (Pair w (if n = 32 then fromN f 32 else 0) (decide (n = 32))) := by
 go_enter Try.func96, Try.ntmps96
 by_cases hn : n = 32
 ·subst hn
  obtain ⟨g, o, rfl, hg, hc⟩ := hr rfl
  go_wp2_with fail
  go_loopg [14] 32 (fun gg i wr => ∃ (k : Nat), k + gg = 32 ∧ i = .int .i64 (k : Int) ∧ Below w.heap.size w wr ∧ Row wr w.heap.size 31 (arr .u64 (fun _ => 0) 4) ∧ Row wr (w.heap.size + 1) 31 (arr .u64 (wordsOf (fromN f k)) 4))
  case atStart =>
   refine ⟨0, by omega, rfl, by go_grown, ?_, ?_⟩
   ·repeat (first | (refine Row.new_at ?_; simp; done) | refine Row.alloc ?_ _)
   ·rw [show fromN f 0 = 0 from rfl, wordsOf_zero]
    repeat (first | (refine Row.new_at ?_; simp; done) | refine Row.alloc ?_ _)
  case round =>
   obtain ⟨i, hi, rfl, hl, rr, ro⟩ := hrel
   by_cases hlt : i < 32
   ·obtain ⟨k, hk⟩ : ∃ k, k + i = 31 := ⟨31 - i, by omega⟩
    have e0 : (31 : Int) - (i : Int) = (k : Int) := by omega
    have t1 : ((k : Int)).tdiv 8 = (k : Int) / 8 := Int.tdiv_eq_ediv_of_nonneg (by omega)
    have t2 : ((k : Int)).tmod 8 = (k : Int) % 8 := Int.tmod_eq_emod_of_nonneg (by omega)
    have t5 : (k : Int) / 8 < 4 := by omega
    have t6 : 0 ≤ (k : Int) / 8 := by omega
    have t7 : 0 ≤ (k : Int) % 8 := by omega
    have t8 : (k : Int) % 8 < 8 := by omega
    have t9 : ((k : Int) / 8).toNat = k / 8 := by omega
    have t10 : (8 * ((k : Int) % 8)).toNat = 8 * (k % 8) := by omega
    have ci : wr.cell? ⟨g, o + i, none⟩ = some (.int .u8 ((f i : Nat) : Int)) := ((bcell hl).1 g (o + i) hg).trans (hc i hlt)
    have t11 : IntKind.u64.wrap (8 * ((k : Int) % 8)) = 8 * ((k : Int) % 8) := by rw [IntKind.wrap_u64]; omega
    have wb : IntKind.u64.wrap ((f i : Nat) : Int) = ((f i : Nat) : Int) := by rw [IntKind.wrap_u64]; have := hf i; omega
    have co := ro.at_ (k / 8) (by omega)
    have fo := ro.frozen (k / 8)
    have S := Lib.hid (show _ ∧ _ ∧ _ from ⟨rr, ro, hk⟩)
    clear rr ro
    all_goals
     go_wp2_with fail
     go_roundg (gk - 1)
     case measure => omega
     case rel =>
      obtain ⟨rr, ro, hk⟩ := S.out
      obtain ⟨m, hm⟩ := fromN_mul f i (by omega)
      have hp := put_byte m (f i) k (hf i)
      rw [show 8 * (k + 1) = 8 * (32 - i) by omega, ← hm] at hp
      refine ⟨i + 1, by omega, by go_num, by go_grown, rr.far (by dsimp only; omega) _, ?_⟩
      refine (ro.put (k / 8) (by omega) _).congr ?_
      rw [hp]
      rw [show fromN f (i + 1) = fromN f i + f i * 2 ^ (8 * (31 - i)) from rfl, show 31 - i = k by omega]
   ·obtain rfl : i = 32 := by omega
    have d0 := ro.at_ 0 (by omega)
    have d1 := ro.at_ 1 (by omega)
    have d2 := ro.at_ 2 (by omega)
    have d3 := ro.at_ 3 (by omega)
    have e0 := rr.at_ 0 (by omega)
    have e1 := rr.at_ 1 (by omega)
    have e2 := rr.at_ 2 (by omega)
    have e3 := rr.at_ 3 (by omega)
    have f0 := rr.frozen 0
    have f1 := rr.frozen 1
    have f2 := rr.frozen 2
    have f3 := rr.frozen 3
    have H := Lib.hid (show _ from rr)
    clear rr ro hlt
    go_wp2
    refine bodyPost_ret (results_ct rfl aggT31 rfl (H.out.store4 rfl _ _ _ _) rfl) rfl ?_
    exact ⟨_, _, _, _, rfl, wordsOf_isW _ (fromN_bd f hf), by go_grown⟩
 ·have hne : ((n : Int) != 32) = true := by simp; omega
  have r0 : Row ((w.alloc (.cells #[Value.int .u64 0, Value.int .u64 0, Value.int .u64 0, Value.int .u64 0] 31)).alloc (.cells #[Value.int .u64 0, Value.int .u64 0, Value.int .u64 0, Value.int .u64 0] 31)) w.heap.size 31 #[Value.int .u64 0, Value.int .u64 0, Value.int .u64 0, Value.int .u64 0] := by
   repeat (first | (refine Row.new_at ?_; simp; done) | refine Row.alloc ?_ _)
  go_wp2_with fail
  refine bodyPost_ret (results_ct rfl aggT31 rfl r0 rfl) rfl ?_
  exact ⟨_, _, _, _, rfl, isW_zero, by go_grown⟩
end Go.Proofs.Ytpdenhmkpiafiaa
namespace Go.Proofs.Ytpdenhmkpiafiaa
open Go Go.RowKit K6
theorem SR.e1 {w : World} {g : Nat} {q : Option Nat} {e : Int} {xs : List Int} (h : SR w g q e xs) : w.cell? ⟨g, 1, none⟩ = some (.int .i64 e) := by
 obtain ⟨-, -, -, -, v, hs, -⟩ := h
 exact hs.cell 1
theorem SR.b0 {w : World} {g : Nat} {q : Option Nat} {e : Int} {xs : List Int} (h : SR w g q e xs) : ∃ a c, w.cell? ⟨g, 0, none⟩ = some (.slice a xs.length c) := by
 obtain ⟨-, -, -, -, v, hs, hv⟩ := h
 have c0 : w.cell? ⟨g, 0, none⟩ = some v := hs.cell 0
 rcases hv with ⟨rfl, a, rfl, -⟩ | ⟨b, o, c, -, rfl, -⟩
 ·exact ⟨_, _, c0⟩
 ·exact ⟨_, _, c0⟩
theorem SR.hd {w : World} {g : Nat} {q : Option Nat} {e d : Int} {ds : List Int} (h : SR w g q e (d :: ds)) : ∃ b o c, w.cell? ⟨g, 0, none⟩ = some (.slice (some ⟨b, o, none⟩) (ds.length + 1) c) ∧ w.cell? ⟨b, o, none⟩ = some (.int .u8 d) := by
 obtain ⟨-, -, -, -, v, hs, hv⟩ := h
 have c0 : w.cell? ⟨g, 0, none⟩ = some v := hs.cell 0
 rcases hv with ⟨hv, -⟩ | ⟨b, o, c, -, rfl, -, -, h5⟩
 ·cases hv
 ·exact ⟨b, o, c, c0, h5 0 d rfl⟩
def hrow (i : Nat) (O : List Int) : Array Value := (bv (O.take i ++ List.replicate (32 - i) 0)).toArray
theorem hrow_size {i : Nat} {O : List Int} (hi : i ≤ O.length) (h32 : O.length ≤ 32) : (hrow i O).size = 32 := by
 unfold hrow
 rw [List.size_toArray, bv_len, List.length_append, List.length_take, List.length_replicate]
 omega
theorem hrow_0 (O : List Int) : zr32 = hrow 0 O := by
 unfold hrow
 rw [List.take_zero, List.nil_append, zr32_bv]
theorem hrow_set {i : Nat} {O : List Int} {y : Int} (hi : i < 32) (hy : O[i]? = some y) : (hrow i O).setIfInBounds i (.int .u8 y) = hrow (i + 1) O := by
 obtain ⟨hl, rfl⟩ := List.getElem?_eq_some_iff.1 hy
 have hlen : (O.take i).length = i := by rw [List.length_take]; omega
 unfold hrow bv
 rw [List.setIfInBounds_toArray, ← List.map_set, List.set_append_right _ _ (by omega), hlen, Nat.sub_self, show 32 - i = (32 - (i + 1)) + 1 by omega, List.replicate_succ, List.set_cons_zero, List.take_succ_eq_append_getElem hl, List.append_assoc, List.singleton_append]
theorem hrow_end {E : Int} {O : List Int} (h : (O.length = 32 ∧ E = 0) ∨ (O = [] ∧ E ≠ 0)) : hrow O.length O = (bv (if E = 0 then O else List.replicate 32 0)).toArray := by
 rcases h with ⟨h, rfl⟩ | ⟨rfl, h⟩
 ·unfold hrow
  rw [if_pos rfl, List.take_length, h, Nat.sub_self, List.replicate_zero, List.append_nil]
 ·unfold hrow
  rw [if_neg h]
  rfl
set_option maxRecDepth 100000 in
set_option maxHeartbeats 8000000 in
theorem rhash_at {w : World} {g : Nat} {q : Option Nat} {e : Int} {xs : List Int} (h : SR w g q e xs) (hq : ∀ b, q = some b → b < w.heap.size) :
  Calls Try.prog 180 #[.pointer (some ⟨g, 0, none⟩)] w (GotR w g q (.agg (bv (gH (e, xs)).1).toArray) (gH (e, xs)).2) := by
 have hgl := h.lt
 have hOc : ((tkO 32 e xs).length = 32 ∧ tkE 32 e xs = 0) ∨ (tkO 32 e xs = [] ∧ tkE 32 e xs ≠ 0) := by
  unfold tkO tkE
  split
  ·split
   ·left; rw [List.length_take]; omega
   ·right; decide
  ·rename_i h1; exact .inr ⟨rfl, h1⟩
 have tk0 := fun wk (hk : SR wk g q e xs) => rtake_at 32 hk
 unfold RTook at tk0
 unfold gH gT
 simp only
 obtain ⟨E, hE⟩ : ∃ E : Int, tkE 32 e xs = E := ⟨_, rfl⟩
 obtain ⟨O, hO⟩ : ∃ O : List Int, tkO 32 e xs = O := ⟨_, rfl⟩
 obtain ⟨R, hR⟩ : ∃ R : List Int, tkR 32 e xs = R := ⟨_, rfl⟩
 rw [hE, hO] at hOc
 simp only [hE, hO, hR] at tk0 ⊢
 rw [← hrow_end hOc]
 replace tk0 := Lib.hid tk0
 obtain ⟨m, hm⟩ : ∃ m, O.length = m := ⟨_, rfl⟩
 have hm32 : m ≤ 32 := by
  rcases hOc with ⟨h, -⟩ | ⟨h, -⟩
  ·omega
  ·rw [h, List.length_nil] at hm; omega
 have h0 := Lib.hid h
 clear hE hO hR hOc h
 go_enter Try.func180, Try.ntmps180
 go_upto_region 2 with (fail)
 refine wp_abs (Mem w [(w.heap.size, 35, zr32), (w.heap.size + 1, 35, zr32)]) ⟨by go_grown, ?_, ?_, trivial⟩ ?_
 ·repeat (first | (refine Row.new_at ?_; simp; done) | refine Row.alloc ?_ _)
 ·repeat (first | (refine Row.new_at ?_; simp; done) | refine Row.alloc ?_ _)
 intro w0 hM
 obtain ⟨hl, r0, rT, -⟩ := hM
 have tk := Lib.hid (tk0.out w0 (h0.out.below hl))
 have HL := Lib.hid (show _ ∧ _ ∧ _ from ⟨hl, r0, rT⟩)
 clear hl r0 rT tk0 h0
 go_wp2_with fail
 refine tk.out.mono ?_
 rintro r w1 ⟨v, rfl, ho, hs, ht⟩
 obtain ⟨hl, r0, rT⟩ := HL.out
 have hsz := r0.lt
 have hsz2 := rT.lt
 replace r0 := K6.Row.tr r0 ht (by omega)
 replace rT := K6.Row.tr rT ht (by omega)
 replace ht : Tr (fun b => b = g) w w1 := (Tr.of hl : Tr (fun b => b = g) w w0).trans ht
 have hbv : ∀ b, v.ownBlock = some b → b ≠ w.heap.size + 1 := fun b hb e => by have := (ho.lt b hb).1; omega
 have hb9 := ho.bs
 obtain ⟨a, c, rfl, hno, hcell⟩ := hb9
 rw [hm]
 have hall := Lib.hid (show ∀ i wr, i < m → Tr (fun b => b = w.heap.size + 1) w1 wr → ∃ b y, a = some ⟨b, 0, none⟩ ∧ O[i]? = some y ∧ wr.cell? ⟨b, i, none⟩ = some (.int .u8 y) from fun i wr hi hT => by
  have hbs := ho.keep hT hbv
  rcases hbs.2 with ⟨-, h0⟩ | ⟨b, cap, cur, he, -⟩
  ·omega
  ·have hO : O[i]? = some O[i] := List.getElem?_eq_getElem (by omega)
   injection he with he
   refine ⟨b, O[i], he, hO, ?_⟩
   obtain ⟨a2, c2, e2, -, h1⟩ := hbs.bs
   injection e2 with e2
   have := h1 ⟨b, 0, none⟩ (e2.symm.trans he) i (.int .u8 O[i]) (by unfold bv; rw [List.getElem?_map, hO]; rfl)
   rw [add_at, Nat.zero_add] at this
   exact this)
 have H0 := Lib.hid (show _ ∧ _ ∧ _ ∧ _ ∧ _ from ⟨hs, ht, r0, hgl, hq⟩)
 have rT0 : Row w1 (w.heap.size + 1) 35 (hrow 0 O) := rT.congr (hrow_0 O)
 clear tk HL hl ho hs ht r0 rT hbv hno hcell hsz hsz2 hgl hq
 go_wp2_with fail
 go_loopg [4, 5, 9] m (fun gg s4 s5 s9 wr => ∃ i : Nat, i + gg = m ∧ s9 = .int .i64 (i : Int) ∧ Row wr (w.heap.size + 1) 35 (hrow i O) ∧ Tr (fun b => b = w.heap.size + 1) w1 wr)
 case atStart => exact ⟨0, by omega, rfl, rT0, Tr.refl _ _⟩
 case round =>
  obtain ⟨i, him, rfl, rT, hT⟩ := hrel
  by_cases hi : i < m
  ·obtain ⟨b, y, rfl, hy, c1⟩ := hall.out i wr hi hT
   have hlt : (i : Int) < (m : Int) := by omega
   have h32 : (i : Int) < 32 := by omega
   have f0 := rT.frozen i
   obtain ⟨u9, c9⟩ : ∃ u, wr.cell? ⟨w.heap.size + 1, i, none⟩ = some u := ⟨_, (rT.cell i).trans (Array.getElem?_eq_getElem (by rw [hrow_size (by omega) (by omega)]; omega))⟩
   have hT2 := hT.trans (tr_cell (X := fun b => b = w.heap.size + 1) (w := wr) (p := ⟨w.heap.size + 1, i, none⟩) (u := .int .u8 y) rfl)
   have rT2 := (rT.set i (.int .u8 y)).congr (hrow_set (by omega) hy)
   have H := Lib.hid (show _ ∧ _ from ⟨hT2, rT2⟩)
   clear hT2 rT2 rT hT hy
   go_wp2_with fail
   go_roundg (gk - 1)
   case measure => omega
   case rel => exact ⟨i + 1, by omega, by go_num, H.out.2, H.out.1⟩
  ·obtain rfl : i = m := by omega
   have hlt : ¬ (i : Int) < (i : Int) := by omega
   obtain ⟨hs, ht, r0, hgl, hq⟩ := H0.out
   have r0' := K6.Row.tr r0 hT (by omega)
   have hs' := hs.keep hT (by omega) (fun b hb e => by have := hq b hb; omega)
   have ht' := ht.trans_new hT (fun b hb hlt => by have hb' : b = w.heap.size + 1 := hb; omega)
   have rL := rT
   have hsl := hrow_size (i := i) (O := O) (by omega) (by omega)
   have hone : (hrow i O).all (·.oneCell') = true := bv_one _
   have hinf : (Try.prog.info? 35).map (·.size) = some (hrow i O).size := by rw [hsl]; kernel_rfl
   clear hall H0 hT hs ht r0 rT
   have r0 := r0'
   have hs := hs'
   have ht := ht'
   clear r0' hs' ht'
   go_upto_region 7 with (fail)
   go_upto_region 7 with (fail)
   let L : List Sp := [sO 1 (w.heap.size) 35 [0] (fun g => aggOf g 0)]
   refine wp_region_six0 (shs L) (look6 L) (fun c => c = w.heap.size) (by kernel_rfl) (by kernel_rfl) (mk_St L [1] [1] (by kernel_rfl) (by kernel_rfl) ⟨ok_O aggOf_congr r0.lt (rfl), trivial⟩ (by simp)) ?_
   intro QQ hQ
   refine stepK rfl (by kernel_rfl) (fun K hK => ?_); go_simp
   apply Exists.intro; apply And.intro; (focus exact kLoad rfl rfl aggR35 rL hsl id); refine hK _ _ ?_; clear hK K
   refine stepS _ rfl (by kernel_rfl) (fun K hK => ?_); go_simp
   refine ⟨?_, ?_⟩
   ·exact sStoreO rfl rfl rfl rfl rfl rfl r0 id hinf hsl.symm hone (by decide) aggOf_congr
   rintro ⟨v1, lo1, hi1⟩ - - (rfl : v1 = undef)
   refine hK _ _ ?_; clear hK K
   refine stepN ?_
   refine hQ _ _ ?_
   intro w9 hT hG hF
   have x0 : Row w9 (w.heap.size) 35 (hrow i O) := hF 1 _ rfl rfl (by decide)
   have hs9 := hs.keep hT (fun hc => by have hc' : g = w.heap.size := hc; omega) (fun b hb hc => by have hc' : b = w.heap.size := hc; have := hq b hb; omega)
   have ht9 := ht.trans_new hT (fun b hb hlt => by have hb' : b = w.heap.size := hb; omega)
   clear hT hG hF hQ QQ L
   go_wp2_with fail
   refine bodyPost_ret (results_c rfl aggR35 rfl x0 hsl) rfl ?_
   exact ⟨rfl, hs9, ht9⟩
theorem made_bv (n : Nat) : madeCells #[Value.int .u8 0] n = (bv (List.replicate n 0)).toArray := by
 apply Array.ext
 ·simp [madeCells, bv]
 ·intro i h1 h2
  simp [madeCells, bv, Nat.mod_one]
theorem make8 (n : Nat) (hn : n < 10000000000) (w : World) : (Instr.makeSlice 33 (.int .i64 (n : Int)) (.int .i64 (n : Int))).run Try.prog w = .ok (.slice (some ⟨w.heap.size, 0, none⟩) n n) (w.alloc (.cells (bv (List.replicate n 0)).toArray 5)) := by
 rw [← made_bv]
 exact run_make_row' 33 5 (.int .u8 0) 1 Try.underlying33 (by kernel_rfl) rfl .i64 .i64 n (by omega) (by omega) w
theorem made_own (n : Nat) (hn : n < 10000000000) (w : World) : Ob (w.alloc (.cells (bv (List.replicate n 0)).toArray 5)) w.heap.size (.slice (some ⟨w.heap.size, 0, none⟩) n n) (List.replicate n 0) := by
 unfold Ob
 rw [List.length_replicate]
 refine ⟨by rw [bv_len, List.length_replicate, Nat.mul_one], .inr ⟨w.heap.size, n, _, rfl, Nat.le_refl _, Row.new_at rfl, Nat.le_refl _, by simp only [maxLen]; omega, by rw [List.size_toArray, bv_len, List.length_replicate, Nat.mul_one], ?_⟩⟩
 rw [List.take_of_length_le (by rw [bv_len, List.length_replicate, Nat.mul_one]; exact Nat.le_refl _)]
theorem rfrom32 {L : List Int} (hL : L.length = 32) (hb : By L) {w : World} {base : Nat} {v : Value} (h : Ob w base v L) : Calls Try.prog 96 #[v] w (Ret w (.tuple #[.agg (W4 (beV L)), .bool true])) := by
 have hf : ∀ i, (L.getD i 0).toNat < 256 := fun i => by
  rcases Nat.lt_or_ge i L.length with h | h
  ·rw [List.getD_eq_getElem?_getD, List.getElem?_eq_getElem h]
   have := hb _ (List.getElem_mem h)
   show (L[i]).toNat < 256
   omega
  ·rw [List.getD_eq_getElem?_getD, List.getElem?_eq_none h]; decide
 have hbs := h.bs
 have hlt := h.lt
 rcases h.2 with ⟨-, h0⟩ | ⟨g, cap, cur, rfl, -⟩
 ·omega
 obtain ⟨a, c, e, -, h1⟩ := hbs
 injection e with e1 e2 e3
 subst e1
 rw [hL]
 refine (refFrom_any (some ⟨g, 0, none⟩) 32 cap (fun j => (L.getD j 0).toNat) w hf (fun _ => ⟨g, 0, rfl, (hlt g rfl).2, fun i hi => ?_⟩)).mono fun _ _ h => ?_
 ·have hi2 : i < L.length := by omega
  have hx := hb _ (List.getElem_mem hi2)
  have := h1 _ rfl i (.int .u8 L[i]) (by unfold bv; rw [List.getElem?_map, List.getElem?_eq_getElem hi2]; rfl)
  rw [add_at] at this
  rw [this, List.getD_eq_getElem?_getD, List.getElem?_eq_getElem hi2]
  show some (Value.int .u8 L[i]) = some (Value.int .u8 ((L[i].toNat : Nat) : Int))
  rw [Int.toNat_of_nonneg hx.1]
 ·have h2 := pair_ret h
  rw [if_pos rfl, decide_eq_true rfl, fromN_beV hL 32 (Nat.le_refl _), Nat.sub_self, Nat.pow_zero, Nat.mul_one, List.take_of_length_le (by omega)] at h2
  exact h2
set_option maxRecDepth 100000 in
set_option maxHeartbeats 8000000 in
theorem ramt_f {w : World} {g : Nat} {q : Option Nat} {e : Int} {xs : List Int} (h : SR w g q e xs) (hq : ∀ b, q = some b → b < w.heap.size) (h0 : byO e xs = 0) (h1 : tkE 1 e xs ≠ 0) (h2 : tkR 1 e xs = []) :
  Calls Try.prog 179 #[.pointer (some ⟨g, 0, none⟩)] w (GotR w g q (.agg #[.int .u64 0, .int .u64 0, .int .u64 0, .int .u64 0]) (tkE 1 e xs, [])) := by
 have hgl := h.lt
 have hA : Below w.heap.size w (w.alloc (.cells #[Value.int .u64 0, .int .u64 0, .int .u64 0, .int .u64 0] 31)) := (Below.refl _ _).alloc (Nat.le_refl _) _
 have hsz : (w.alloc (.cells #[Value.int .u64 0, .int .u64 0, .int .u64 0, .int .u64 0] 31)).heap.size = w.heap.size + 1 := by simp
 have r0 : Row (w.alloc (.cells #[Value.int .u64 0, .int .u64 0, .int .u64 0, .int .u64 0] 31)) w.heap.size 31 #[.int .u64 0, .int .u64 0, .int .u64 0, .int .u64 0] := Row.new_at rfl
 have hby := rbyte_at (h.below hA)
 rw [h0, h2] at hby
 obtain ⟨k, hk⟩ : ∃ k, tkE 1 e xs = k := ⟨_, rfl⟩
 rw [hk] at h1 hby ⊢
 replace hby := Lib.hid hby
 have R0 := Lib.hid (show _ ∧ _ ∧ _ from ⟨hA, hsz, r0⟩)
 have hkq : (k != 0) = true := by simpa using h1
 clear h hA hsz r0 h0 h2 hk h1
 go_enter Try.func179, Try.ntmps179
 go_wp2_with fail
 refine hby.out.mono ?_
 rintro r w1 ⟨rfl, hs, ht⟩
 have c1 := hs.e1
 have r0 := K6.Row.tr R0.out.2.2 ht (by omega)
 replace ht : Tr (fun b => b = g) w w1 := (Tr.of R0.out.1 : Tr (fun b => b = g) w _).trans ht
 clear hby R0
 go_upto_region 3 with (fail)
 let L : List Sp := [sO 1 (w.heap.size) 31 [0] (fun g => aggOf g 0)]
 refine wp_region_six0 (shs L) (look6 L) (fun c => c = w.heap.size) (by kernel_rfl) (by kernel_rfl) (mk_St L [1] [1] (by kernel_rfl) (by kernel_rfl) ⟨ok_O aggOf_congr r0.lt (rfl), trivial⟩ (by simp)) ?_
 intro QQ hQ
 refine stepK rfl (by kernel_rfl) (fun K hK => ?_); go_simp
 apply Exists.intro; apply And.intro; (focus (intro wk hk; go_simp; exact ⟨rfl, rfl⟩)); refine hK _ _ ?_; clear hK K
 refine stepS _ rfl (by kernel_rfl) (fun K hK => ?_); go_simp
 refine ⟨?_, ?_⟩
 ·exact sStoreO rfl rfl rfl rfl rfl rfl r0 id (by kernel_rfl) rfl (by kernel_rfl) (by decide) aggOf_congr
 rintro ⟨v1, lo1, hi1⟩ - - (rfl : v1 = undef)
 refine hK _ _ ?_; clear hK K
 refine stepN ?_
 refine hQ _ _ ?_
 intro w9 hT hG hF
 clear c1 hkq
 have x0 : Row w9 (w.heap.size) 31 (#[.int .u64 0, .int .u64 0, .int .u64 0, .int .u64 0]) := hF 1 _ rfl rfl (by decide)
 have hs9 := hs.keep hT (fun hc => by have hc' : g = w.heap.size := hc; omega) (fun b hb hc => by have hc' : b = w.heap.size := hc; have := hq b hb; omega)
 have ht9 := ht.trans_new hT (fun b hb hlt => by have hb' : b = w.heap.size := hb; omega)
 clear hT hG hF hQ QQ L
 go_wp2_with fail
 refine bodyPost_ret (results_c rfl aggT31 rfl x0 rfl) rfl ?_
 exact ⟨rfl, hs9, ht9⟩
set_option maxRecDepth 100000 in
set_option maxHeartbeats 8000000 in
theorem ramt_big {w : World} {g n : Nat} {q : Option Nat} {cs : List Int} (h : SR w g q 0 ((n : Int) :: cs)) (hq : ∀ b, q = some b → b < w.heap.size) (hn : 32 < n) (hn2 : n < 256) :
  Calls Try.prog 179 #[.pointer (some ⟨g, 0, none⟩)] w (GotR w g q (.agg #[.int .u64 0, .int .u64 0, .int .u64 0, .int .u64 0]) (4, [])) := by
 have hgl := h.lt
 have hA : Below w.heap.size w (w.alloc (.cells #[Value.int .u64 0, .int .u64 0, .int .u64 0, .int .u64 0] 31)) := (Below.refl _ _).alloc (Nat.le_refl _) _
 have hsz : (w.alloc (.cells #[Value.int .u64 0, .int .u64 0, .int .u64 0, .int .u64 0] 31)).heap.size = w.heap.size + 1 := by simp
 have r0 : Row (w.alloc (.cells #[Value.int .u64 0, .int .u64 0, .int .u64 0, .int .u64 0] 31)) w.heap.size 31 #[.int .u64 0, .int .u64 0, .int .u64 0, .int .u64 0] := Row.new_at rfl
 have hn3 : (32 : Int) < (n : Int) := by omega
 have hby := rbyte_at (h.below hA)
 rw [show byO 0 ((n : Int) :: cs) = (n : Int) from by unfold byO tkO; simp, show tkE 1 0 ((n : Int) :: cs) = 0 from by unfold tkE; simp, show tkR 1 0 ((n : Int) :: cs) = cs from by unfold tkR; simp] at hby
 replace hby := Lib.hid hby
 have R0 := Lib.hid (show _ ∧ _ ∧ _ from ⟨hA, hsz, r0⟩)
 have wn : IntKind.i64.wrap (n : Int) = (n : Int) := by rw [IntKind.wrap_i64]; omega
 clear h hA hsz r0
 go_enter Try.func179, Try.ntmps179
 go_wp2_with fail
 refine hby.out.mono ?_
 rintro r w1 ⟨rfl, hs, ht⟩
 have c1 := hs.e1
 have r1 := K6.Row.tr R0.out.2.2 ht (by omega)
 replace ht : Tr (fun b => b = g) w w1 := (Tr.of R0.out.1 : Tr (fun b => b = g) w _).trans ht
 clear hby R0
 have wr := Lib.hid (wrong_at 4 hs)
 have HS := Lib.hid (show _ ∧ _ from ⟨ht, r1⟩)
 clear hs ht r1
 go_wp2_with fail
 refine wr.out.mono ?_
 rintro r w3 ⟨⟨u, rfl⟩, hs, ht3⟩
 have r0 := K6.Row.tr HS.out.2 ht3 (by omega)
 have ht : Tr (fun b => b = g) w w3 := HS.out.1.trans ht3
 clear HS wr ht3 c1
 go_upto_region 6 with (fail)
 let L : List Sp := [sO 1 (w.heap.size) 31 [0] (fun g => aggOf g 0)]
 refine wp_region_six0 (shs L) (look6 L) (fun c => c = w.heap.size) (by kernel_rfl) (by kernel_rfl) (mk_St L [1] [1] (by kernel_rfl) (by kernel_rfl) ⟨ok_O aggOf_congr r0.lt (rfl), trivial⟩ (by simp)) ?_
 intro QQ hQ
 refine stepK rfl (by kernel_rfl) (fun K hK => ?_); go_simp
 apply Exists.intro; apply And.intro; (focus (intro wk hk; go_simp; exact ⟨rfl, rfl⟩)); refine hK _ _ ?_; clear hK K
 refine stepS _ rfl (by kernel_rfl) (fun K hK => ?_); go_simp
 refine ⟨?_, ?_⟩
 ·exact sStoreO rfl rfl rfl rfl rfl rfl r0 id (by kernel_rfl) rfl (by kernel_rfl) (by decide) aggOf_congr
 rintro ⟨v1, lo1, hi1⟩ - - (rfl : v1 = undef)
 refine hK _ _ ?_; clear hK K
 refine stepN ?_
 refine hQ _ _ ?_
 intro w9 hT hG hF
 have x0 : Row w9 (w.heap.size) 31 (#[.int .u64 0, .int .u64 0, .int .u64 0, .int .u64 0]) := hF 1 _ rfl rfl (by decide)
 have hs9 := hs.keep hT (fun hc => by have hc' : g = w.heap.size := hc; omega) (fun b hb hc => by have hc' : b = w.heap.size := hc; have := hq b hb; omega)
 have ht9 := ht.trans_new hT (fun b hb hlt => by have hb' : b = w.heap.size := hb; omega)
 clear hT hG hF hQ QQ L
 go_wp2_with fail
 refine bodyPost_ret (results_c rfl aggT31 rfl x0 rfl) rfl ?_
 exact ⟨rfl, hs9, ht9⟩
set_option maxRecDepth 100000 in
set_option maxHeartbeats 8000000 in
theorem ramt_lead {w : World} {g n : Nat} {q : Option Nat} {ds : List Int} (h : SR w g q 0 ((n : Int) :: 0 :: ds)) (hq : ∀ b, q = some b → b < w.heap.size) (hn : n ≤ 32) (h0 : 0 < n) :
  Calls Try.prog 179 #[.pointer (some ⟨g, 0, none⟩)] w (GotR w g q (.agg #[.int .u64 0, .int .u64 0, .int .u64 0, .int .u64 0]) (4, [])) := by
 have hgl := h.lt
 have hA : Below w.heap.size w (w.alloc (.cells #[Value.int .u64 0, .int .u64 0, .int .u64 0, .int .u64 0] 31)) := (Below.refl _ _).alloc (Nat.le_refl _) _
 have hsz : (w.alloc (.cells #[Value.int .u64 0, .int .u64 0, .int .u64 0, .int .u64 0] 31)).heap.size = w.heap.size + 1 := by simp
 have r0 : Row (w.alloc (.cells #[Value.int .u64 0, .int .u64 0, .int .u64 0, .int .u64 0] 31)) w.heap.size 31 #[.int .u64 0, .int .u64 0, .int .u64 0, .int .u64 0] := Row.new_at rfl
 have hn3 : (n : Int) ≤ 32 := by omega
 have hn4 : (0 : Int) < (n : Int) := by omega
 have hby := rbyte_at (h.below hA)
 rw [show byO 0 ((n : Int) :: 0 :: ds) = (n : Int) from by unfold byO tkO; simp, show tkE 1 0 ((n : Int) :: 0 :: ds) = 0 from by unfold tkE; simp, show tkR 1 0 ((n : Int) :: 0 :: ds) = 0 :: ds from by unfold tkR; simp] at hby
 replace hby := Lib.hid hby
 have R0 := Lib.hid (show _ ∧ _ ∧ _ from ⟨hA, hsz, r0⟩)
 have wn : IntKind.i64.wrap (n : Int) = (n : Int) := by rw [IntKind.wrap_i64]; omega
 clear h hA hsz r0
 go_enter Try.func179, Try.ntmps179
 go_wp2_with fail
 refine hby.out.mono ?_
 rintro r w1 ⟨rfl, hs, ht⟩
 have c1 := hs.e1
 have r1 := K6.Row.tr R0.out.2.2 ht (by omega)
 replace ht : Tr (fun b => b = g) w w1 := (Tr.of R0.out.1 : Tr (fun b => b = g) w _).trans ht
 clear hby R0
 have wr := Lib.hid (wrong_at 4 hs)
 have HS := Lib.hid (show _ ∧ _ from ⟨ht, r1⟩)
 obtain ⟨b, o, cp, k0, k1⟩ := hs.hd
 have hpos : (0 : Int) < ((ds.length + 1 : Nat) : Int) := by omega
 clear hs ht r1
 go_wp2_with fail
 refine wr.out.mono ?_
 rintro r w3 ⟨⟨u, rfl⟩, hs, ht3⟩
 have r0 := K6.Row.tr HS.out.2 ht3 (by omega)
 have ht : Tr (fun b => b = g) w w3 := HS.out.1.trans ht3
 clear HS wr ht3 c1 k0 k1 hpos
 go_upto_region 9 with (fail)
 let L : List Sp := [sO 1 (w.heap.size) 31 [0] (fun g => aggOf g 0)]
 refine wp_region_six0 (shs L) (look6 L) (fun c => c = w.heap.size) (by kernel_rfl) (by kernel_rfl) (mk_St L [1] [1] (by kernel_rfl) (by kernel_rfl) ⟨ok_O aggOf_congr r0.lt (rfl), trivial⟩ (by simp)) ?_
 intro QQ hQ
 refine stepK rfl (by kernel_rfl) (fun K hK => ?_); go_simp
 apply Exists.intro; apply And.intro; (focus (intro wk hk; go_simp; exact ⟨rfl, rfl⟩)); refine hK _ _ ?_; clear hK K
 refine stepS _ rfl (by kernel_rfl) (fun K hK => ?_); go_simp
 refine ⟨?_, ?_⟩
 ·exact sStoreO rfl rfl rfl rfl rfl rfl r0 id (by kernel_rfl) rfl (by kernel_rfl) (by decide) aggOf_congr
 rintro ⟨v1, lo1, hi1⟩ - - (rfl : v1 = undef)
 refine hK _ _ ?_; clear hK K
 refine stepN ?_
 refine hQ _ _ ?_
 intro w9 hT hG hF
 have x0 : Row w9 (w.heap.size) 31 (#[.int .u64 0, .int .u64 0, .int .u64 0, .int .u64 0]) := hF 1 _ rfl rfl (by decide)
 have hs9 := hs.keep hT (fun hc => by have hc' : g = w.heap.size := hc; omega) (fun b hb hc => by have hc' : b = w.heap.size := hc; have := hq b hb; omega)
 have ht9 := ht.trans_new hT (fun b hb hlt => by have hb' : b = w.heap.size := hb; omega)
 clear hT hG hF hQ QQ L
 go_wp2_with fail
 refine bodyPost_ret (results_c rfl aggT31 rfl x0 rfl) rfl ?_
 exact ⟨rfl, hs9, ht9⟩
set_option maxRecDepth 100000 in
set_option maxHeartbeats 8000000 in
theorem ramt_z {w : World} {g : Nat} {q : Option Nat} {cs : List Int} (h : SR w g q 0 (((0 : Nat) : Int) :: cs)) (hq : ∀ b, q = some b → b < w.heap.size)  :
  Calls Try.prog 179 #[.pointer (some ⟨g, 0, none⟩)] w (GotR w g q (.agg (W4 0)) (0, cs)) := by
 have hgl := h.lt
 have hA : Below w.heap.size w (w.alloc (.cells #[Value.int .u64 0, .int .u64 0, .int .u64 0, .int .u64 0] 31)) := (Below.refl _ _).alloc (Nat.le_refl _) _
 have hsz : (w.alloc (.cells #[Value.int .u64 0, .int .u64 0, .int .u64 0, .int .u64 0] 31)).heap.size = w.heap.size + 1 := by simp
 have r0 : Row (w.alloc (.cells #[Value.int .u64 0, .int .u64 0, .int .u64 0, .int .u64 0] 31)) w.heap.size 31 #[.int .u64 0, .int .u64 0, .int .u64 0, .int .u64 0] := Row.new_at rfl
 obtain ⟨n, hn0⟩ : ∃ n : Nat, 0 = n := ⟨_, rfl⟩
 rw [hn0] at h
 have hn : n ≤ 32 := by omega
 have hn3 : (n : Int) ≤ 32 := by omega
 have hn4 : (n : Int) ≤ 0 := by omega
 have hby0 : By (cs) := fun x hx => h.2.1 x (List.mem_cons_of_mem _ hx)
 have hE : tkE n 0 (cs) = 0 := by unfold tkE; subst hn0; simp
 have hO : tkO n 0 (cs) = [] := by unfold tkO; subst hn0; simp
 have hR : tkR n 0 (cs) = cs := by unfold tkR; subst hn0; simp
 have HE := Lib.hid (show _ ∧ _ ∧ _ from ⟨hE, hO, hR⟩)
 have hOby : By ([]) := By.nil
 have hOl : ([] : List Int).length = n := by exact hn0
 obtain ⟨k, hk⟩ : ∃ k, 32 - n = k := ⟨_, rfl⟩
 have ek : (32 : Int) - (n : Int) = (k : Int) := by omega
 have wk : IntKind.i64.wrap (k : Int) = (k : Int) := by rw [IntKind.wrap_i64]; omega
 have mk := make8 k (by omega)
 have hzb : By (List.replicate k 0) := fun x hx => by rw [(List.mem_replicate.1 hx).2]; omega
 have HO := Lib.hid (show _ ∧ _ ∧ _ ∧ _ from ⟨hOby, hOl, hk, hzb⟩)
 clear hOby hOl hk hzb
 clear hE hO hR hby0 hn0
 have hby := rbyte_at (h.below hA)
 rw [show byO 0 ((n : Int) :: cs) = (n : Int) from by unfold byO tkO; simp, show tkE 1 0 ((n : Int) :: cs) = 0 from by unfold tkE; simp, show tkR 1 0 ((n : Int) :: cs) = cs from by unfold tkR; simp] at hby
 replace hby := Lib.hid hby
 have R0 := Lib.hid (show _ ∧ _ ∧ _ from ⟨hA, hsz, r0⟩)
 have wn : IntKind.i64.wrap (n : Int) = (n : Int) := by rw [IntKind.wrap_i64]; omega
 clear h hA hsz r0
 go_enter Try.func179, Try.ntmps179
 go_wp2_with fail
 refine hby.out.mono ?_
 rintro r w1 ⟨rfl, hs, ht⟩
 have c1 := hs.e1
 have r1 := K6.Row.tr R0.out.2.2 ht (by omega)
 replace ht : Tr (fun b => b = g) w w1 := (Tr.of R0.out.1 : Tr (fun b => b = g) w _).trans ht
 clear hby R0
 obtain ⟨a0, cp, k0⟩ := hs.b0
 have tk := rtake_at n hs
 unfold RTook at tk
 rw [HE.out.1, HE.out.2.1, HE.out.2.2] at tk
 replace tk := Lib.hid tk
 have HS := Lib.hid (show _ ∧ _ from ⟨ht, r1⟩)
 have hsw := r1.lt
 clear hs ht r1 HE
 go_wp2_with fail
 refine tk.out.mono ?_
 rintro r w2 ⟨v, rfl, ho, hs, ht3⟩
 have r0 := K6.Row.tr HS.out.2 ht3 (by omega)
 have ht : Tr (fun b => b = g) w w2 := HS.out.1.trans ht3
 clear HS tk ht3 c1 k0
 have c1 := hs.e1
 have ha : Below w2.heap.size w2 (w2.alloc (.cells (bv (List.replicate k 0)).toArray 5)) := (Below.refl _ _).alloc (Nat.le_refl _) _
 have hoA := made_own k (by omega) w2
 have hkl : k ≤ 32 := by have h9 := HO.out.2.2.1; omega
 obtain ⟨v2, w3, hrun, ho2, hg, -⟩ := append_run hoA (ho.bs.below ha) (by rw [List.length_replicate]; show k + 0 ≤ _; omega) (by simp)
 have hl3 : Below w2.heap.size w2 w3 := grew_below (Nat.le_refl _) (fun b hb => (hoA.lt b hb).1) hg
 have hlen : (List.replicate k 0 ++ ([] : List Int)).length = 32 := by have h8 := HO.out.2.1; have h9 := HO.out.2.2.1; rw [List.length_append, List.length_replicate]; simp at h8; show k + 0 = 32; omega
 have k96 := Lib.hid (rfrom32 hlen (HO.out.2.2.2.app HO.out.1) ho2)
 rw [beV_zeros] at k96
 obtain ⟨y0, y1, y2, y3, hW⟩ : ∃ y0 y1 y2 y3 : Int, W4 (beV ([])) = #[.int .u64 y0, .int .u64 y1, .int .u64 y2, .int .u64 y3] := ⟨_, _, _, _, rfl⟩
 rw [hW] at k96
 replace hW := Lib.hid hW
 have HS := Lib.hid (show _ ∧ _ ∧ _ ∧ _ from ⟨hs, ht, r0, hl3⟩)
 clear ha hoA ho hg hl3 hlen hs ht r0 HO ho2 hkl
 go_wp2_with (at_builtin; refine wpList_app rfl rfl rfl rfl hrun ?_)
 refine k96.out.mono ?_
 rintro r w4 ⟨rfl, hb4⟩
 obtain ⟨hs, ht, r0, hl3⟩ := HS.out
 have hl4 := hl3.trans (hb4.mono hl3.size)
 clear HS k96 hrun hl3 hb4
 have HL := Lib.hid (show _ ∧ _ ∧ _ ∧ _ from ⟨hs, ht, r0, hl4⟩)
 clear hs ht r0 hl4
 go_upto_region 14 with (fail)
 obtain ⟨hs, ht, r0, hl4⟩ := HL.out
 have hA4 : Below w4.heap.size w4 (w4.alloc (.cells #[.int .u64 y0, .int .u64 y1, .int .u64 y2, .int .u64 y3] 31)) := (Below.refl _ _).alloc (Nat.le_refl _) _
 have hl5 := hl4.trans (hA4.mono hl4.size)
 refine wp_abs (fun wx => SR wx g q 0 (cs) ∧ Tr (fun b => b = g) w wx ∧ Row wx w.heap.size 31 #[.int .u64 0, .int .u64 0, .int .u64 0, .int .u64 0] ∧ Row wx w4.heap.size 31 #[.int .u64 y0, .int .u64 y1, .int .u64 y2, .int .u64 y3]) ⟨hs.below hl5, ht.trans (Tr.of hl5), r0.below hl5 r0.lt, Row.new_at rfl⟩ ?_
 have h05 : w.heap.size < w4.heap.size := Nat.lt_of_lt_of_le r0.lt hl4.size
 clear hs ht r0 hl4 hA4 hl5 HL c1
 rintro w8 ⟨hs, ht, r0, r5⟩
 go_upto_region 14 with (fail)
 let L : List Sp := [sO 1 (w.heap.size) 31 [0] (fun g => aggOf g 0)]
 refine wp_region_six0 (shs L) (look6 L) (fun c => c = w.heap.size) (by kernel_rfl) (by kernel_rfl) (mk_St L [1] [1] (by kernel_rfl) (by kernel_rfl) ⟨ok_O aggOf_congr r0.lt (rfl), trivial⟩ (by simp)) ?_
 intro QQ hQ
 refine stepK rfl (by kernel_rfl) (fun K hK => ?_); go_simp
 apply Exists.intro; apply And.intro; (focus exact kLoad rfl rfl aggT31 r5 rfl id); refine hK _ _ ?_; clear hK K
 refine stepS _ rfl (by kernel_rfl) (fun K hK => ?_); go_simp
 refine ⟨?_, ?_⟩
 ·exact sStoreO rfl rfl rfl rfl rfl rfl r0 id (by kernel_rfl) rfl (by kernel_rfl) (by decide) aggOf_congr
 rintro ⟨v1, lo1, hi1⟩ - - (rfl : v1 = undef)
 refine hK _ _ ?_; clear hK K
 refine stepN ?_
 refine hQ _ _ ?_
 intro w9 hT hG hF
 have x0 : Row w9 (w.heap.size) 31 (#[.int .u64 y0, .int .u64 y1, .int .u64 y2, .int .u64 y3]) := hF 1 _ rfl rfl (by decide)
 have hs9 := hs.keep hT (fun hc => by have hc' : g = w.heap.size := hc; omega) (fun b hb hc => by have hc' : b = w.heap.size := hc; have := hq b hb; omega)
 have ht9 := ht.trans_new hT (fun b hb hlt => by have hb' : b = w.heap.size := hb; omega)
 clear hT hG hF hQ QQ L
 go_wp2_with fail
 refine bodyPost_ret (results_c rfl aggT31 rfl x0 rfl) rfl ?_
 exact ⟨by rw [← hW.out]; rfl, hs9, ht9⟩
set_option maxRecDepth 100000 in
set_option maxHeartbeats 8000000 in
theorem ramt_e {w : World} {g n : Nat} {q : Option Nat} (h : SR w g q 0 ((n : Int) :: [])) (hq : ∀ b, q = some b → b < w.heap.size) (hn : n ≤ 32) (h0 : 0 < n) :
  Calls Try.prog 179 #[.pointer (some ⟨g, 0, none⟩)] w (GotR w g q (.agg #[.int .u64 0, .int .u64 0, .int .u64 0, .int .u64 0]) (3, [])) := by
 have hgl := h.lt
 have hA : Below w.heap.size w (w.alloc (.cells #[Value.int .u64 0, .int .u64 0, .int .u64 0, .int .u64 0] 31)) := (Below.refl _ _).alloc (Nat.le_refl _) _
 have hsz : (w.alloc (.cells #[Value.int .u64 0, .int .u64 0, .int .u64 0, .int .u64 0] 31)).heap.size = w.heap.size + 1 := by simp
 have r0 : Row (w.alloc (.cells #[Value.int .u64 0, .int .u64 0, .int .u64 0, .int .u64 0] 31)) w.heap.size 31 #[.int .u64 0, .int .u64 0, .int .u64 0, .int .u64 0] := Row.new_at rfl
 have hn3 : (n : Int) ≤ 32 := by omega
 have hn4 : (0 : Int) < (n : Int) := by omega
 have hby0 : By ([]) := fun x hx => h.2.1 x (List.mem_cons_of_mem _ hx)
 have hE : tkE n 0 ([]) = 3 := by unfold tkE; rw [if_pos rfl, if_neg (by simp; omega)]
 have hO : tkO n 0 ([]) = [] := by unfold tkO; rw [if_pos rfl, if_neg (by simp; omega)]
 have hR : tkR n 0 ([]) = [] := by unfold tkR; rw [if_pos rfl, if_neg (by simp; omega)]
 have HE := Lib.hid (show _ ∧ _ ∧ _ from ⟨hE, hO, hR⟩)
 clear hE hO hR hby0
 have hby := rbyte_at (h.below hA)
 rw [show byO 0 ((n : Int) :: []) = (n : Int) from by unfold byO tkO; simp, show tkE 1 0 ((n : Int) :: []) = 0 from by unfold tkE; simp, show tkR 1 0 ((n : Int) :: []) = [] from by unfold tkR; simp] at hby
 replace hby := Lib.hid hby
 have R0 := Lib.hid (show _ ∧ _ ∧ _ from ⟨hA, hsz, r0⟩)
 have wn : IntKind.i64.wrap (n : Int) = (n : Int) := by rw [IntKind.wrap_i64]; omega
 clear h hA hsz r0
 go_enter Try.func179, Try.ntmps179
 go_wp2_with fail
 refine hby.out.mono ?_
 rintro r w1 ⟨rfl, hs, ht⟩
 have c1 := hs.e1
 have r1 := K6.Row.tr R0.out.2.2 ht (by omega)
 replace ht : Tr (fun b => b = g) w w1 := (Tr.of R0.out.1 : Tr (fun b => b = g) w _).trans ht
 clear hby R0
 obtain ⟨a0, cp, k0⟩ := hs.b0
 have tk := rtake_at n hs
 unfold RTook at tk
 rw [HE.out.1, HE.out.2.1, HE.out.2.2] at tk
 replace tk := Lib.hid tk
 have HS := Lib.hid (show _ ∧ _ from ⟨ht, r1⟩)
 have hsw := r1.lt
 clear hs ht r1 HE
 go_wp2_with fail
 refine tk.out.mono ?_
 rintro r w2 ⟨v, rfl, ho, hs, ht3⟩
 have r0 := K6.Row.tr HS.out.2 ht3 (by omega)
 have ht : Tr (fun b => b = g) w w2 := HS.out.1.trans ht3
 clear HS tk ht3 c1 k0
 have c1 := hs.e1
 clear ho hsw
 go_upto_region 12 with (fail)
 let L : List Sp := [sO 1 (w.heap.size) 31 [0] (fun g => aggOf g 0)]
 refine wp_region_six0 (shs L) (look6 L) (fun c => c = w.heap.size) (by kernel_rfl) (by kernel_rfl) (mk_St L [1] [1] (by kernel_rfl) (by kernel_rfl) ⟨ok_O aggOf_congr r0.lt (rfl), trivial⟩ (by simp)) ?_
 intro QQ hQ
 refine stepK rfl (by kernel_rfl) (fun K hK => ?_); go_simp
 apply Exists.intro; apply And.intro; (focus (intro wk hk; go_simp; exact ⟨rfl, rfl⟩)); refine hK _ _ ?_; clear hK K
 refine stepS _ rfl (by kernel_rfl) (fun K hK => ?_); go_simp
 refine ⟨?_, ?_⟩
 ·exact sStoreO rfl rfl rfl rfl rfl rfl r0 id (by kernel_rfl) rfl (by kernel_rfl) (by decide) aggOf_congr
 rintro ⟨v1, lo1, hi1⟩ - - (rfl : v1 = undef)
 refine hK _ _ ?_; clear hK K
 refine stepN ?_
 refine hQ _ _ ?_
 intro w9 hT hG hF
 have x0 : Row w9 (w.heap.size) 31 (#[.int .u64 0, .int .u64 0, .int .u64 0, .int .u64 0]) := hF 1 _ rfl rfl (by decide)
 have hs9 := hs.keep hT (fun hc => by have hc' : g = w.heap.size := hc; omega) (fun b hb hc => by have hc' : b = w.heap.size := hc; have := hq b hb; omega)
 have ht9 := ht.trans_new hT (fun b hb hlt => by have hb' : b = w.heap.size := hb; omega)
 clear hT hG hF hQ QQ L
 go_wp2_with fail
 refine bodyPost_ret (results_c rfl aggT31 rfl x0 rfl) rfl ?_
 exact ⟨rfl, hs9, ht9⟩
set_option maxRecDepth 100000 in
set_option maxHeartbeats 8000000 in
theorem ramt_f2 {w : World} {g n : Nat} {q : Option Nat} {d : Int} {ds : List Int} (h : SR w g q 0 ((n : Int) :: d :: ds)) (hq : ∀ b, q = some b → b < w.heap.size) (hn : n ≤ 32) (h0 : 0 < n) (hd : d ≠ 0) (hm : n ≤ (d :: ds).length) :
  Calls Try.prog 179 #[.pointer (some ⟨g, 0, none⟩)] w (GotR w g q (.agg (W4 (beV ((d :: ds).take n)))) (0, (d :: ds).drop n)) := by
 have hgl := h.lt
 have hA : Below w.heap.size w (w.alloc (.cells #[Value.int .u64 0, .int .u64 0, .int .u64 0, .int .u64 0] 31)) := (Below.refl _ _).alloc (Nat.le_refl _) _
 have hsz : (w.alloc (.cells #[Value.int .u64 0, .int .u64 0, .int .u64 0, .int .u64 0] 31)).heap.size = w.heap.size + 1 := by simp
 have r0 : Row (w.alloc (.cells #[Value.int .u64 0, .int .u64 0, .int .u64 0, .int .u64 0] 31)) w.heap.size 31 #[.int .u64 0, .int .u64 0, .int .u64 0, .int .u64 0] := Row.new_at rfl
 have hn3 : (n : Int) ≤ 32 := by omega
 have hn4 : (0 : Int) < (n : Int) := by omega
 have hdq : (d == 0) = false := by rw [beq_eq_false_iff_ne]; exact hd
 have hby0 : By (d :: ds) := fun x hx => h.2.1 x (List.mem_cons_of_mem _ hx)
 have hE : tkE n 0 (d :: ds) = 0 := by unfold tkE; rw [if_pos rfl, if_pos hm]
 have hO : tkO n 0 (d :: ds) = (d :: ds).take n := by unfold tkO; rw [if_pos rfl, if_pos hm]
 have hR : tkR n 0 (d :: ds) = (d :: ds).drop n := by unfold tkR; rw [if_pos rfl, if_pos hm]
 have HE := Lib.hid (show _ ∧ _ ∧ _ from ⟨hE, hO, hR⟩)
 have hOby : By ((d :: ds).take n) := hby0.take _
 have hOl : ((d :: ds).take n : List Int).length = n := by rw [List.length_take]; omega
 obtain ⟨k, hk⟩ : ∃ k, 32 - n = k := ⟨_, rfl⟩
 have ek : (32 : Int) - (n : Int) = (k : Int) := by omega
 have wk : IntKind.i64.wrap (k : Int) = (k : Int) := by rw [IntKind.wrap_i64]; omega
 have mk := make8 k (by omega)
 have hzb : By (List.replicate k 0) := fun x hx => by rw [(List.mem_replicate.1 hx).2]; omega
 have HO := Lib.hid (show _ ∧ _ ∧ _ ∧ _ from ⟨hOby, hOl, hk, hzb⟩)
 clear hOby hOl hk hzb
 clear hE hO hR hby0 hd hm
 have hby := rbyte_at (h.below hA)
 rw [show byO 0 ((n : Int) :: d :: ds) = (n : Int) from by unfold byO tkO; simp, show tkE 1 0 ((n : Int) :: d :: ds) = 0 from by unfold tkE; simp, show tkR 1 0 ((n : Int) :: d :: ds) = d :: ds from by unfold tkR; simp] at hby
 replace hby := Lib.hid hby
 have R0 := Lib.hid (show _ ∧ _ ∧ _ from ⟨hA, hsz, r0⟩)
 have wn : IntKind.i64.wrap (n : Int) = (n : Int) := by rw [IntKind.wrap_i64]; omega
 clear h hA hsz r0
 go_enter Try.func179, Try.ntmps179
 go_wp2_with fail
 refine hby.out.mono ?_
 rintro r w1 ⟨rfl, hs, ht⟩
 have c1 := hs.e1
 have r1 := K6.Row.tr R0.out.2.2 ht (by omega)
 replace ht : Tr (fun b => b = g) w w1 := (Tr.of R0.out.1 : Tr (fun b => b = g) w _).trans ht
 clear hby R0
 obtain ⟨b, o, cp, k0, k1⟩ := hs.hd
 have hpos : (0 : Int) < ((ds.length + 1 : Nat) : Int) := by omega
 have tk := rtake_at n hs
 unfold RTook at tk
 rw [HE.out.1, HE.out.2.1, HE.out.2.2] at tk
 replace tk := Lib.hid tk
 have HS := Lib.hid (show _ ∧ _ from ⟨ht, r1⟩)
 have hsw := r1.lt
 clear hs ht r1 HE
 go_wp2_with fail
 refine tk.out.mono ?_
 rintro r w2 ⟨v, rfl, ho, hs, ht3⟩
 have r0 := K6.Row.tr HS.out.2 ht3 (by omega)
 have ht : Tr (fun b => b = g) w w2 := HS.out.1.trans ht3
 clear HS tk ht3 c1 k0 k1 hpos hdq
 have c1 := hs.e1
 have ha : Below w2.heap.size w2 (w2.alloc (.cells (bv (List.replicate k 0)).toArray 5)) := (Below.refl _ _).alloc (Nat.le_refl _) _
 have hoA := made_own k (by omega) w2
 have hkl : k ≤ 32 := by have h9 := HO.out.2.2.1; omega
 obtain ⟨v2, w3, hrun, ho2, hg, -⟩ := append_run hoA (ho.bs.below ha) (by rw [List.length_replicate, HO.out.2.1]; omega) (by simp)
 have hl3 : Below w2.heap.size w2 w3 := grew_below (Nat.le_refl _) (fun b hb => (hoA.lt b hb).1) hg
 have hlen : (List.replicate k 0 ++ (d :: ds).take n).length = 32 := by rw [List.length_append, List.length_replicate, HO.out.2.1]; have := HO.out.2.2.1; omega
 have k96 := Lib.hid (rfrom32 hlen (HO.out.2.2.2.app HO.out.1) ho2)
 rw [beV_zeros] at k96
 obtain ⟨y0, y1, y2, y3, hW⟩ : ∃ y0 y1 y2 y3 : Int, W4 (beV ((d :: ds).take n)) = #[.int .u64 y0, .int .u64 y1, .int .u64 y2, .int .u64 y3] := ⟨_, _, _, _, rfl⟩
 rw [hW] at k96
 replace hW := Lib.hid hW
 have HS := Lib.hid (show _ ∧ _ ∧ _ ∧ _ from ⟨hs, ht, r0, hl3⟩)
 clear ha hoA ho hg hl3 hlen hs ht r0 HO ho2 hkl
 go_wp2_with (at_builtin; refine wpList_app rfl rfl rfl rfl hrun ?_)
 refine k96.out.mono ?_
 rintro r w4 ⟨rfl, hb4⟩
 obtain ⟨hs, ht, r0, hl3⟩ := HS.out
 have hl4 := hl3.trans (hb4.mono hl3.size)
 clear HS k96 hrun hl3 hb4
 have HL := Lib.hid (show _ ∧ _ ∧ _ ∧ _ from ⟨hs, ht, r0, hl4⟩)
 clear hs ht r0 hl4
 go_upto_region 14 with (fail)
 obtain ⟨hs, ht, r0, hl4⟩ := HL.out
 have hA4 : Below w4.heap.size w4 (w4.alloc (.cells #[.int .u64 y0, .int .u64 y1, .int .u64 y2, .int .u64 y3] 31)) := (Below.refl _ _).alloc (Nat.le_refl _) _
 have hl5 := hl4.trans (hA4.mono hl4.size)
 refine wp_abs (fun wx => SR wx g q 0 ((d :: ds).drop n) ∧ Tr (fun b => b = g) w wx ∧ Row wx w.heap.size 31 #[.int .u64 0, .int .u64 0, .int .u64 0, .int .u64 0] ∧ Row wx w4.heap.size 31 #[.int .u64 y0, .int .u64 y1, .int .u64 y2, .int .u64 y3]) ⟨hs.below hl5, ht.trans (Tr.of hl5), r0.below hl5 r0.lt, Row.new_at rfl⟩ ?_
 have h05 : w.heap.size < w4.heap.size := Nat.lt_of_lt_of_le r0.lt hl4.size
 clear hs ht r0 hl4 hA4 hl5 HL c1
 rintro w8 ⟨hs, ht, r0, r5⟩
 go_upto_region 14 with (fail)
 let L : List Sp := [sO 1 (w.heap.size) 31 [0] (fun g => aggOf g 0)]
 refine wp_region_six0 (shs L) (look6 L) (fun c => c = w.heap.size) (by kernel_rfl) (by kernel_rfl) (mk_St L [1] [1] (by kernel_rfl) (by kernel_rfl) ⟨ok_O aggOf_congr r0.lt (rfl), trivial⟩ (by simp)) ?_
 intro QQ hQ
 refine stepK rfl (by kernel_rfl) (fun K hK => ?_); go_simp
 apply Exists.intro; apply And.intro; (focus exact kLoad rfl rfl aggT31 r5 rfl id); refine hK _ _ ?_; clear hK K
 refine stepS _ rfl (by kernel_rfl) (fun K hK => ?_); go_simp
 refine ⟨?_, ?_⟩
 ·exact sStoreO rfl rfl rfl rfl rfl rfl r0 id (by kernel_rfl) rfl (by kernel_rfl) (by decide) aggOf_congr
 rintro ⟨v1, lo1, hi1⟩ - - (rfl : v1 = undef)
 refine hK _ _ ?_; clear hK K
 refine stepN ?_
 refine hQ _ _ ?_
 intro w9 hT hG hF
 have x0 : Row w9 (w.heap.size) 31 (#[.int .u64 y0, .int .u64 y1, .int .u64 y2, .int .u64 y3]) := hF 1 _ rfl rfl (by decide)
 have hs9 := hs.keep hT (fun hc => by have hc' : g = w.heap.size := hc; omega) (fun b hb hc => by have hc' : b = w.heap.size := hc; have := hq b hb; omega)
 have ht9 := ht.trans_new hT (fun b hb hlt => by have hb' : b = w.heap.size := hb; omega)
 clear hT hG hF hQ QQ L
 go_wp2_with fail
 refine bodyPost_ret (results_c rfl aggT31 rfl x0 rfl) rfl ?_
 exact ⟨by rw [← hW.out], hs9, ht9⟩
set_option maxRecDepth 100000 in
set_option maxHeartbeats 8000000 in
theorem ramt_s {w : World} {g n : Nat} {q : Option Nat} {d : Int} {ds : List Int} (h : SR w g q 0 ((n : Int) :: d :: ds)) (hq : ∀ b, q = some b → b < w.heap.size) (hn : n ≤ 32) (h0 : 0 < n) (hd : d ≠ 0) (hm : (d :: ds).length < n) :
  Calls Try.prog 179 #[.pointer (some ⟨g, 0, none⟩)] w (GotR w g q (.agg #[.int .u64 0, .int .u64 0, .int .u64 0, .int .u64 0]) (3, [])) := by
 have hgl := h.lt
 have hA : Below w.heap.size w (w.alloc (.cells #[Value.int .u64 0, .int .u64 0, .int .u64 0, .int .u64 0] 31)) := (Below.refl _ _).alloc (Nat.le_refl _) _
 have hsz : (w.alloc (.cells #[Value.int .u64 0, .int .u64 0, .int .u64 0, .int .u64 0] 31)).heap.size = w.heap.size + 1 := by simp
 have r0 : Row (w.alloc (.cells #[Value.int .u64 0, .int .u64 0, .int .u64 0, .int .u64 0] 31)) w.heap.size 31 #[.int .u64 0, .int .u64 0, .int .u64 0, .int .u64 0] := Row.new_at rfl
 have hn3 : (n : Int) ≤ 32 := by omega
 have hn4 : (0 : Int) < (n : Int) := by omega
 have hdq : (d == 0) = false := by rw [beq_eq_false_iff_ne]; exact hd
 have hby0 : By (d :: ds) := fun x hx => h.2.1 x (List.mem_cons_of_mem _ hx)
 have hE : tkE n 0 (d :: ds) = 3 := by unfold tkE; rw [if_pos rfl, if_neg (by omega)]
 have hO : tkO n 0 (d :: ds) = [] := by unfold tkO; rw [if_pos rfl, if_neg (by omega)]
 have hR : tkR n 0 (d :: ds) = [] := by unfold tkR; rw [if_pos rfl, if_neg (by omega)]
 have HE := Lib.hid (show _ ∧ _ ∧ _ from ⟨hE, hO, hR⟩)
 clear hE hO hR hby0 hd hm
 have hby := rbyte_at (h.below hA)
 rw [show byO 0 ((n : Int) :: d :: ds) = (n : Int) from by unfold byO tkO; simp, show tkE 1 0 ((n : Int) :: d :: ds) = 0 from by unfold tkE; simp, show tkR 1 0 ((n : Int) :: d :: ds) = d :: ds from by unfold tkR; simp] at hby
 replace hby := Lib.hid hby
 have R0 := Lib.hid (show _ ∧ _ ∧ _ from ⟨hA, hsz, r0⟩)
 have wn : IntKind.i64.wrap (n : Int) = (n : Int) := by rw [IntKind.wrap_i64]; omega
 clear h hA hsz r0
 go_enter Try.func179, Try.ntmps179
 go_wp2_with fail
 refine hby.out.mono ?_
 rintro r w1 ⟨rfl, hs, ht⟩
 have c1 := hs.e1
 have r1 := K6.Row.tr R0.out.2.2 ht (by omega)
 replace ht : Tr (fun b => b = g) w w1 := (Tr.of R0.out.1 : Tr (fun b => b = g) w _).trans ht
 clear hby R0
 obtain ⟨b, o, cp, k0, k1⟩ := hs.hd
 have hpos : (0 : Int) < ((ds.length + 1 : Nat) : Int) := by omega
 have tk := rtake_at n hs
 unfold RTook at tk
 rw [HE.out.1, HE.out.2.1, HE.out.2.2] at tk
 replace tk := Lib.hid tk
 have HS := Lib.hid (show _ ∧ _ from ⟨ht, r1⟩)
 have hsw := r1.lt
 clear hs ht r1 HE
 go_wp2_with fail
 refine tk.out.mono ?_
 rintro r w2 ⟨v, rfl, ho, hs, ht3⟩
 have r0 := K6.Row.tr HS.out.2 ht3 (by omega)
 have ht : Tr (fun b => b = g) w w2 := HS.out.1.trans ht3
 clear HS tk ht3 c1 k0 k1 hpos hdq
 have c1 := hs.e1
 clear ho hsw
 go_upto_region 12 with (fail)
 let L : List Sp := [sO 1 (w.heap.size) 31 [0] (fun g => aggOf g 0)]
 refine wp_region_six0 (shs L) (look6 L) (fun c => c = w.heap.size) (by kernel_rfl) (by kernel_rfl) (mk_St L [1] [1] (by kernel_rfl) (by kernel_rfl) ⟨ok_O aggOf_congr r0.lt (rfl), trivial⟩ (by simp)) ?_
 intro QQ hQ
 refine stepK rfl (by kernel_rfl) (fun K hK => ?_); go_simp
 apply Exists.intro; apply And.intro; (focus (intro wk hk; go_simp; exact ⟨rfl, rfl⟩)); refine hK _ _ ?_; clear hK K
 refine stepS _ rfl (by kernel_rfl) (fun K hK => ?_); go_simp
 refine ⟨?_, ?_⟩
 ·exact sStoreO rfl rfl rfl rfl rfl rfl r0 id (by kernel_rfl) rfl (by kernel_rfl) (by decide) aggOf_congr
 rintro ⟨v1, lo1, hi1⟩ - - (rfl : v1 = undef)
 refine hK _ _ ?_; clear hK K
 refine stepN ?_
 refine hQ _ _ ?_
 intro w9 hT hG hF
 have x0 : Row w9 (w.heap.size) 31 (#[.int .u64 0, .int .u64 0, .int .u64 0, .int .u64 0]) := hF 1 _ rfl rfl (by decide)
 have hs9 := hs.keep hT (fun hc => by have hc' : g = w.heap.size := hc; omega) (fun b hb hc => by have hc' : b = w.heap.size := hc; have := hq b hb; omega)
 have ht9 := ht.trans_new hT (fun b hb hlt => by have hb' : b = w.heap.size := hb; omega)
 clear hT hG hF hQ QQ L
 go_wp2_with fail
 refine bodyPost_ret (results_c rfl aggT31 rfl x0 rfl) rfl ?_
 exact ⟨rfl, hs9, ht9⟩
theorem ramt_at {w : World} {g : Nat} {q : Option Nat} {e : Int} {xs : List Int} (h : SR w g q e xs) (hq : ∀ b, q = some b → b < w.heap.size) :
  Calls Try.prog 179 #[.pointer (some ⟨g, 0, none⟩)] w (GotR w g q (.agg (W4 (gA (e, xs)).1)) (gA (e, xs)).2) := by
 by_cases he : e = 0
 ·subst he
  match xs, h with
  | [], h =>
   have h2 := ramt_f h hq (by unfold byO tkO; simp) (by unfold tkE; simp) (by unfold tkR; simp)
   rw [show tkE 1 0 [] = 3 from by unfold tkE; simp, W4_zero] at h2
   exact h2
  | c :: cs, h =>
   have hc := h.2.1 c (List.mem_cons_self ..)
   obtain ⟨n, rfl⟩ : ∃ n : Nat, c = (n : Int) := ⟨c.toNat, by omega⟩
   unfold gA
   rw [if_pos rfl]
   simp only
   by_cases h32 : 32 < n
   ·rw [if_pos (.inl (by omega))]
    have h2 := ramt_big h hq h32 (by omega)
    rw [W4_zero] at h2
    exact h2
   ·by_cases hz : n = 0
    ·subst hz
     rw [if_neg (by rintro (h | ⟨h, -⟩) <;> omega), if_pos (by simp)]
     exact ramt_z h hq
    ·match cs, h with
     | [], h =>
      rw [if_neg (by rintro (h | ⟨-, h⟩); omega; cases h), if_neg (by simp; omega)]
      have h2 := ramt_e h hq (by omega) (by omega)
      rw [W4_zero] at h2
      exact h2
     | d :: ds, h =>
      by_cases hd : d = 0
      ·subst hd
       rw [if_pos (.inr ⟨by omega, rfl⟩)]
       have h2 := ramt_lead h hq (by omega) (by omega)
       rw [W4_zero] at h2
       exact h2
      ·rw [if_neg (by rintro (h | ⟨-, h⟩); omega; exact hd (Option.some.inj h))]
       by_cases hm : n ≤ (d :: ds).length
       ·rw [if_pos (by rw [Int.toNat_natCast]; exact hm)]
        have h2 := ramt_f2 h hq (by omega) (by omega) hd hm
        rw [Int.toNat_natCast]
        exact h2
       ·rw [if_neg (by rw [Int.toNat_natCast]; exact hm)]
        have h2 := ramt_s h hq (by omega) (by omega) hd (by omega)
        rw [W4_zero] at h2
        exact h2
 ·have hx := h.1 he
  subst hx
  have h2 := ramt_f h hq (by unfold byO tkO; rw [if_neg he]; rfl) (by unfold tkE; rw [if_neg he]; exact he) (by unfold tkR; rw [if_neg he])
  rw [show tkE 1 e [] = e from by unfold tkE; rw [if_neg he], W4_zero] at h2
  unfold gA
  rw [if_neg he]
  exact h2
end Go.Proofs.Ytpdenhmkpiafiaa
namespace Go.Proofs.Ytpdenhmkpiafiaa
open Go Go.RowKit K6
theorem gV_by {most : Int} {s : St} (h : By s.2) : By (gV most s).2.2 := by
 unfold gV svR
 simp only
 split
 ·exact h.drop _
 ·exact By.nil
theorem gA_by {s : St} (h : By s.2) : By (gA s).2.2 := by
 unfold gA
 split
 ·split
  ·exact By.nil
  ·rename_i c cs e
   rw [e] at h
   split
   ·exact By.nil
   ·split
    ·exact h.tail.drop _
    ·exact By.nil
 ·exact By.nil
abbrev Short : St := (3, [])
theorem take_app_cases {α : Type} (a b : List α) (j : Nat) : (j < a.length ∧ (a ++ b).take j = a.take j) ∨ (a.length ≤ j ∧ (a ++ b).take j = a ++ b.take (j - a.length)) := by
 rcases Nat.lt_or_ge j a.length with h | h
 ·exact .inl ⟨h, List.take_append_of_le_length (by omega)⟩
 ·refine .inr ⟨h, ?_⟩
  rw [List.take_append, List.take_of_length_le h]
end Go.Proofs.Ytpdenhmkpiafiaa
