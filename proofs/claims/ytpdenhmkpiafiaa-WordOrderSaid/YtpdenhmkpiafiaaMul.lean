/-
  u256.Mul: the product of two numbers of four words, or that there is none.
-/
import Derived.Test.YtpdenhmkpiafiaaMulPlain
import Derived.Test.YtpdenhmkpiafiaaEq
import Derived.Deep.DeepCutAuto
namespace Go.Proofs.Ytpdenhmkpiafiaa
open Go Go.RowKit

theorem Row.four {w : World} {g t : Nat} {k : IntKind} {f : Nat → Int} (h : Row w g t (arr k f 4)) :
    (w.cell? ⟨g, 0, none⟩ = some (.int k (f 0)) ∧ w.cell? ⟨g, 1, none⟩ = some (.int k (f 1)) ∧ w.cell? ⟨g, 2, none⟩ = some (.int k (f 2)) ∧ w.cell? ⟨g, 3, none⟩ = some (.int k (f 3))) ∧
    w.frozen? ⟨g, 0, none⟩ = false ∧ w.frozen? ⟨g, 1, none⟩ = false ∧ w.frozen? ⟨g, 2, none⟩ = false ∧ w.frozen? ⟨g, 3, none⟩ = false :=
  ⟨⟨h.at_ 0 (by omega), h.at_ 1 (by omega), h.at_ 2 (by omega), h.at_ 3 (by omega)⟩, h.frozen 0, h.frozen 1, h.frozen 2, h.frozen 3⟩

theorem run_arrayAt {P : Program} {t n e : Nat} (ht : P.underlying t = some (.array n e)) (p : Addr) (c : Nat) (w : World) : (Instr.arrayAt t (.slice (some p) n c)).run P w = .ok (.pointer (some p)) w := by
  simp [Instr.arrayAt, run_underlying ht]
def bigB (a b : Nat) : Bool := decide ((5 : Int) < ((wlen a : Nat) : Int) + (wlen b : Nat))
set_option maxRecDepth 100000 in
set_option maxHeartbeats 4000000 in
theorem mul_any (a0 a1 a2 a3 b0 b1 b2 b3 : Int) (a b : Nat) (ha : IsW a0 a1 a2 a3 a) (hb : IsW b0 b1 b2 b3 b) (w : World) :
    Calls Try.prog 47 #[.agg #[.int .u64 a0, .int .u64 a1, .int .u64 a2, .int .u64 a3], .agg #[.int .u64 b0, .int .u64 b1, .int .u64 b2, .int .u64 b3]] w (Pair w (mulN a b) (mulB a b)) := by
  have at30 := fun p c wx => run_arrayAt (t := 30) Try.underlying30 p c wx
  have at31 := fun p c wx => run_arrayAt (t := 31) Try.underlying31 p c wx
  have q30 := eq30
  go_enter Try.func47, Try.ntmps47
  have la := wlen_le a
  have lb := wlen_le b
  have ew := Lib.hid (IntWalk.i64_in ((wlen a : Nat) + (wlen b : Nat) : Int) (by omega))
  go_wp2_with fail
  have hk0 : Kept w [(w.heap.size, 31, arr .u64 (sel4 a0 a1 a2 a3) 4), (w.heap.size + 1, 31, arr .u64 (sel4 b0 b1 b2 b3) 4), (w.heap.size + 1 + 1, 31, arr .u64 (fun _ => 0) 4)] (((w.alloc (.cells #[.int .u64 a0, .int .u64 a1, .int .u64 a2, .int .u64 a3] 31)).alloc (.cells #[.int .u64 b0, .int .u64 b1, .int .u64 b2, .int .u64 b3] 31)).alloc (.cells #[.int .u64 0, .int .u64 0, .int .u64 0, .int .u64 0] 31)) := by
    refine ((Kept.one ?_).more ?_ |>.more ?_).more ?_
    · go_grown
    all_goals repeat (first | (refine Row.new_at ?_; simp; done) | refine Row.alloc ?_ _)
  go_cut [18] (fun v wc => v = .bool (bigB a b) ∧ Kept w [(w.heap.size, 31, arr .u64 (sel4 a0 a1 a2 a3) 4), (w.heap.size + 1, 31, arr .u64 (sel4 b0 b1 b2 b3) 4), (w.heap.size + 1 + 1, 31, arr .u64 (fun _ => 0) 4)] wc)
  case first =>
    have hk0d := hk0.drew
    go_region_with (first | (go_at_call 159; (with_reducible refine (used_any a0 a1 a2 a3 a ha _).mono ?_); rintro e w' ⟨rfl, hb1⟩; obtain ⟨hc1, hf1⟩ := bcell hb1; have hk1 := Kept.step ‹Kept w _ _› hb1 (Nat.le_refl _)) | (go_at_call 159; (with_reducible refine (used_any b0 b1 b2 b3 b hb _).mono ?_); rintro e w' ⟨rfl, hb1⟩; obtain ⟨hc1, hf1⟩ := bcell hb1; have hk1 := Kept.step ‹Kept w _ _› hb1 (Nat.le_refl _)))
    all_goals
      go_wp2_with fail
      go_meet
      case rel => exact ⟨by rw [ew.out]; rfl, ‹Kept w _ _›⟩
  case rest =>
    obtain ⟨rfl, hkc⟩ := hcut
    clear hk0
    cases hB : bigB a b with
    | true =>
      have hbig := Lib.hid (big_mul (a := a) (b := b) (by have := of_decide_eq_true hB; omega))
      have rr := hkc.tail.tail.head
      have hl := hkc.1
      obtain ⟨⟨d0, d1, d2, d3⟩, f0, f1, f2, f3⟩ := rr.four
      have RR := Lib.hid rr
      clear rr hkc hB
      go_wp2
      refine bodyPost_ret (results_ct rfl aggT31 rfl (RR.out.store4 rfl _ _ _ _) rfl) rfl ?_
      exact ⟨_, _, _, _, by rw [show mulB a b = false from decide_eq_false hbig.out]; rfl, by rw [show mulN a b = 0 from if_neg hbig.out]; exact isW_zero, by go_grown⟩
    | false =>
      clear hB
      have ra := hkc.head
      have rb := hkc.tail.head
      have rr := hkc.tail.tail.head
      have hl := hkc.1
      have z0 := ra.lt
      have z1 := rb.lt
      have z2 := rr.lt
      obtain ⟨⟨c0, c1, c2, c3⟩, _⟩ := ra.four
      have RR := Lib.hid (show _ ∧ _ ∧ _ from ⟨ra, rb, rr⟩)
      clear ra rb rr hkc
      go_wp2_with fail
      refine (used_any a0 a1 a2 a3 a ha _).mono ?_
      rintro e w1 ⟨rfl, hb1⟩
      obtain ⟨ra, rb, rr⟩ := RR.out
      have ra1 := (ra.alloc (.cells #[.int .u64 0, .int .u64 0, .int .u64 0, .int .u64 0, .int .u64 0, .int .u64 0, .int .u64 0, .int .u64 0] 147)).below hb1 (by go_size)
      have rb1 := (rb.alloc (.cells #[.int .u64 0, .int .u64 0, .int .u64 0, .int .u64 0, .int .u64 0, .int .u64 0, .int .u64 0, .int .u64 0] 147)).below hb1 (by go_size)
      have rr1 := (rr.alloc (.cells #[.int .u64 0, .int .u64 0, .int .u64 0, .int .u64 0, .int .u64 0, .int .u64 0, .int .u64 0, .int .u64 0] 147)).below hb1 (by go_size)
      have ro1 : Row w1 wc.heap.size 147 (arr .u64 (fun _ => 0) 8) := Row.below (Row.new_at rfl) hb1 (by go_size)
      have hl1 : Below w.heap.size w w1 := (hl.alloc (by omega) _).trans (hb1.mono (by simp; omega))
      clear ra rb rr RR hb1 c0 c1 c2 c3 hl
      go_wp2_with fail
      go_loopg [22] (wlen a) (fun g c wr => ∃ (i : Nat) (f : Nat → Int), i + g = wlen a ∧ c = .int .i64 (i : Int) ∧ Below w.heap.size w wr ∧ Row wr w.heap.size 31 (arr .u64 (sel4 a0 a1 a2 a3) 4) ∧ Row wr (w.heap.size + 1) 31 (arr .u64 (sel4 b0 b1 b2 b3) 4) ∧ Row wr (w.heap.size + 1 + 1) 31 (arr .u64 (fun _ => 0) 4) ∧ Row wr wc.heap.size 147 (arr .u64 f 8) ∧ MulInv f (sel4 a0 a1 a2 a3) (sel4 b0 b1 b2 b3) i)
      case atStart => exact ⟨0, _, by omega, rfl, hl1, ra1, rb1, rr1, ro1, MulInv.zero _ _⟩
      case round =>
        obtain ⟨i, f, hi, rfl, hl2, ra2, rb2, rr2, ro2, inv⟩ := hrel
        obtain ⟨wo, rfl⟩ : ∃ wo : World, wo = wr := ⟨_, rfl⟩
        obtain ⟨g1, rfl⟩ : ∃ g1 : Nat, g1 = gk := ⟨_, rfl⟩
        clear ra1 rb1 rr1 ro1 hl1
        by_cases hlt : i < wlen a
        · have H2 := Lib.hid (show _ ∧ _ ∧ _ ∧ _ ∧ _ from ⟨ra2, rb2, rr2, ro2, inv⟩)
          clear ra2 rb2 rr2 ro2 inv
          go_wp2_with fail
          go_loopg [8, 25] 4 (fun g c jv wi => ∃ (j : Nat) (f : Nat → Int) (C : Int), j + g = 4 ∧ jv = .int .i64 (j : Int) ∧ c = .int .u64 C ∧ Below w.heap.size w wi ∧ Row wi w.heap.size 31 (arr .u64 (sel4 a0 a1 a2 a3) 4) ∧ Row wi (w.heap.size + 1) 31 (arr .u64 (sel4 b0 b1 b2 b3) 4) ∧ Row wi (w.heap.size + 1 + 1) 31 (arr .u64 (fun _ => 0) 4) ∧ Row wi wc.heap.size 147 (arr .u64 f 8) ∧ MulMid f C (sel4 a0 a1 a2 a3) (sel4 b0 b1 b2 b3) i j)
          case atStart =>
            obtain ⟨ra2, rb2, rr2, ro2, inv⟩ := H2.out
            exact ⟨0, f, 0, by omega, rfl, rfl, hl2, ra2, rb2, rr2, ro2, inv.mid⟩
          case round =>
            obtain ⟨j, f', C, hj, rfl, rfl, hl3, ra3, rb3, rr3, ro3, mid⟩ := hrel
            by_cases hlj : j < 4
            · have ca := ra3.at_ i (by omega)
              have cb := rb3.at_ j hlj
              have co := ro3.at_ (i + j) (by omega)
              have fo := ro3.frozen (i + j)
              have wa := ha.wordy i
              have wb := hb.wordy j
              have wf := mid.1 (i + j)
              have hC0 := mid.2.2.1
              have hC1 := mid.2.2.2.1
              have st := Lib.hid (mul_step _ _ _ _ wa wb wf ⟨hC0, hC1⟩)
              have H3 := Lib.hid (show _ ∧ _ ∧ _ ∧ _ ∧ _ from ⟨ra3, rb3, rr3, ro3, mid⟩)
              clear ra3 rb3 rr3 ro3 mid
              go_wp2_with fail
              go_quiet ((go_at_call 160; exact Calls.quiet_of_same ((product_any _ _ _ wa wb).mono fun e w' h => ⟨h.1, h.2.symm⟩)))
              go_wp2_with fail
              refine (carry_any _ _ _ _ (pL_bd _ _) wf (by omega)).mono ?_
              rintro e w' ⟨rfl, rfl⟩
              go_wp2_with fail
              refine (carry_any _ _ _ _ (cS_bd _ _ _) ⟨hC0, hC1⟩ (by omega)).mono ?_
              rintro e w' ⟨rfl, rfl⟩
              go_wp2_with fail
              go_roundg (gk - 1)
              case measure => omega
              case rel =>
                obtain ⟨ra3, rb3, rr3, ro3, mid⟩ := H3.out
                have hs := st.out
                rw [hs.1, hs.2.1]
                refine ⟨j + 1, _, _, by omega, by go_num, rfl, (belowDN hl3 _).setCell (by dsimp only; omega) _, Row.far (w := wr.drewN _) (ra3.drewN _) (by dsimp only; omega) _, Row.far (w := wr.drewN _) (rb3.drewN _) (by dsimp only; omega) _, Row.far (w := wr.drewN _) (rr3.drewN _) (by dsimp only; omega) _, Row.put (w := wr.drewN _) (ro3.drewN _) (i + j) (by omega) _, mid.step ha.wordy hb.wordy hlj⟩
            · obtain rfl : j = 4 := by omega
              have ci := ro3.at_ (i + 4) (by omega)
              have fi := ro3.frozen (i + 4)
              have H3 := Lib.hid (show _ ∧ _ ∧ _ ∧ _ ∧ _ from ⟨ra3, rb3, rr3, ro3, mid⟩)
              clear ra3 rb3 rr3 ro3 mid hlj
              go_wp2_with fail
              go_roundg (g1 - 1)
              case measure => omega
              case rel =>
                obtain ⟨ra3, rb3, rr3, ro3, mid⟩ := H3.out
                exact ⟨i + 1, _, by omega, by go_num, hl3.setCell (by dsimp only; omega) _, ra3.far (by dsimp only; omega) _, rb3.far (by dsimp only; omega) _, rr3.far (by dsimp only; omega) _, ro3.put (i + 4) (by omega) _, mid.done⟩
        · obtain rfl : i = wlen a := by omega
          have lo := low_iff inv.1 (mul_fin ha hb inv)
          have o0 := ro2.at_ 0 (by omega)
          have o1 := ro2.at_ 1 (by omega)
          have o2 := ro2.at_ 2 (by omega)
          have o3 := ro2.at_ 3 (by omega)
          have o4 := ro2.at_ 4 (by omega)
          have o5 := ro2.at_ 5 (by omega)
          have o6 := ro2.at_ 6 (by omega)
          have o7 := ro2.at_ 7 (by omega)
          obtain ⟨⟨d0, d1, d2, d3⟩, f0, f1, f2, f3⟩ := rr2.four
          have RR := Lib.hid rr2
          clear ra2 rb2 rr2 ro2 inv hlt
          by_cases hlow : Low f
          · have fin := Lib.hid (lo.1 hlow)
            obtain ⟨e4, e5, e6, e7⟩ := hlow
            rw [e4] at o4
            rw [e5] at o5
            rw [e6] at o6
            rw [e7] at o7
            clear lo e4 e5 e6 e7
            go_wp2_with fail
            refine bodyPost_ret (results_ct rfl aggT31 rfl (RR.out.store4 rfl _ _ _ _) rfl) rfl ?_
            exact ⟨_, _, _, _, by rw [show mulB a b = true from decide_eq_true fin.out.2]; rfl, by rw [show mulN a b = a * b from if_pos fin.out.2]; exact fin.out.1, by go_grown⟩
          · have fin := Lib.hid (lo.2 hlow)
            have hno : (f 4 == 0 && (f 5 == 0 && (f 6 == 0 && f 7 == 0))) = false := by
              cases hb : (f 4 == 0 && (f 5 == 0 && (f 6 == 0 && f 7 == 0))) with
              | false => rfl
              | true => simp at hb; exact absurd hb hlow
            clear lo hlow
            go_wp2_with fail
            refine bodyPost_ret (results_ct rfl aggT31 rfl (RR.out.store4 rfl _ _ _ _) rfl) rfl ?_
            exact ⟨_, _, _, _, by rw [show mulB a b = false from decide_eq_false fin.out]; rfl, by rw [show mulN a b = 0 from if_neg fin.out]; exact isW_zero, by go_grown⟩
end Go.Proofs.Ytpdenhmkpiafiaa
