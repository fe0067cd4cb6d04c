/-
  event.Name (79).
-/
import Derived.Test.YtpdenhmkpiafiaaGD
import Derived.Test.YtpdenhmkpiafiaaRefOf
namespace Go.Proofs.Ytpdenhmkpiafiaa
open Go Go.RowKit K6

/-- the kinds' words -/
def nmB : List ByteArray := [ByteArray.mk #[], ByteArray.mk #[109, 105, 110, 116], ByteArray.mk #[112, 97, 117, 115, 101], ByteArray.mk #[115, 116, 114, 97, 116, 101, 103, 121], ByteArray.mk #[97, 108, 108, 111, 119], ByteArray.mk #[116, 114, 97, 110, 115, 102, 101, 114], ByteArray.mk #[100, 101, 112, 111, 115, 105, 116], ByteArray.mk #[100, 111, 110, 97, 116, 101], ByteArray.mk #[111, 112, 101, 114, 97, 116, 111, 114], ByteArray.mk #[100, 101, 108, 101, 103, 97, 116, 101], ByteArray.mk #[101, 120, 105, 116], ByteArray.mk #[99, 111, 109, 112, 108, 101, 116, 101], ByteArray.mk #[100, 101, 108, 97, 121], ByteArray.mk #[115, 101, 114, 118, 105, 99, 101], ByteArray.mk #[115, 101, 116], ByteArray.mk #[106, 111, 105, 110], ByteArray.mk #[108, 101, 97, 118, 101], ByteArray.mk #[97, 108, 108, 111, 99, 97, 116, 101], ByteArray.mk #[109, 97, 116, 117, 114, 101], ByteArray.mk #[115, 108, 97, 115, 104], ByteArray.mk #[98, 117, 114, 110], ByteArray.mk #[115, 117, 98, 109, 105, 116], ByteArray.mk #[112, 111, 115, 116], ByteArray.mk #[100, 105, 115, 97, 98, 108, 101], ByteArray.mk #[99, 108, 97, 105, 109, 101, 114], ByteArray.mk #[99, 108, 97, 105, 109], ByteArray.mk #[115, 112, 108, 105, 116]]
def unkB : ByteArray := ByteArray.mk #[117, 110, 107, 110, 111, 119, 110]
def nmOf (k : Int) : ByteArray := if 1 ≤ k ∧ k ≤ 26 then nmB.getD k.toNat unkB else unkB
def nmA : Array Value := #[.string (ByteArray.mk #[]), .string (ByteArray.mk #[109, 105, 110, 116]), .string (ByteArray.mk #[112, 97, 117, 115, 101]), .string (ByteArray.mk #[115, 116, 114, 97, 116, 101, 103, 121]), .string (ByteArray.mk #[97, 108, 108, 111, 119]), .string (ByteArray.mk #[116, 114, 97, 110, 115, 102, 101, 114]), .string (ByteArray.mk #[100, 101, 112, 111, 115, 105, 116]), .string (ByteArray.mk #[100, 111, 110, 97, 116, 101]), .string (ByteArray.mk #[111, 112, 101, 114, 97, 116, 111, 114]), .string (ByteArray.mk #[100, 101, 108, 101, 103, 97, 116, 101]), .string (ByteArray.mk #[101, 120, 105, 116]), .string (ByteArray.mk #[99, 111, 109, 112, 108, 101, 116, 101]), .string (ByteArray.mk #[100, 101, 108, 97, 121]), .string (ByteArray.mk #[115, 101, 114, 118, 105, 99, 101]), .string (ByteArray.mk #[115, 101, 116]), .string (ByteArray.mk #[106, 111, 105, 110]), .string (ByteArray.mk #[108, 101, 97, 118, 101]), .string (ByteArray.mk #[97, 108, 108, 111, 99, 97, 116, 101]), .string (ByteArray.mk #[109, 97, 116, 117, 114, 101]), .string (ByteArray.mk #[115, 108, 97, 115, 104]), .string (ByteArray.mk #[98, 117, 114, 110]), .string (ByteArray.mk #[115, 117, 98, 109, 105, 116]), .string (ByteArray.mk #[112, 111, 115, 116]), .string (ByteArray.mk #[100, 105, 115, 97, 98, 108, 101]), .string (ByteArray.mk #[99, 108, 97, 105, 109, 101, 114]), .string (ByteArray.mk #[99, 108, 97, 105, 109]), .string (ByteArray.mk #[115, 112, 108, 105, 116])]
def nmZ : Array Value := #[.string (ByteArray.mk #[]), .string (ByteArray.mk #[]), .string (ByteArray.mk #[]), .string (ByteArray.mk #[]), .string (ByteArray.mk #[]), .string (ByteArray.mk #[]), .string (ByteArray.mk #[]), .string (ByteArray.mk #[]), .string (ByteArray.mk #[]), .string (ByteArray.mk #[]), .string (ByteArray.mk #[]), .string (ByteArray.mk #[]), .string (ByteArray.mk #[]), .string (ByteArray.mk #[]), .string (ByteArray.mk #[]), .string (ByteArray.mk #[]), .string (ByteArray.mk #[]), .string (ByteArray.mk #[]), .string (ByteArray.mk #[]), .string (ByteArray.mk #[]), .string (ByteArray.mk #[]), .string (ByteArray.mk #[]), .string (ByteArray.mk #[]), .string (ByteArray.mk #[]), .string (ByteArray.mk #[]), .string (ByteArray.mk #[]), .string (ByteArray.mk #[])]
theorem nm_at : ∀ i, i < 27 → nmA[i]? = some (.string (nmB.getD i unkB)) := fun i hi => by
  have h : i = 0 ∨ i = 1 ∨ i = 2 ∨ i = 3 ∨ i = 4 ∨ i = 5 ∨ i = 6 ∨ i = 7 ∨ i = 8 ∨ i = 9 ∨ i = 10 ∨ i = 11 ∨ i = 12 ∨ i = 13 ∨ i = 14 ∨ i = 15 ∨ i = 16 ∨ i = 17 ∨ i = 18 ∨ i = 19 ∨ i = 20 ∨ i = 21 ∨ i = 22 ∨ i = 23 ∨ i = 24 ∨ i = 25 ∨ i = 26 := by omega
  rcases h with rfl | rfl | rfl | rfl | rfl | rfl | rfl | rfl | rfl | rfl | rfl | rfl | rfl | rfl | rfl | rfl | rfl | rfl | rfl | rfl | rfl | rfl | rfl | rfl | rfl | rfl | rfl <;> rfl
set_option maxRecDepth 100000 in
set_option maxHeartbeats 8000000 in
theorem name_at (k : Int) (w : World) : Calls Try.prog 79 #[.int .i64 k] w fun e w' => e = .returned (.string (nmOf k)) ∧ Below w.heap.size w w' := by
  obtain ⟨S, hS⟩ : ∃ S, nmOf k = S := ⟨_, rfl⟩
  rw [hS]
  have hS' := Lib.hid hS
  clear hS
  go_enter Try.func79, Try.ntmps79
  go_upto_region 1 with (fail)
  let L : List Sp := [sV 0 [] [] (fun u => u = .agg nmA), sA 1 177 [2] nmZ, sT 2 1 177 [0] (fun g => aggOf g 0)]
  refine wp_region_six0 (shs L) (look6 L) (None_) (by kernel_rfl) (by kernel_rfl) (mk_St L [] [] (by kernel_rfl) (by kernel_rfl) ⟨ok_V ⟨_, rfl⟩, ok_A, ok_T aggOf_congr, trivial⟩ (by simp)) ?_
  intro QQ hQ
  -- 0: build<177> 1:str(ByteArray.mk (List.toArray (List.cons 109 (List.cons 105 (List.cons 110 (List.c, 2:str(ByteArray.mk (List.toArray (List.cons 112 (List.cons 97 (List.cons 117 (List.co, 3:str(ByteArray.mk (List.toArray (List.cons 115 (List.cons 116 (List.cons 114 (List.c, 4:str(ByteArray.mk (List.toArray (List.cons 97 (List.cons 108 (List.cons 108 (List.co, 5:str(ByteArray.mk (List.toArray (List.cons 116 (List.cons 114 (List.cons 97 (List.co, 6:str(ByteArray.mk (List.toArray (List.cons 100 (List.cons 101 (List.cons 112 (List.c, 7:str(ByteArray.mk (List.toArray (List.cons 100 (List.cons 111 (List.cons 110 (List.c, 8:str(ByteArray.mk (List.toArray (List.cons 111 (List.cons 112 (List.cons 101 (List.c, 9:str(ByteArray.mk (List.toArray (List.cons 100 (List.cons 101 (List.cons 108 (List.c, 10:str(ByteArray.mk (List.toArray (List.cons 101 (List.cons 120 (List.cons 105 (List.c, 11:str(ByteArray.mk (List.toArray (List.cons 99 (List.cons 111 (List.cons 109 (List.co, 12:str(ByteArray.mk (List.toArray (List.cons 100 (List.cons 101 (List.cons 108 (List.c, 13:str(ByteArray.mk (List.toArray (List.cons 115 (List.cons 101 (List.cons 114 (List.c, 14:str(ByteArray.mk (List.toArray (List.cons 115 (List.cons 101 (List.cons 116 List.ni, 15:str(ByteArray.mk (List.toArray (List.cons 106 (List.cons 111 (List.cons 105 (List.c, 16:str(ByteArray.mk (List.toArray (List.cons 108 (List.cons 101 (List.cons 97 (List.co, 17:str(ByteArray.mk (List.toArray (List.cons 97 (List.cons 108 (List.cons 108 (List.co, 18:str(ByteArray.mk (List.toArray (List.cons 109 (List.cons 97 (List.cons 116 (List.co, 19:str(ByteArray.mk (List.toArray (List.cons 115 (List.cons 108 (List.cons 97 (List.co, 20:str(ByteArray.mk (List.toArray (List.cons 98 (List.cons 117 (List.cons 114 (List.co, 21:str(ByteArray.mk (List.toArray (List.cons 115 (List.cons 117 (List.cons 98 (List.co, 22:str(ByteArray.mk (List.toArray (List.cons 112 (List.cons 111 (List.cons 115 (List.c, 23:str(ByteArray.mk (List.toArray (List.cons 100 (List.cons 105 (List.cons 115 (List.c, 24:str(ByteArray.mk (List.toArray (List.cons 99 (List.cons 108 (List.cons 97 (List.con, 25:str(ByteArray.mk (List.toArray (List.cons 99 (List.cons 108 (List.cons 97 (List.con, 26:str(ByteArray.mk (List.toArray (List.cons 115 (List.cons 112 (List.cons 108 (List.c
  refine stepS _ rfl (by kernel_rfl) (fun K hK => ?_); go_simp
  refine ⟨?_, ?_⟩
  · intro wk hk hg hu; go_simp; exact left_V (p := fun u => u = .agg nmA) rfl (Below.refl _ _) (by unfold nmA; rfl)
  rintro ⟨v0, lo0, hi0⟩ - - (rfl : v0 = _)
  refine hK _ _ ?_; clear hK K
  -- 1: alloc<177>
  refine stepS _ rfl (by kernel_rfl) (fun K hK => ?_); go_simp
  refine ⟨?_, ?_⟩
  · intro wk hk hg hu; go_simp; exact left_A rfl rfl
  rintro ⟨v1, lo1, hi1⟩ hlo1 hhi1 ⟨e1, f1⟩
  replace e1 : v1 = .pointer (some ⟨lo1, 0, none⟩) := e1; replace f1 : hi1 = lo1 + 1 := f1; replace hlo1 : _ ≤ lo1 := hlo1; subst e1; subst f1
  refine hK _ _ ?_; clear hK K
  -- 2: store<177> *t3 = t4
  refine stepS _ rfl (by kernel_rfl) (fun K hK => ?_); go_simp
  refine ⟨?_, ?_⟩
  · exact sStoreT rfl rfl rfl rfl rfl rfl rfl (by kernel_rfl) rfl (by kernel_rfl) (by decide) aggOf_congr
  rintro ⟨v2, lo2, hi2⟩ - - (rfl : v2 = undef)
  refine hK _ _ ?_; clear hK K
  refine stepN ?_
  refine hQ _ _ ?_
  intro w1 hT hG hF
  have hb := hT.below
  have r3 : Row w1 lo1 177 nmA := (hF 2 _ rfl rfl (by decide)).2
  clear hT hG hF hQ QQ L
  by_cases h1 : k < 1
  · have e : S = unkB := by rw [← hS'.out]; unfold nmOf; rw [if_neg (by omega)]
    subst e
    have H := Lib.hid hb
    clear hS' hb r3 hlo1
    go_wp2_with fail
    go_ret
    exact ⟨by first | rfl | (simp; done), H.out⟩
  · by_cases h2 : 26 < k
    · have e : S = unkB := by rw [← hS'.out]; unfold nmOf; rw [if_neg (by omega)]
      subst e
      have H := Lib.hid hb
      clear hS' hb r3 hlo1
      go_wp2_with fail
      go_ret
      exact ⟨by first | rfl | (simp; done), H.out⟩
    · obtain ⟨i, hi⟩ : ∃ i : Nat, k = (i : Int) := ⟨k.toNat, by omega⟩
      have e : nmB.getD i unkB = S := by rw [← hS'.out, hi]; unfold nmOf; rw [if_pos (by omega), Int.toNat_natCast]
      have c0 : w1.cell? ⟨lo1, i, none⟩ = some (.string S) := by rw [← e, ← nm_at i (by omega)]; exact r3.cell i
      have hlt : (i : Int) < 27 := by omega
      have hge : (0 : Int) ≤ (i : Int) := by omega
      have h1' : ¬ (i : Int) < 1 := by omega
      have h2' : ¬ (26 : Int) < (i : Int) := by omega
      have H := Lib.hid hb
      clear hS' e hb r3 hlo1 h1 h2
      subst hi
      go_wp2_with fail
      go_ret
      exact ⟨by first | rfl | (simp; done), H.out⟩
end Go.Proofs.Ytpdenhmkpiafiaa
