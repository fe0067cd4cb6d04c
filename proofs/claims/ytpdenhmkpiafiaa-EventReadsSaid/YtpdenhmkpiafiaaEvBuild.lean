/-
  strings.Builder: WriteString (184) and String (185), by the library's contracts laid over this program.
-/
import Derived.Test.YtpdenhmkpiafiaaGD
import Derived.Test.YtpdenhmkpiafiaaProg
import Derived.Shelf.Strings.BuilderK
namespace Go.Proofs.Ytpdenhmkpiafiaa
open Go Go.Shelf Go.Proofs Go.RowKit K6

def bld_ren : Go.Shelf.Ren := ⟨fun | 166 => 184 | 169 => 185 | 240 => 231 | 276 => 253 | n => n, fun | 37 => 33 | 70 => 165 | 72 => 167 | 75 => 169 | 80 => 172 | 127 => 218 | 164 => 236 | n => n, fun n => n⟩
theorem bld_lays166 : Lays.n166 Try.prog bld_ren := {
  mixed := by kernel_rfl
  f166 := by kernel_rfl
  f240 := by kernel_rfl
  f276 := by kernel_rfl
  t0 := by kernel_rfl
  a0 := fun _ => by kernel_rfl
  z0 := fun _ => by kernel_rfl
  v0 := fun _ => by kernel_rfl
  t3 := by kernel_rfl
  a3 := fun _ => by kernel_rfl
  z3 := fun _ => by kernel_rfl
  v3 := fun _ => by kernel_rfl
  t4 := by kernel_rfl
  a4 := fun _ => by kernel_rfl
  z4 := fun _ => by kernel_rfl
  v4 := fun _ => by kernel_rfl
  t9 := by kernel_rfl
  a9 := fun _ => by kernel_rfl
  z9 := fun _ => by kernel_rfl
  v9 := fun _ => by kernel_rfl
  t20 := by kernel_rfl
  a20 := fun _ => by kernel_rfl
  z20 := fun _ => by kernel_rfl
  v20 := fun _ => by kernel_rfl
  t37 := by kernel_rfl
  a37 := fun _ => by kernel_rfl
  z37 := fun _ => by kernel_rfl
  v37 := fun _ => by kernel_rfl
  t70 := by kernel_rfl
  a70 := fun _ => by kernel_rfl
  z70 := fun _ => by kernel_rfl
  v70 := fun _ => by kernel_rfl
  t72 := by kernel_rfl
  a72 := fun _ => by kernel_rfl
  z72 := fun _ => by kernel_rfl
  v72 := fun _ => by kernel_rfl
  t75 := by kernel_rfl
  a75 := fun _ => by kernel_rfl
  z75 := fun _ => by kernel_rfl
  v75 := fun _ => by kernel_rfl
  t164 := by kernel_rfl
  a164 := fun _ => by kernel_rfl
  z164 := fun _ => by kernel_rfl
  v164 := fun _ => by kernel_rfl }
theorem bld_lays169 : Lays.n169 Try.prog bld_ren := {
  mixed := by kernel_rfl
  f169 := by kernel_rfl
  t0 := by kernel_rfl
  a0 := fun _ => by kernel_rfl
  z0 := fun _ => by kernel_rfl
  v0 := fun _ => by kernel_rfl
  t3 := by kernel_rfl
  a3 := fun _ => by kernel_rfl
  z3 := fun _ => by kernel_rfl
  v3 := fun _ => by kernel_rfl
  t9 := by kernel_rfl
  a9 := fun _ => by kernel_rfl
  z9 := fun _ => by kernel_rfl
  v9 := fun _ => by kernel_rfl
  t37 := by kernel_rfl
  a37 := fun _ => by kernel_rfl
  z37 := fun _ => by kernel_rfl
  v37 := fun _ => by kernel_rfl
  t70 := by kernel_rfl
  a70 := fun _ => by kernel_rfl
  z70 := fun _ => by kernel_rfl
  v70 := fun _ => by kernel_rfl
  t72 := by kernel_rfl
  a72 := fun _ => by kernel_rfl
  z72 := fun _ => by kernel_rfl
  v72 := fun _ => by kernel_rfl
  t127 := by kernel_rfl
  a127 := fun _ => by kernel_rfl
  z127 := fun _ => by kernel_rfl
  v127 := fun _ => by kernel_rfl }
theorem bld_extra : Builder.Extra Try.prog bld_ren := {
  sizeBuilder := by kernel_rfl
  liesBuilder := by kernel_rfl
  t5 := by kernel_rfl
  a5 := fun _ => by kernel_rfl
  z5 := fun _ => by kernel_rfl
  v5 := fun _ => by kernel_rfl
  infoByte := by kernel_rfl
  cellsByte := by kernel_rfl
  sizeByte := by kernel_rfl
  neB5 := by decide }
/-- a builder that holds these bytes, in the block b, of the call's own from B on -/
def Bld (w : World) (B b : Nat) (bs : List Value) : Prop := Lib.IsBuilderF 167 5 B b bs w
def Others (b : Nat) (w w' : World) : Prop := Lib.OthersKept 5 (some b) w w'
theorem Bld.fresh {w : World} {B b : Nat} (hB : B ≤ b) (h : Row w b 167 #[.pointer none, .slice none 0 0]) : Bld w B b [] := .inl ⟨hB, _, h, World.ownsRowF_nil _ _ _ _, fun h => (by cases h)⟩
theorem Bld.lt {w : World} {B b : Nat} {bs : List Value} (h : Bld w B b bs) : B ≤ b ∧ b < w.heap.size := by
  rcases h with h | h
  · exact ⟨h.1, h.lt⟩
  · exact ⟨h.1, h.lt⟩
theorem Bld.below {w w' : World} {B b : Nat} {bs : List Value} (h : Bld w B b bs) (hb : Below w.heap.size w w') : Bld w' B b bs := by
  have key : ∀ p, Lib.BuilderAtF 167 5 B b p bs w → Lib.BuilderAtF 167 5 B b p bs w' := by
    intro p h
    have hl := h.lt
    obtain ⟨hB, v, hbk, hown, hne⟩ := h
    refine ⟨hB, v, (hb.block b hl).trans hbk, hown.kept (row := none) ⟨hb.os, hb.tape, hb.output, hb.size, fun k hk _ => hb.block k hk⟩ ?_, hne⟩
    cases hv : v.ownBlock with
    | none => exact .inl rfl
    | some k => exact .inr (fun h => (by cases h))
  rcases h with h | h
  · exact .inl (key _ h)
  · exact .inr (key _ h)
theorem Row.others {w w' : World} {b g t : Nat} {cs : Array Value} (h : Row w g t cs) (ho : Others b w w') (hg : g ≠ b) (ht : t ≠ 5) : Row w' g t cs :=
  ho g _ h (fun e => hg (Option.some.inj e)) fun c fz e => by cases e; exact ht rfl
theorem write_at {w : World} {B b : Nat} {bs : List Value} (s : ByteArray) (h : Bld w B b bs) (hlen : bs.length + s.size ≤ 140737488355328) (hB : B ≤ w.heap.size) :
    Calls Try.prog 184 #[.pointer (some ⟨b, 0, none⟩), .string s] w fun e w' => e = .returned (.tuple #[.int .i64 s.size, .nilIface]) ∧ Bld w' B b (bs ++ Lib.strCells s) ∧ Below B w w' ∧ Others b w w' :=
  (Any.Builder_WriteString_k bld_lays166 bld_extra B b bs s w h hlen hB).mono fun _ _ h => ⟨h.1, .inr h.2.1, h.2.2⟩
theorem string_at {w : World} {B b : Nat} (l : List UInt8) (h : Bld w B b (Lib.byteCells l)) (hB : B ≤ w.heap.size) :
    Calls Try.prog 185 #[.pointer (some ⟨b, 0, none⟩)] w fun e w' => e = .returned (.string ⟨l.toArray⟩) ∧ Below B w w' ∧ Others b w w' :=
  (Any.Builder_String_any_k bld_lays169 bld_extra B b l w h hB).mono fun _ _ h => ⟨h.1, h.2.2⟩
end Go.Proofs.Ytpdenhmkpiafiaa
