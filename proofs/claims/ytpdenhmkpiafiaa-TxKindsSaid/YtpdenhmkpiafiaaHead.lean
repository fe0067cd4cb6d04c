/-
  THE PROGRAM's HEAD: three closed facts of every row of this seat that the kernel cannot reckon by itself, for the head's text is long: the text's signs are laid as a list, and only its first three words are looked at.
-/
import Derived.Test.YtpdenhmkpiafiaaRows
import Derived.WalkKit
import Derived.ProofKit
import Derived.OpenShut
namespace Go.Proofs.Ytpdenhmkpiafiaa
open Go Go.ChangeShapes Go.WideShapes Go.ChangeAt Go.RowKit

def w1 : List Nat := [104, 97, 114, 110, 101, 115, 115]
def w2 : List Nat := [49, 57, 55, 48, 53, 99, 97, 98, 51, 53, 49, 51, 56, 49, 54, 54, 50, 49, 49, 51, 55, 52, 98, 100, 55, 50, 56, 51, 98, 54, 56, 54, 97, 101, 48, 53, 53, 50, 98, 56, 52, 57, 56, 101, 56, 52, 48, 99, 55, 102, 53, 52, 57, 49, 57, 99, 50, 102, 53, 55, 50, 55, 57, 97]
def w3 : List Nat := [99, 117, 116]
def wr : List Nat := [97, 116, 32, 116, 97, 108, 108, 97, 103, 101, 47, 116, 97, 108, 108, 97, 103, 101, 108, 97, 119, 49, 52, 46, 69, 118, 101, 110, 116, 77, 97, 107, 101, 115, 32, 116, 97, 108, 108, 97, 103, 101, 47, 116, 97, 108, 108, 97, 103, 101, 108, 97, 119, 48, 52, 46, 79, 99, 116, 101, 116, 80, 117, 116, 115, 32, 116, 97, 108, 108, 97, 103, 101, 47, 116, 97, 108, 108, 97, 103, 101, 108, 97, 119, 48, 49, 46, 87, 111, 114, 100, 79, 114, 100, 101, 114, 32, 116, 97, 108, 108, 97, 103, 101, 47, 116, 97, 108, 108, 97, 103, 101, 108, 97, 119, 48, 49, 46, 87, 111, 114, 100, 82, 101, 99, 107, 111, 110, 115, 32, 116, 97, 108, 108, 97, 103, 101, 47, 116, 97, 108, 108, 97, 103, 101, 108, 97, 119, 48, 52, 46, 79, 99, 116, 101, 116, 79, 110, 99, 101, 32, 116, 97, 108, 108, 97, 103, 101, 47, 116, 97, 108, 108, 97, 103, 101, 108, 97, 119, 48, 52, 46, 79, 99, 116, 101, 116, 66, 97, 99, 107, 32, 116, 97, 108, 108, 97, 103, 101, 47, 116, 97, 108, 108, 97, 103, 101, 108, 97, 119, 48, 52, 46, 79, 99, 116, 101, 116, 71, 101, 116, 115, 32, 116, 97, 108, 108, 97, 103, 101, 47, 116, 97, 108, 108, 97, 103, 101, 108, 97, 119, 48, 52, 46, 79, 99, 116, 101, 116, 78, 111, 110, 101, 32, 116, 97, 108, 108, 97, 103, 101, 47, 116, 97, 108, 108, 97, 103, 101, 108, 97, 119, 49, 52, 46, 69, 118, 101, 110, 116, 70, 111, 114, 109, 115, 32, 116, 97, 108, 108, 97, 103, 101, 47, 116, 97, 108, 108, 97, 103, 101, 108, 97, 119, 48, 49, 46, 87, 111, 114, 100, 66, 97, 99, 107, 32, 116, 97, 108, 108, 97, 103, 101, 47, 116, 97, 108, 108, 97, 103, 101, 108, 97, 119, 48, 50, 46, 77, 117, 108, 100, 105, 118, 68, 105, 118, 105, 100, 101, 115, 32, 116, 97, 108, 108, 97, 103, 101, 47, 116, 97, 108, 108, 97, 103, 101, 108, 97, 119, 48, 50, 46, 77, 117, 108, 100, 105, 118, 81, 117, 111, 32, 116, 97, 108, 108, 97, 103, 101, 47, 116, 97, 108, 108, 97, 103, 101, 108, 97, 119, 48, 50, 46, 77, 117, 108, 100, 105, 118, 82, 111, 117, 110, 100, 115, 32, 116, 97, 108, 108, 97, 103, 101, 47, 116, 97, 108, 108, 97, 103, 101, 108, 97, 119, 48, 50, 46, 77, 117, 108, 100, 105, 118, 83, 99, 97, 108, 101, 115, 32, 116, 97, 108, 108, 97, 103, 101, 47, 116, 97, 108, 108, 97, 103, 101, 108, 97, 119, 48, 49, 46, 87, 111, 114, 100, 70, 111, 114, 109, 115, 32, 116, 97, 108, 108, 97, 103, 101, 47, 116, 97, 108, 108, 97, 103, 101, 108, 97, 119, 48, 51, 46, 87, 97, 100, 80, 97, 114, 116, 115, 32, 116, 97, 108, 108, 97, 103, 101, 47, 116, 97, 108, 108, 97, 103, 101, 108, 97, 119, 48, 51, 46, 87, 97, 100, 83, 116, 101, 112, 115, 32, 116, 97, 108, 108, 97, 103, 101, 47, 116, 97, 108, 108, 97, 103, 101, 108, 97, 119, 48, 51, 46, 87, 97, 100, 83, 99, 97, 108, 101, 115, 32, 116, 97, 108, 108, 97, 103, 101, 47, 116, 97, 108, 108, 97, 103, 101, 108, 97, 119, 49, 56, 46, 82, 97, 116, 101, 84, 101, 108, 108, 115, 32, 116, 97, 108, 108, 97, 103, 101, 47, 116, 97, 108, 108, 97, 103, 101, 108, 97, 119, 49, 56, 46, 82, 97, 116, 101, 83, 116, 97, 121, 115, 32, 116, 97, 108, 108, 97, 103, 101, 47, 116, 97, 108, 108, 97, 103, 101, 108, 97, 119, 49, 56, 46, 82, 97, 116, 101, 66, 97, 99, 107, 32, 116, 97, 108, 108, 97, 103, 101, 47, 116, 97, 108, 108, 97, 103, 101, 108, 97, 119, 48, 51, 46, 87, 97, 100, 82, 101, 99, 107, 111, 110, 115, 32, 116, 97, 108, 108, 97, 103, 101, 47, 116, 97, 108, 108, 97, 103, 101, 108, 97, 119, 49, 53, 46, 84, 120, 75, 105, 110, 100, 115, 32, 116, 97, 108, 108, 97, 103, 101, 47, 116, 97, 108, 108, 97, 103, 101, 108, 97, 119, 49, 53, 46, 84, 120, 70, 111, 114, 109, 115, 32, 116, 97, 108, 108, 97, 103, 101, 47, 116, 97, 108, 108, 97, 103, 101, 108, 97, 119, 49, 52, 46, 69, 118, 101, 110, 116, 82, 101, 97, 100, 115, 32, 116, 97, 108, 108, 97, 103, 101, 47, 116, 97, 108, 108, 97, 103, 101, 108, 97, 119, 50, 48, 46, 70, 97, 99, 116, 111, 114, 71, 114, 111, 119, 115, 32, 116, 97, 108, 108, 97, 103, 101, 47, 116, 97, 108, 108, 97, 103, 101, 108, 97, 119, 50, 48, 46, 70, 97, 99, 116, 111, 114, 80, 97, 114, 116, 115, 32, 116, 97, 108, 108, 97, 103, 101, 47, 116, 97, 108, 108, 97, 103, 101, 108, 97, 119, 50, 48, 46, 70, 97, 99, 116, 111, 114, 77, 111, 118, 101, 115, 32, 116, 97, 108, 108, 97, 103, 101, 47, 116, 97, 108, 108, 97, 103, 101, 108, 97, 119, 49, 52, 46, 69, 118, 101, 110, 116, 66, 97, 99, 107, 32, 116, 97, 108, 108, 97, 103, 101, 47, 116, 97, 108, 108, 97, 103, 101, 108, 97, 119, 49, 53, 46, 84, 120, 82, 101, 97, 100, 115, 32, 116, 97, 108, 108, 97, 103, 101, 47, 116, 97, 108, 108, 97, 103, 101, 108, 97, 119, 49, 53, 46, 84, 120, 66, 97, 99, 107]
def signs (l : List Nat) : List Char := l.map Char.ofNat
set_option maxRecDepth 100000 in
theorem head_text : Try.prog.initOrder = String.ofList (signs w1 ++ (Char.ofNat 32 :: (signs w2 ++ (Char.ofNat 32 :: (signs w3 ++ (Char.ofNat 32 :: signs wr)))))) := by kernel_rfl
theorem words_at : ∀ (a : List Char) (r : List Char), (a.all fun c => !(c == Char.ofNat 32)) = true → wordsSigns (a ++ Char.ofNat 32 :: r) = a :: wordsSigns r
  | [], r, _ => wordsSigns.eq_2 r
  | c :: a, r, h => by
    rw [List.all_cons, Bool.and_eq_true] at h
    have hc : c = Char.ofNat 32 → False := by simpa using h.1
    rw [List.cons_append, wordsSigns.eq_3 c _ hc, words_at a r h.2]
theorem behind_of (r : List (List Char)) : behindMainWord (signs w1 :: signs w2 :: signs w3 :: r) = signs w3 :: r := by
  have h : ((signs w1 == "harness".toList || signs w1 == "ownmain".toList) && isSumSigns (signs w2)) = true := by kernel_rfl
  rw [behindMainWord.eq_1, if_pos h]
theorem head_words : behindMainWord (wordsSigns Try.prog.initOrder.toList) = signs w3 :: wordsSigns (signs wr) := by
  rw [head_text, String.toList_ofList, words_at _ _ (by kernel_rfl), words_at _ _ (by kernel_rfl), words_at _ _ (by kernel_rfl)]
  exact behind_of _
theorem strip_at (ws : List (List Char)) : stripLifts liftWords (signs w3 :: ws) = ([], signs w3 :: ws) := by kernel_rfl
section
variable {P : Program} {ws : List (List Char)} (hP : behindMainWord (wordsSigns P.initOrder.toList) = signs w3 :: ws)
include hP
theorem lifts_of : P.headLifts = [] := by
  unfold Program.headLifts
  rw [hP, strip_at]
  simp
theorem make_of : P.make = some .cut := by
  have h1 : (signs w3 == "gc".toList || signs w3 == "spec".toList) = false := by kernel_rfl
  have h2 : (signs w3 == "cut".toList) = true := by kernel_rfl
  unfold Program.make
  rw [hP]
  simp only [h1, h2, Bool.true_or]
  simp
theorem final_of : P.liftsFinal = false := by
  have h : (some (signs w3) == some "carried".toList) = false := by kernel_rfl
  unfold Program.liftsFinal
  rw [hP, lifts_of hP]
  simp only [List.head?_cons, h, Bool.false_and, Bool.false_or]
  rfl
theorem enter_of (h1 : P.laysLater = false) (h2 : P.bearsReflect = false) (h3 : P.doorFits [] = true) : P.mayEnter = true := by
  have h : (some (signs w3) == some "cut".toList) = true := by kernel_rfl
  unfold Program.mayEnter
  rw [hP]
  simp only [strip_at, List.head?_cons, h, h1, h2, h3]
  simp
end
theorem laysNo : Try.prog.laysLater = false := by kernel_rfl
theorem bearsNo : Try.prog.bearsReflect = false := by kernel_rfl
theorem doorOk : Try.prog.doorFits [] = true := by kernel_rfl
theorem head_make : Try.prog.make = some .cut := make_of head_words
theorem head_final : Try.prog.liftsFinal = false := final_of head_words
theorem head_enter : Try.prog.mayEnter = true := enter_of head_words laysNo bearsNo doorOk
end Go.Proofs.Ytpdenhmkpiafiaa
