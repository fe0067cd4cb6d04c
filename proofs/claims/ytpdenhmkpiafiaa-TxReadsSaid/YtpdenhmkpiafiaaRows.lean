/-
  No cell of these rows narrows 'for every input' (looked for: loops, veiled, ifaces, maps, wideKeys, modest, calm, conditions, laid).
  DERIVED. THE GIVEN ROWS OF THIS SEAT. 31 by the template 'for every input the law returns true; each argument reads behind the call as it read before'; 0 by the template 'total and deterministic' (their statements: YtpdenhmkpiafiaaTotals.lean).
  GIVEN WITH THE SEED: the statements are not yours to turn. If you find one false, say at which input.
  Laid BY PROGRAM, IN A SANDBOX (cutbox-rows.mjs): the forced cells as the released guide's own fill.sh prints them over the translation dba24e67c7cb4dac… (all of the seat's roots in one cut). By AI agents, Wed Nov 11 2026. No macro, syntax, notation, axiom, sorry.
-/
import Derived.Test.YtpdenhmkpiafiaaChecked
import GoSem.Claim
import GoSem.ClaimJoined
import GoSem.ClaimMapViews
import Derived.JoinedTies
import Derived.KernelRfl
namespace Go.Proofs.Ytpdenhmkpiafiaa
/- THE CELL 'sum', in the pinned program and in every row, IS THE sha256 OF THE DUMP (.gsa) THAT YtpdenhmkpiafiaaProg.lean LOADS. Nothing in Lean hashes anything: it is a label: what it is worth is what the hold of that sum in a sandbox is worth. -/
noncomputable def Try.pinned : Pinned := { name := "ytpdenhmkpiafiaa", sum := "dba24e67c7cb4dac7505897e902611935462bdffce7eee57b4e8a5c3d0b2f849", checked := Try.checked }
namespace Rows
def none {H : Type} : Left H := { results := [], args := [] }

/-- 'tallagelaw14.EventMakes': WHATEVER THE INPUT: true; the input reads as it did. -/
def eventMakesSpec : ChangeSpec := { name := "eventMakes", fn := fun _ => fun
  | [d1, d2, d3] => { results := [.lit (.bool true)], args := [d1, d2, d3] }
  | _ => none }
def eventMakesRow : OpenClaim := { program := "ytpdenhmkpiafiaa", sum := "dba24e67c7cb4dac7505897e902611935462bdffce7eee57b4e8a5c3d0b2f849", func := "tallage/tallagelaw14.EventMakes", spec := "eventMakes", inPlace := ["internal/abi.NoEscape"], apart := false }
def EventMakesSaid : Prop := eventMakesRow.holds Try.pinned (OpenSpec.ofChange eventMakesSpec)

/-- ITS FALSE NEIGHBOUR: 'it returns false'. Refute it at one input. -/
def eventMakesWrong : ChangeSpec := { name := "eventMakes", fn := fun _ => fun
  | [d1, d2, d3] => { results := [.lit (.bool false)], args := [d1, d2, d3] }
  | _ => none }
def EventMakesWrongFalsely : Prop := eventMakesRow.holds Try.pinned (OpenSpec.ofChange eventMakesWrong)

/-- 'tallagelaw04.OctetPuts': WHATEVER THE INPUT: true; the input reads as it did. -/
def octetPutsSpec : ChangeSpec := { name := "octetPuts", fn := fun _ => fun
  | [d1, d2, d3] => { results := [.lit (.bool true)], args := [d1, d2, d3] }
  | _ => none }
def octetPutsRow : OpenClaim := { program := "ytpdenhmkpiafiaa", sum := "dba24e67c7cb4dac7505897e902611935462bdffce7eee57b4e8a5c3d0b2f849", func := "tallage/tallagelaw04.OctetPuts", spec := "octetPuts", unfollowed := true, recurses := true, apart := false }
def OctetPutsSaid : Prop := octetPutsRow.holds Try.pinned (OpenSpec.ofChange octetPutsSpec)

/-- ITS FALSE NEIGHBOUR: 'it returns false'. Refute it at one input. -/
def octetPutsWrong : ChangeSpec := { name := "octetPuts", fn := fun _ => fun
  | [d1, d2, d3] => { results := [.lit (.bool false)], args := [d1, d2, d3] }
  | _ => none }
def OctetPutsWrongFalsely : Prop := octetPutsRow.holds Try.pinned (OpenSpec.ofChange octetPutsWrong)

/-- 'tallagelaw01.WordOrder': WHATEVER THE INPUT: true; the input reads as it did. -/
def wordOrderSpec : ChangeSpec := { name := "wordOrder", fn := fun _ => fun
  | [d1, d2, d3] => { results := [.lit (.bool true)], args := [d1, d2, d3] }
  | _ => none }
def wordOrderRow : OpenClaim := { program := "ytpdenhmkpiafiaa", sum := "dba24e67c7cb4dac7505897e902611935462bdffce7eee57b4e8a5c3d0b2f849", func := "tallage/tallagelaw01.WordOrder", spec := "wordOrder", apart := false }
def WordOrderSaid : Prop := wordOrderRow.holds Try.pinned (OpenSpec.ofChange wordOrderSpec)

/-- ITS FALSE NEIGHBOUR: 'it returns false'. Refute it at one input. -/
def wordOrderWrong : ChangeSpec := { name := "wordOrder", fn := fun _ => fun
  | [d1, d2, d3] => { results := [.lit (.bool false)], args := [d1, d2, d3] }
  | _ => none }
def WordOrderWrongFalsely : Prop := wordOrderRow.holds Try.pinned (OpenSpec.ofChange wordOrderWrong)

/-- 'tallagelaw01.WordReckons': WHATEVER THE INPUT: true; the input reads as it did. -/
def wordReckonsSpec : ChangeSpec := { name := "wordReckons", fn := fun _ => fun
  | [d1, d2] => { results := [.lit (.bool true)], args := [d1, d2] }
  | _ => none }
def wordReckonsRow : OpenClaim := { program := "ytpdenhmkpiafiaa", sum := "dba24e67c7cb4dac7505897e902611935462bdffce7eee57b4e8a5c3d0b2f849", func := "tallage/tallagelaw01.WordReckons", spec := "wordReckons", apart := false }
def WordReckonsSaid : Prop := wordReckonsRow.holds Try.pinned (OpenSpec.ofChange wordReckonsSpec)

/-- ITS FALSE NEIGHBOUR: 'it returns false'. Refute it at one input. -/
def wordReckonsWrong : ChangeSpec := { name := "wordReckons", fn := fun _ => fun
  | [d1, d2] => { results := [.lit (.bool false)], args := [d1, d2] }
  | _ => none }
def WordReckonsWrongFalsely : Prop := wordReckonsRow.holds Try.pinned (OpenSpec.ofChange wordReckonsWrong)

/-- 'tallagelaw04.OctetOnce': WHATEVER THE INPUT: true; the input reads as it did. -/
def octetOnceSpec : ChangeSpec := { name := "octetOnce", fn := fun _ => fun
  | [d] => { results := [.lit (.bool true)], args := [d] }
  | _ => none }
def octetOnceRow : OpenClaim := { program := "ytpdenhmkpiafiaa", sum := "dba24e67c7cb4dac7505897e902611935462bdffce7eee57b4e8a5c3d0b2f849", func := "tallage/tallagelaw04.OctetOnce", spec := "octetOnce", unfollowed := true, recurses := true, apart := false }
def OctetOnceSaid : Prop := octetOnceRow.holds Try.pinned (OpenSpec.ofChange octetOnceSpec)

/-- ITS FALSE NEIGHBOUR: 'it returns false'. Refute it at one input. -/
def octetOnceWrong : ChangeSpec := { name := "octetOnce", fn := fun _ => fun
  | [d] => { results := [.lit (.bool false)], args := [d] }
  | _ => none }
def OctetOnceWrongFalsely : Prop := octetOnceRow.holds Try.pinned (OpenSpec.ofChange octetOnceWrong)

/-- 'tallagelaw04.OctetBack': WHATEVER THE INPUT: true; the input reads as it did. -/
def octetBackSpec : ChangeSpec := { name := "octetBack", fn := fun _ => fun
  | [d] => { results := [.lit (.bool true)], args := [d] }
  | _ => none }
def octetBackRow : OpenClaim := { program := "ytpdenhmkpiafiaa", sum := "dba24e67c7cb4dac7505897e902611935462bdffce7eee57b4e8a5c3d0b2f849", func := "tallage/tallagelaw04.OctetBack", spec := "octetBack", unfollowed := true, recurses := true, apart := false }
def OctetBackSaid : Prop := octetBackRow.holds Try.pinned (OpenSpec.ofChange octetBackSpec)

/-- ITS FALSE NEIGHBOUR: 'it returns false'. Refute it at one input. -/
def octetBackWrong : ChangeSpec := { name := "octetBack", fn := fun _ => fun
  | [d] => { results := [.lit (.bool false)], args := [d] }
  | _ => none }
def OctetBackWrongFalsely : Prop := octetBackRow.holds Try.pinned (OpenSpec.ofChange octetBackWrong)

/-- 'tallagelaw04.OctetGets': WHATEVER THE INPUT: true; the input reads as it did. -/
def octetGetsSpec : ChangeSpec := { name := "octetGets", fn := fun _ => fun
  | [d1, d2] => { results := [.lit (.bool true)], args := [d1, d2] }
  | _ => none }
def octetGetsRow : OpenClaim := { program := "ytpdenhmkpiafiaa", sum := "dba24e67c7cb4dac7505897e902611935462bdffce7eee57b4e8a5c3d0b2f849", func := "tallage/tallagelaw04.OctetGets", spec := "octetGets", unfollowed := true, recurses := true, apart := false }
def OctetGetsSaid : Prop := octetGetsRow.holds Try.pinned (OpenSpec.ofChange octetGetsSpec)

/-- ITS FALSE NEIGHBOUR: 'it returns false'. Refute it at one input. -/
def octetGetsWrong : ChangeSpec := { name := "octetGets", fn := fun _ => fun
  | [d1, d2] => { results := [.lit (.bool false)], args := [d1, d2] }
  | _ => none }
def OctetGetsWrongFalsely : Prop := octetGetsRow.holds Try.pinned (OpenSpec.ofChange octetGetsWrong)

/-- 'tallagelaw04.OctetNone': WHATEVER THE INPUT: true; the input reads as it did. -/
def octetNoneSpec : ChangeSpec := { name := "octetNone", fn := fun _ => fun
  | [d] => { results := [.lit (.bool true)], args := [d] }
  | _ => none }
def octetNoneRow : OpenClaim := { program := "ytpdenhmkpiafiaa", sum := "dba24e67c7cb4dac7505897e902611935462bdffce7eee57b4e8a5c3d0b2f849", func := "tallage/tallagelaw04.OctetNone", spec := "octetNone", unfollowed := true, recurses := true, apart := false }
def OctetNoneSaid : Prop := octetNoneRow.holds Try.pinned (OpenSpec.ofChange octetNoneSpec)

/-- ITS FALSE NEIGHBOUR: 'it returns false'. Refute it at one input. -/
def octetNoneWrong : ChangeSpec := { name := "octetNone", fn := fun _ => fun
  | [d] => { results := [.lit (.bool false)], args := [d] }
  | _ => none }
def OctetNoneWrongFalsely : Prop := octetNoneRow.holds Try.pinned (OpenSpec.ofChange octetNoneWrong)

/-- 'tallagelaw14.EventForms': WHATEVER THE INPUT: true; the input reads as it did. -/
def eventFormsSpec : ChangeSpec := { name := "eventForms", fn := fun _ => fun
  | [d1, d2, d3] => { results := [.lit (.bool true)], args := [d1, d2, d3] }
  | _ => none }
def eventFormsRow : OpenClaim := { program := "ytpdenhmkpiafiaa", sum := "dba24e67c7cb4dac7505897e902611935462bdffce7eee57b4e8a5c3d0b2f849", func := "tallage/tallagelaw14.EventForms", spec := "eventForms", inPlace := ["internal/abi.NoEscape"], unfollowed := true, recurses := true, apart := false }
def EventFormsSaid : Prop := eventFormsRow.holds Try.pinned (OpenSpec.ofChange eventFormsSpec)

/-- ITS FALSE NEIGHBOUR: 'it returns false'. Refute it at one input. -/
def eventFormsWrong : ChangeSpec := { name := "eventForms", fn := fun _ => fun
  | [d1, d2, d3] => { results := [.lit (.bool false)], args := [d1, d2, d3] }
  | _ => none }
def EventFormsWrongFalsely : Prop := eventFormsRow.holds Try.pinned (OpenSpec.ofChange eventFormsWrong)

/-- 'tallagelaw01.WordBack': WHATEVER THE INPUT: true; the input reads as it did. -/
def wordBackSpec : ChangeSpec := { name := "wordBack", fn := fun _ => fun
  | [d1, d2] => { results := [.lit (.bool true)], args := [d1, d2] }
  | _ => none }
def wordBackRow : OpenClaim := { program := "ytpdenhmkpiafiaa", sum := "dba24e67c7cb4dac7505897e902611935462bdffce7eee57b4e8a5c3d0b2f849", func := "tallage/tallagelaw01.WordBack", spec := "wordBack", apart := false }
def WordBackSaid : Prop := wordBackRow.holds Try.pinned (OpenSpec.ofChange wordBackSpec)

/-- ITS FALSE NEIGHBOUR: 'it returns false'. Refute it at one input. -/
def wordBackWrong : ChangeSpec := { name := "wordBack", fn := fun _ => fun
  | [d1, d2] => { results := [.lit (.bool false)], args := [d1, d2] }
  | _ => none }
def WordBackWrongFalsely : Prop := wordBackRow.holds Try.pinned (OpenSpec.ofChange wordBackWrong)

/-- 'tallagelaw02.MuldivDivides': WHATEVER THE INPUT: true; the input reads as it did. -/
def muldivDividesSpec : ChangeSpec := { name := "muldivDivides", fn := fun _ => fun
  | [d1, d2, d3] => { results := [.lit (.bool true)], args := [d1, d2, d3] }
  | _ => none }
def muldivDividesRow : OpenClaim := { program := "ytpdenhmkpiafiaa", sum := "dba24e67c7cb4dac7505897e902611935462bdffce7eee57b4e8a5c3d0b2f849", func := "tallage/tallagelaw02.MuldivDivides", spec := "muldivDivides", apart := false }
def MuldivDividesSaid : Prop := muldivDividesRow.holds Try.pinned (OpenSpec.ofChange muldivDividesSpec)

/-- ITS FALSE NEIGHBOUR: 'it returns false'. Refute it at one input. -/
def muldivDividesWrong : ChangeSpec := { name := "muldivDivides", fn := fun _ => fun
  | [d1, d2, d3] => { results := [.lit (.bool false)], args := [d1, d2, d3] }
  | _ => none }
def MuldivDividesWrongFalsely : Prop := muldivDividesRow.holds Try.pinned (OpenSpec.ofChange muldivDividesWrong)

/-- 'tallagelaw02.MuldivQuo': WHATEVER THE INPUT: true; the input reads as it did. -/
def muldivQuoSpec : ChangeSpec := { name := "muldivQuo", fn := fun _ => fun
  | [d1, d2, d3] => { results := [.lit (.bool true)], args := [d1, d2, d3] }
  | _ => none }
def muldivQuoRow : OpenClaim := { program := "ytpdenhmkpiafiaa", sum := "dba24e67c7cb4dac7505897e902611935462bdffce7eee57b4e8a5c3d0b2f849", func := "tallage/tallagelaw02.MuldivQuo", spec := "muldivQuo", apart := false }
def MuldivQuoSaid : Prop := muldivQuoRow.holds Try.pinned (OpenSpec.ofChange muldivQuoSpec)

/-- ITS FALSE NEIGHBOUR: 'it returns false'. Refute it at one input. -/
def muldivQuoWrong : ChangeSpec := { name := "muldivQuo", fn := fun _ => fun
  | [d1, d2, d3] => { results := [.lit (.bool false)], args := [d1, d2, d3] }
  | _ => none }
def MuldivQuoWrongFalsely : Prop := muldivQuoRow.holds Try.pinned (OpenSpec.ofChange muldivQuoWrong)

/-- 'tallagelaw02.MuldivRounds': WHATEVER THE INPUT: true; the input reads as it did. -/
def muldivRoundsSpec : ChangeSpec := { name := "muldivRounds", fn := fun _ => fun
  | [d1, d2, d3] => { results := [.lit (.bool true)], args := [d1, d2, d3] }
  | _ => none }
def muldivRoundsRow : OpenClaim := { program := "ytpdenhmkpiafiaa", sum := "dba24e67c7cb4dac7505897e902611935462bdffce7eee57b4e8a5c3d0b2f849", func := "tallage/tallagelaw02.MuldivRounds", spec := "muldivRounds", apart := false }
def MuldivRoundsSaid : Prop := muldivRoundsRow.holds Try.pinned (OpenSpec.ofChange muldivRoundsSpec)

/-- ITS FALSE NEIGHBOUR: 'it returns false'. Refute it at one input. -/
def muldivRoundsWrong : ChangeSpec := { name := "muldivRounds", fn := fun _ => fun
  | [d1, d2, d3] => { results := [.lit (.bool false)], args := [d1, d2, d3] }
  | _ => none }
def MuldivRoundsWrongFalsely : Prop := muldivRoundsRow.holds Try.pinned (OpenSpec.ofChange muldivRoundsWrong)

/-- 'tallagelaw02.MuldivScales': WHATEVER THE INPUT: true; the input reads as it did. -/
def muldivScalesSpec : ChangeSpec := { name := "muldivScales", fn := fun _ => fun
  | [d1, d2] => { results := [.lit (.bool true)], args := [d1, d2] }
  | _ => none }
def muldivScalesRow : OpenClaim := { program := "ytpdenhmkpiafiaa", sum := "dba24e67c7cb4dac7505897e902611935462bdffce7eee57b4e8a5c3d0b2f849", func := "tallage/tallagelaw02.MuldivScales", spec := "muldivScales", apart := false }
def MuldivScalesSaid : Prop := muldivScalesRow.holds Try.pinned (OpenSpec.ofChange muldivScalesSpec)

/-- ITS FALSE NEIGHBOUR: 'it returns false'. Refute it at one input. -/
def muldivScalesWrong : ChangeSpec := { name := "muldivScales", fn := fun _ => fun
  | [d1, d2] => { results := [.lit (.bool false)], args := [d1, d2] }
  | _ => none }
def MuldivScalesWrongFalsely : Prop := muldivScalesRow.holds Try.pinned (OpenSpec.ofChange muldivScalesWrong)

/-- 'tallagelaw01.WordForms': WHATEVER THE INPUT: true; the input reads as it did. -/
def wordFormsSpec : ChangeSpec := { name := "wordForms", fn := fun _ => fun
  | [d1, d2, d3] => { results := [.lit (.bool true)], args := [d1, d2, d3] }
  | _ => none }
def wordFormsRow : OpenClaim := { program := "ytpdenhmkpiafiaa", sum := "dba24e67c7cb4dac7505897e902611935462bdffce7eee57b4e8a5c3d0b2f849", func := "tallage/tallagelaw01.WordForms", spec := "wordForms", apart := false }
def WordFormsSaid : Prop := wordFormsRow.holds Try.pinned (OpenSpec.ofChange wordFormsSpec)

/-- ITS FALSE NEIGHBOUR: 'it returns false'. Refute it at one input. -/
def wordFormsWrong : ChangeSpec := { name := "wordForms", fn := fun _ => fun
  | [d1, d2, d3] => { results := [.lit (.bool false)], args := [d1, d2, d3] }
  | _ => none }
def WordFormsWrongFalsely : Prop := wordFormsRow.holds Try.pinned (OpenSpec.ofChange wordFormsWrong)

/-- 'tallagelaw03.WadParts': WHATEVER THE INPUT: true; the input reads as it did. -/
def wadPartsSpec : ChangeSpec := { name := "wadParts", fn := fun _ => fun
  | [d1, d2] => { results := [.lit (.bool true)], args := [d1, d2] }
  | _ => none }
def wadPartsRow : OpenClaim := { program := "ytpdenhmkpiafiaa", sum := "dba24e67c7cb4dac7505897e902611935462bdffce7eee57b4e8a5c3d0b2f849", func := "tallage/tallagelaw03.WadParts", spec := "wadParts", unfollowed := true, recurses := true, apart := false }
def WadPartsSaid : Prop := wadPartsRow.holds Try.pinned (OpenSpec.ofChange wadPartsSpec)

/-- ITS FALSE NEIGHBOUR: 'it returns false'. Refute it at one input. -/
def wadPartsWrong : ChangeSpec := { name := "wadParts", fn := fun _ => fun
  | [d1, d2] => { results := [.lit (.bool false)], args := [d1, d2] }
  | _ => none }
def WadPartsWrongFalsely : Prop := wadPartsRow.holds Try.pinned (OpenSpec.ofChange wadPartsWrong)

/-- 'tallagelaw03.WadSteps': WHATEVER THE INPUT: true; the input reads as it did. -/
def wadStepsSpec : ChangeSpec := { name := "wadSteps", fn := fun _ => fun
  | [d1, d2, d3] => { results := [.lit (.bool true)], args := [d1, d2, d3] }
  | _ => none }
def wadStepsRow : OpenClaim := { program := "ytpdenhmkpiafiaa", sum := "dba24e67c7cb4dac7505897e902611935462bdffce7eee57b4e8a5c3d0b2f849", func := "tallage/tallagelaw03.WadSteps", spec := "wadSteps", unfollowed := true, recurses := true, apart := false }
def WadStepsSaid : Prop := wadStepsRow.holds Try.pinned (OpenSpec.ofChange wadStepsSpec)

/-- ITS FALSE NEIGHBOUR: 'it returns false'. Refute it at one input. -/
def wadStepsWrong : ChangeSpec := { name := "wadSteps", fn := fun _ => fun
  | [d1, d2, d3] => { results := [.lit (.bool false)], args := [d1, d2, d3] }
  | _ => none }
def WadStepsWrongFalsely : Prop := wadStepsRow.holds Try.pinned (OpenSpec.ofChange wadStepsWrong)

/-- 'tallagelaw03.WadScales': WHATEVER THE INPUT: true; the input reads as it did. -/
def wadScalesSpec : ChangeSpec := { name := "wadScales", fn := fun _ => fun
  | [d1, d2, d3] => { results := [.lit (.bool true)], args := [d1, d2, d3] }
  | _ => none }
def wadScalesRow : OpenClaim := { program := "ytpdenhmkpiafiaa", sum := "dba24e67c7cb4dac7505897e902611935462bdffce7eee57b4e8a5c3d0b2f849", func := "tallage/tallagelaw03.WadScales", spec := "wadScales", unfollowed := true, recurses := true, apart := false }
def WadScalesSaid : Prop := wadScalesRow.holds Try.pinned (OpenSpec.ofChange wadScalesSpec)

/-- ITS FALSE NEIGHBOUR: 'it returns false'. Refute it at one input. -/
def wadScalesWrong : ChangeSpec := { name := "wadScales", fn := fun _ => fun
  | [d1, d2, d3] => { results := [.lit (.bool false)], args := [d1, d2, d3] }
  | _ => none }
def WadScalesWrongFalsely : Prop := wadScalesRow.holds Try.pinned (OpenSpec.ofChange wadScalesWrong)

/-- 'tallagelaw18.RateTells': WHATEVER THE INPUT: true; the input reads as it did. -/
def rateTellsSpec : ChangeSpec := { name := "rateTells", fn := fun _ => fun
  | [d1, d2, d3] => { results := [.lit (.bool true)], args := [d1, d2, d3] }
  | _ => none }
def rateTellsRow : OpenClaim := { program := "ytpdenhmkpiafiaa", sum := "dba24e67c7cb4dac7505897e902611935462bdffce7eee57b4e8a5c3d0b2f849", func := "tallage/tallagelaw18.RateTells", spec := "rateTells", unfollowed := true, recurses := true, apart := false }
def RateTellsSaid : Prop := rateTellsRow.holds Try.pinned (OpenSpec.ofChange rateTellsSpec)

/-- ITS FALSE NEIGHBOUR: 'it returns false'. Refute it at one input. -/
def rateTellsWrong : ChangeSpec := { name := "rateTells", fn := fun _ => fun
  | [d1, d2, d3] => { results := [.lit (.bool false)], args := [d1, d2, d3] }
  | _ => none }
def RateTellsWrongFalsely : Prop := rateTellsRow.holds Try.pinned (OpenSpec.ofChange rateTellsWrong)

/-- 'tallagelaw18.RateStays': WHATEVER THE INPUT: true; the input reads as it did. -/
def rateStaysSpec : ChangeSpec := { name := "rateStays", fn := fun _ => fun
  | [d1, d2, d3] => { results := [.lit (.bool true)], args := [d1, d2, d3] }
  | _ => none }
def rateStaysRow : OpenClaim := { program := "ytpdenhmkpiafiaa", sum := "dba24e67c7cb4dac7505897e902611935462bdffce7eee57b4e8a5c3d0b2f849", func := "tallage/tallagelaw18.RateStays", spec := "rateStays", unfollowed := true, recurses := true, apart := false }
def RateStaysSaid : Prop := rateStaysRow.holds Try.pinned (OpenSpec.ofChange rateStaysSpec)

/-- ITS FALSE NEIGHBOUR: 'it returns false'. Refute it at one input. -/
def rateStaysWrong : ChangeSpec := { name := "rateStays", fn := fun _ => fun
  | [d1, d2, d3] => { results := [.lit (.bool false)], args := [d1, d2, d3] }
  | _ => none }
def RateStaysWrongFalsely : Prop := rateStaysRow.holds Try.pinned (OpenSpec.ofChange rateStaysWrong)

/-- 'tallagelaw18.RateBack': WHATEVER THE INPUT: true; the input reads as it did. -/
def rateBackSpec : ChangeSpec := { name := "rateBack", fn := fun _ => fun
  | [d1, d2, d3] => { results := [.lit (.bool true)], args := [d1, d2, d3] }
  | _ => none }
def rateBackRow : OpenClaim := { program := "ytpdenhmkpiafiaa", sum := "dba24e67c7cb4dac7505897e902611935462bdffce7eee57b4e8a5c3d0b2f849", func := "tallage/tallagelaw18.RateBack", spec := "rateBack", unfollowed := true, recurses := true, apart := false }
def RateBackSaid : Prop := rateBackRow.holds Try.pinned (OpenSpec.ofChange rateBackSpec)

/-- ITS FALSE NEIGHBOUR: 'it returns false'. Refute it at one input. -/
def rateBackWrong : ChangeSpec := { name := "rateBack", fn := fun _ => fun
  | [d1, d2, d3] => { results := [.lit (.bool false)], args := [d1, d2, d3] }
  | _ => none }
def RateBackWrongFalsely : Prop := rateBackRow.holds Try.pinned (OpenSpec.ofChange rateBackWrong)

/-- 'tallagelaw03.WadReckons': WHATEVER THE INPUT: true; the input reads as it did. -/
def wadReckonsSpec : ChangeSpec := { name := "wadReckons", fn := fun _ => fun
  | [d1, d2, d3] => { results := [.lit (.bool true)], args := [d1, d2, d3] }
  | _ => none }
def wadReckonsRow : OpenClaim := { program := "ytpdenhmkpiafiaa", sum := "dba24e67c7cb4dac7505897e902611935462bdffce7eee57b4e8a5c3d0b2f849", func := "tallage/tallagelaw03.WadReckons", spec := "wadReckons", unfollowed := true, recurses := true, apart := false }
def WadReckonsSaid : Prop := wadReckonsRow.holds Try.pinned (OpenSpec.ofChange wadReckonsSpec)

/-- ITS FALSE NEIGHBOUR: 'it returns false'. Refute it at one input. -/
def wadReckonsWrong : ChangeSpec := { name := "wadReckons", fn := fun _ => fun
  | [d1, d2, d3] => { results := [.lit (.bool false)], args := [d1, d2, d3] }
  | _ => none }
def WadReckonsWrongFalsely : Prop := wadReckonsRow.holds Try.pinned (OpenSpec.ofChange wadReckonsWrong)

/-- 'tallagelaw15.TxKinds': WHATEVER THE INPUT: true; the input reads as it did. -/
def txKindsSpec : ChangeSpec := { name := "txKinds", fn := fun _ => fun
  | [d] => { results := [.lit (.bool true)], args := [d] }
  | _ => none }
def txKindsRow : OpenClaim := { program := "ytpdenhmkpiafiaa", sum := "dba24e67c7cb4dac7505897e902611935462bdffce7eee57b4e8a5c3d0b2f849", func := "tallage/tallagelaw15.TxKinds", spec := "txKinds", unfollowed := true, recurses := true, apart := false }
def TxKindsSaid : Prop := txKindsRow.holds Try.pinned (OpenSpec.ofChange txKindsSpec)

/-- ITS FALSE NEIGHBOUR: 'it returns false'. Refute it at one input. -/
def txKindsWrong : ChangeSpec := { name := "txKinds", fn := fun _ => fun
  | [d] => { results := [.lit (.bool false)], args := [d] }
  | _ => none }
def TxKindsWrongFalsely : Prop := txKindsRow.holds Try.pinned (OpenSpec.ofChange txKindsWrong)

/-- 'tallagelaw15.TxForms': WHATEVER THE INPUT: true; the input reads as it did. -/
def txFormsSpec : ChangeSpec := { name := "txForms", fn := fun _ => fun
  | [d1, d2, d3] => { results := [.lit (.bool true)], args := [d1, d2, d3] }
  | _ => none }
def txFormsRow : OpenClaim := { program := "ytpdenhmkpiafiaa", sum := "dba24e67c7cb4dac7505897e902611935462bdffce7eee57b4e8a5c3d0b2f849", func := "tallage/tallagelaw15.TxForms", spec := "txForms", unfollowed := true, recurses := true, apart := false }
def TxFormsSaid : Prop := txFormsRow.holds Try.pinned (OpenSpec.ofChange txFormsSpec)

/-- ITS FALSE NEIGHBOUR: 'it returns false'. Refute it at one input. -/
def txFormsWrong : ChangeSpec := { name := "txForms", fn := fun _ => fun
  | [d1, d2, d3] => { results := [.lit (.bool false)], args := [d1, d2, d3] }
  | _ => none }
def TxFormsWrongFalsely : Prop := txFormsRow.holds Try.pinned (OpenSpec.ofChange txFormsWrong)

/-- 'tallagelaw14.EventReads': WHATEVER THE INPUT: true; the input reads as it did. -/
def eventReadsSpec : ChangeSpec := { name := "eventReads", fn := fun _ => fun
  | [d] => { results := [.lit (.bool true)], args := [d] }
  | _ => none }
def eventReadsRow : OpenClaim := { program := "ytpdenhmkpiafiaa", sum := "dba24e67c7cb4dac7505897e902611935462bdffce7eee57b4e8a5c3d0b2f849", func := "tallage/tallagelaw14.EventReads", spec := "eventReads", inPlace := ["internal/abi.NoEscape"], unfollowed := true, recurses := true, apart := false }
def EventReadsSaid : Prop := eventReadsRow.holds Try.pinned (OpenSpec.ofChange eventReadsSpec)

/-- ITS FALSE NEIGHBOUR: 'it returns false'. Refute it at one input. -/
def eventReadsWrong : ChangeSpec := { name := "eventReads", fn := fun _ => fun
  | [d] => { results := [.lit (.bool false)], args := [d] }
  | _ => none }
def EventReadsWrongFalsely : Prop := eventReadsRow.holds Try.pinned (OpenSpec.ofChange eventReadsWrong)

/-- 'tallagelaw20.FactorGrows': WHATEVER THE INPUT: true; the input reads as it did. -/
def factorGrowsSpec : ChangeSpec := { name := "factorGrows", fn := fun _ => fun
  | [d1, d2, d3] => { results := [.lit (.bool true)], args := [d1, d2, d3] }
  | _ => none }
def factorGrowsRow : OpenClaim := { program := "ytpdenhmkpiafiaa", sum := "dba24e67c7cb4dac7505897e902611935462bdffce7eee57b4e8a5c3d0b2f849", func := "tallage/tallagelaw20.FactorGrows", spec := "factorGrows", unfollowed := true, recurses := true, apart := false }
def FactorGrowsSaid : Prop := factorGrowsRow.holds Try.pinned (OpenSpec.ofChange factorGrowsSpec)

/-- ITS FALSE NEIGHBOUR: 'it returns false'. Refute it at one input. -/
def factorGrowsWrong : ChangeSpec := { name := "factorGrows", fn := fun _ => fun
  | [d1, d2, d3] => { results := [.lit (.bool false)], args := [d1, d2, d3] }
  | _ => none }
def FactorGrowsWrongFalsely : Prop := factorGrowsRow.holds Try.pinned (OpenSpec.ofChange factorGrowsWrong)

/-- 'tallagelaw20.FactorParts': WHATEVER THE INPUT: true; the input reads as it did. -/
def factorPartsSpec : ChangeSpec := { name := "factorParts", fn := fun _ => fun
  | [d1, d2, d3] => { results := [.lit (.bool true)], args := [d1, d2, d3] }
  | _ => none }
def factorPartsRow : OpenClaim := { program := "ytpdenhmkpiafiaa", sum := "dba24e67c7cb4dac7505897e902611935462bdffce7eee57b4e8a5c3d0b2f849", func := "tallage/tallagelaw20.FactorParts", spec := "factorParts", unfollowed := true, recurses := true, apart := false }
def FactorPartsSaid : Prop := factorPartsRow.holds Try.pinned (OpenSpec.ofChange factorPartsSpec)

/-- ITS FALSE NEIGHBOUR: 'it returns false'. Refute it at one input. -/
def factorPartsWrong : ChangeSpec := { name := "factorParts", fn := fun _ => fun
  | [d1, d2, d3] => { results := [.lit (.bool false)], args := [d1, d2, d3] }
  | _ => none }
def FactorPartsWrongFalsely : Prop := factorPartsRow.holds Try.pinned (OpenSpec.ofChange factorPartsWrong)

/-- 'tallagelaw20.FactorMoves': WHATEVER THE INPUT: true; the input reads as it did. -/
def factorMovesSpec : ChangeSpec := { name := "factorMoves", fn := fun _ => fun
  | [d1, d2] => { results := [.lit (.bool true)], args := [d1, d2] }
  | _ => none }
def factorMovesRow : OpenClaim := { program := "ytpdenhmkpiafiaa", sum := "dba24e67c7cb4dac7505897e902611935462bdffce7eee57b4e8a5c3d0b2f849", func := "tallage/tallagelaw20.FactorMoves", spec := "factorMoves", unfollowed := true, recurses := true, apart := false }
def FactorMovesSaid : Prop := factorMovesRow.holds Try.pinned (OpenSpec.ofChange factorMovesSpec)

/-- ITS FALSE NEIGHBOUR: 'it returns false'. Refute it at one input. -/
def factorMovesWrong : ChangeSpec := { name := "factorMoves", fn := fun _ => fun
  | [d1, d2] => { results := [.lit (.bool false)], args := [d1, d2] }
  | _ => none }
def FactorMovesWrongFalsely : Prop := factorMovesRow.holds Try.pinned (OpenSpec.ofChange factorMovesWrong)

/-- 'tallagelaw14.EventBack': WHATEVER THE INPUT: true; the input reads as it did. -/
def eventBackSpec : ChangeSpec := { name := "eventBack", fn := fun _ => fun
  | [d1, d2, d3] => { results := [.lit (.bool true)], args := [d1, d2, d3] }
  | _ => none }
def eventBackRow : OpenClaim := { program := "ytpdenhmkpiafiaa", sum := "dba24e67c7cb4dac7505897e902611935462bdffce7eee57b4e8a5c3d0b2f849", func := "tallage/tallagelaw14.EventBack", spec := "eventBack", inPlace := ["internal/abi.NoEscape"], unfollowed := true, recurses := true, apart := false }
def EventBackSaid : Prop := eventBackRow.holds Try.pinned (OpenSpec.ofChange eventBackSpec)

/-- ITS FALSE NEIGHBOUR: 'it returns false'. Refute it at one input. -/
def eventBackWrong : ChangeSpec := { name := "eventBack", fn := fun _ => fun
  | [d1, d2, d3] => { results := [.lit (.bool false)], args := [d1, d2, d3] }
  | _ => none }
def EventBackWrongFalsely : Prop := eventBackRow.holds Try.pinned (OpenSpec.ofChange eventBackWrong)

/-- 'tallagelaw15.TxReads': WHATEVER THE INPUT: true; the input reads as it did. -/
def txReadsSpec : ChangeSpec := { name := "txReads", fn := fun _ => fun
  | [d] => { results := [.lit (.bool true)], args := [d] }
  | _ => none }
def txReadsRow : OpenClaim := { program := "ytpdenhmkpiafiaa", sum := "dba24e67c7cb4dac7505897e902611935462bdffce7eee57b4e8a5c3d0b2f849", func := "tallage/tallagelaw15.TxReads", spec := "txReads", unfollowed := true, recurses := true, apart := false }
def TxReadsSaid : Prop := txReadsRow.holds Try.pinned (OpenSpec.ofChange txReadsSpec)

/-- ITS FALSE NEIGHBOUR: 'it returns false'. Refute it at one input. -/
def txReadsWrong : ChangeSpec := { name := "txReads", fn := fun _ => fun
  | [d] => { results := [.lit (.bool false)], args := [d] }
  | _ => none }
def TxReadsWrongFalsely : Prop := txReadsRow.holds Try.pinned (OpenSpec.ofChange txReadsWrong)

/-- 'tallagelaw15.TxBack': WHATEVER THE INPUT: true; the input reads as it did. -/
def txBackSpec : ChangeSpec := { name := "txBack", fn := fun _ => fun
  | [d1, d2, d3] => { results := [.lit (.bool true)], args := [d1, d2, d3] }
  | _ => none }
def txBackRow : OpenClaim := { program := "ytpdenhmkpiafiaa", sum := "dba24e67c7cb4dac7505897e902611935462bdffce7eee57b4e8a5c3d0b2f849", func := "tallage/tallagelaw15.TxBack", spec := "txBack", unfollowed := true, recurses := true, apart := false }
def TxBackSaid : Prop := txBackRow.holds Try.pinned (OpenSpec.ofChange txBackSpec)

/-- ITS FALSE NEIGHBOUR: 'it returns false'. Refute it at one input. -/
def txBackWrong : ChangeSpec := { name := "txBack", fn := fun _ => fun
  | [d1, d2, d3] => { results := [.lit (.bool false)], args := [d1, d2, d3] }
  | _ => none }
def TxBackWrongFalsely : Prop := txBackRow.holds Try.pinned (OpenSpec.ofChange txBackWrong)

/- THE SECOND FORM. 'bulk': how many values and letters a reading holds, each counted each time it is reached (what is shared counts as often as it is met; a slice's spare places count too). A statement '..UptoSaid' is the law's where the arguments, and the package variables that the reading takes, are together of bulk at most 1048576: NARROWER than '..Said'. Prove '..Said' where nothing that the law and all that it calls make is longer than what came in: it says more and counts as full. Else prove '..UptoSaid'. A law counts once. -/
mutual
def uptoBulk {H : Type} : DataW H → Nat
  | .lit (.string bytes) => bytes.length + 1
  | .lit _ => 1
  | .nil => 1
  | .ptr d => uptoBulk d + 1
  | .slice elems spare => uptoBulkAll elems + uptoBulkAll spare + 1
  | .agg parts => uptoBulkAll parts + 1
  | .iface _ d => uptoBulk d + 1
  | .map entries => uptoBulkEntries entries + 1
  | .held _ => 1
def uptoBulkAll {H : Type} : List (DataW H) → Nat
  | [] => 0
  | d :: r => uptoBulk d + uptoBulkAll r
def uptoBulkEntries {H : Type} : List (Lit × DataW H) → Nat
  | [] => 0
  | x :: r => uptoBulkEntry x + uptoBulkEntries r
def uptoBulkEntry {H : Type} : Lit × DataW H → Nat
  | (.string bytes, d) => bytes.length + uptoBulk d + 1
  | (_, d) => uptoBulk d + 1
 end
def uptoSmall : (H : Type) → List (DataW H) → Bool := fun _ ds => decide (uptoBulkAll ds ≤ 1048576)
def OpenSpec.upto (s : _root_.Go.ChangeSpec) : _root_.Go.OpenSpec := { _root_.Go.OpenSpec.ofChange s with cond := some uptoSmall }

/-- 'tallagelaw14.EventMakes', WHERE WHAT IT READS IS OF BULK AT MOST 1048576: true; the input reads as it did. -/
def eventMakesUptoRow : OpenClaim := { program := "ytpdenhmkpiafiaa", sum := "dba24e67c7cb4dac7505897e902611935462bdffce7eee57b4e8a5c3d0b2f849", func := "tallage/tallagelaw14.EventMakes", spec := "eventMakes", inPlace := ["internal/abi.NoEscape"], apart := false, narrowed := true }
def EventMakesUptoSaid : Prop := eventMakesUptoRow.holds Try.pinned (OpenSpec.upto eventMakesSpec)

/-- 'tallagelaw04.OctetPuts', WHERE WHAT IT READS IS OF BULK AT MOST 1048576: true; the input reads as it did. -/
def octetPutsUptoRow : OpenClaim := { program := "ytpdenhmkpiafiaa", sum := "dba24e67c7cb4dac7505897e902611935462bdffce7eee57b4e8a5c3d0b2f849", func := "tallage/tallagelaw04.OctetPuts", spec := "octetPuts", unfollowed := true, recurses := true, apart := false, narrowed := true }
def OctetPutsUptoSaid : Prop := octetPutsUptoRow.holds Try.pinned (OpenSpec.upto octetPutsSpec)

/-- 'tallagelaw01.WordOrder', WHERE WHAT IT READS IS OF BULK AT MOST 1048576: true; the input reads as it did. -/
def wordOrderUptoRow : OpenClaim := { program := "ytpdenhmkpiafiaa", sum := "dba24e67c7cb4dac7505897e902611935462bdffce7eee57b4e8a5c3d0b2f849", func := "tallage/tallagelaw01.WordOrder", spec := "wordOrder", apart := false, narrowed := true }
def WordOrderUptoSaid : Prop := wordOrderUptoRow.holds Try.pinned (OpenSpec.upto wordOrderSpec)

/-- 'tallagelaw01.WordReckons', WHERE WHAT IT READS IS OF BULK AT MOST 1048576: true; the input reads as it did. -/
def wordReckonsUptoRow : OpenClaim := { program := "ytpdenhmkpiafiaa", sum := "dba24e67c7cb4dac7505897e902611935462bdffce7eee57b4e8a5c3d0b2f849", func := "tallage/tallagelaw01.WordReckons", spec := "wordReckons", apart := false, narrowed := true }
def WordReckonsUptoSaid : Prop := wordReckonsUptoRow.holds Try.pinned (OpenSpec.upto wordReckonsSpec)

/-- 'tallagelaw04.OctetOnce', WHERE WHAT IT READS IS OF BULK AT MOST 1048576: true; the input reads as it did. -/
def octetOnceUptoRow : OpenClaim := { program := "ytpdenhmkpiafiaa", sum := "dba24e67c7cb4dac7505897e902611935462bdffce7eee57b4e8a5c3d0b2f849", func := "tallage/tallagelaw04.OctetOnce", spec := "octetOnce", unfollowed := true, recurses := true, apart := false, narrowed := true }
def OctetOnceUptoSaid : Prop := octetOnceUptoRow.holds Try.pinned (OpenSpec.upto octetOnceSpec)

/-- 'tallagelaw04.OctetBack', WHERE WHAT IT READS IS OF BULK AT MOST 1048576: true; the input reads as it did. -/
def octetBackUptoRow : OpenClaim := { program := "ytpdenhmkpiafiaa", sum := "dba24e67c7cb4dac7505897e902611935462bdffce7eee57b4e8a5c3d0b2f849", func := "tallage/tallagelaw04.OctetBack", spec := "octetBack", unfollowed := true, recurses := true, apart := false, narrowed := true }
def OctetBackUptoSaid : Prop := octetBackUptoRow.holds Try.pinned (OpenSpec.upto octetBackSpec)

/-- 'tallagelaw04.OctetGets', WHERE WHAT IT READS IS OF BULK AT MOST 1048576: true; the input reads as it did. -/
def octetGetsUptoRow : OpenClaim := { program := "ytpdenhmkpiafiaa", sum := "dba24e67c7cb4dac7505897e902611935462bdffce7eee57b4e8a5c3d0b2f849", func := "tallage/tallagelaw04.OctetGets", spec := "octetGets", unfollowed := true, recurses := true, apart := false, narrowed := true }
def OctetGetsUptoSaid : Prop := octetGetsUptoRow.holds Try.pinned (OpenSpec.upto octetGetsSpec)

/-- 'tallagelaw04.OctetNone', WHERE WHAT IT READS IS OF BULK AT MOST 1048576: true; the input reads as it did. -/
def octetNoneUptoRow : OpenClaim := { program := "ytpdenhmkpiafiaa", sum := "dba24e67c7cb4dac7505897e902611935462bdffce7eee57b4e8a5c3d0b2f849", func := "tallage/tallagelaw04.OctetNone", spec := "octetNone", unfollowed := true, recurses := true, apart := false, narrowed := true }
def OctetNoneUptoSaid : Prop := octetNoneUptoRow.holds Try.pinned (OpenSpec.upto octetNoneSpec)

/-- 'tallagelaw14.EventForms', WHERE WHAT IT READS IS OF BULK AT MOST 1048576: true; the input reads as it did. -/
def eventFormsUptoRow : OpenClaim := { program := "ytpdenhmkpiafiaa", sum := "dba24e67c7cb4dac7505897e902611935462bdffce7eee57b4e8a5c3d0b2f849", func := "tallage/tallagelaw14.EventForms", spec := "eventForms", inPlace := ["internal/abi.NoEscape"], unfollowed := true, recurses := true, apart := false, narrowed := true }
def EventFormsUptoSaid : Prop := eventFormsUptoRow.holds Try.pinned (OpenSpec.upto eventFormsSpec)

/-- 'tallagelaw01.WordBack', WHERE WHAT IT READS IS OF BULK AT MOST 1048576: true; the input reads as it did. -/
def wordBackUptoRow : OpenClaim := { program := "ytpdenhmkpiafiaa", sum := "dba24e67c7cb4dac7505897e902611935462bdffce7eee57b4e8a5c3d0b2f849", func := "tallage/tallagelaw01.WordBack", spec := "wordBack", apart := false, narrowed := true }
def WordBackUptoSaid : Prop := wordBackUptoRow.holds Try.pinned (OpenSpec.upto wordBackSpec)

/-- 'tallagelaw02.MuldivDivides', WHERE WHAT IT READS IS OF BULK AT MOST 1048576: true; the input reads as it did. -/
def muldivDividesUptoRow : OpenClaim := { program := "ytpdenhmkpiafiaa", sum := "dba24e67c7cb4dac7505897e902611935462bdffce7eee57b4e8a5c3d0b2f849", func := "tallage/tallagelaw02.MuldivDivides", spec := "muldivDivides", apart := false, narrowed := true }
def MuldivDividesUptoSaid : Prop := muldivDividesUptoRow.holds Try.pinned (OpenSpec.upto muldivDividesSpec)

/-- 'tallagelaw02.MuldivQuo', WHERE WHAT IT READS IS OF BULK AT MOST 1048576: true; the input reads as it did. -/
def muldivQuoUptoRow : OpenClaim := { program := "ytpdenhmkpiafiaa", sum := "dba24e67c7cb4dac7505897e902611935462bdffce7eee57b4e8a5c3d0b2f849", func := "tallage/tallagelaw02.MuldivQuo", spec := "muldivQuo", apart := false, narrowed := true }
def MuldivQuoUptoSaid : Prop := muldivQuoUptoRow.holds Try.pinned (OpenSpec.upto muldivQuoSpec)

/-- 'tallagelaw02.MuldivRounds', WHERE WHAT IT READS IS OF BULK AT MOST 1048576: true; the input reads as it did. -/
def muldivRoundsUptoRow : OpenClaim := { program := "ytpdenhmkpiafiaa", sum := "dba24e67c7cb4dac7505897e902611935462bdffce7eee57b4e8a5c3d0b2f849", func := "tallage/tallagelaw02.MuldivRounds", spec := "muldivRounds", apart := false, narrowed := true }
def MuldivRoundsUptoSaid : Prop := muldivRoundsUptoRow.holds Try.pinned (OpenSpec.upto muldivRoundsSpec)

/-- 'tallagelaw02.MuldivScales', WHERE WHAT IT READS IS OF BULK AT MOST 1048576: true; the input reads as it did. -/
def muldivScalesUptoRow : OpenClaim := { program := "ytpdenhmkpiafiaa", sum := "dba24e67c7cb4dac7505897e902611935462bdffce7eee57b4e8a5c3d0b2f849", func := "tallage/tallagelaw02.MuldivScales", spec := "muldivScales", apart := false, narrowed := true }
def MuldivScalesUptoSaid : Prop := muldivScalesUptoRow.holds Try.pinned (OpenSpec.upto muldivScalesSpec)

/-- 'tallagelaw01.WordForms', WHERE WHAT IT READS IS OF BULK AT MOST 1048576: true; the input reads as it did. -/
def wordFormsUptoRow : OpenClaim := { program := "ytpdenhmkpiafiaa", sum := "dba24e67c7cb4dac7505897e902611935462bdffce7eee57b4e8a5c3d0b2f849", func := "tallage/tallagelaw01.WordForms", spec := "wordForms", apart := false, narrowed := true }
def WordFormsUptoSaid : Prop := wordFormsUptoRow.holds Try.pinned (OpenSpec.upto wordFormsSpec)

/-- 'tallagelaw03.WadParts', WHERE WHAT IT READS IS OF BULK AT MOST 1048576: true; the input reads as it did. -/
def wadPartsUptoRow : OpenClaim := { program := "ytpdenhmkpiafiaa", sum := "dba24e67c7cb4dac7505897e902611935462bdffce7eee57b4e8a5c3d0b2f849", func := "tallage/tallagelaw03.WadParts", spec := "wadParts", unfollowed := true, recurses := true, apart := false, narrowed := true }
def WadPartsUptoSaid : Prop := wadPartsUptoRow.holds Try.pinned (OpenSpec.upto wadPartsSpec)

/-- 'tallagelaw03.WadSteps', WHERE WHAT IT READS IS OF BULK AT MOST 1048576: true; the input reads as it did. -/
def wadStepsUptoRow : OpenClaim := { program := "ytpdenhmkpiafiaa", sum := "dba24e67c7cb4dac7505897e902611935462bdffce7eee57b4e8a5c3d0b2f849", func := "tallage/tallagelaw03.WadSteps", spec := "wadSteps", unfollowed := true, recurses := true, apart := false, narrowed := true }
def WadStepsUptoSaid : Prop := wadStepsUptoRow.holds Try.pinned (OpenSpec.upto wadStepsSpec)

/-- 'tallagelaw03.WadScales', WHERE WHAT IT READS IS OF BULK AT MOST 1048576: true; the input reads as it did. -/
def wadScalesUptoRow : OpenClaim := { program := "ytpdenhmkpiafiaa", sum := "dba24e67c7cb4dac7505897e902611935462bdffce7eee57b4e8a5c3d0b2f849", func := "tallage/tallagelaw03.WadScales", spec := "wadScales", unfollowed := true, recurses := true, apart := false, narrowed := true }
def WadScalesUptoSaid : Prop := wadScalesUptoRow.holds Try.pinned (OpenSpec.upto wadScalesSpec)

/-- 'tallagelaw18.RateTells', WHERE WHAT IT READS IS OF BULK AT MOST 1048576: true; the input reads as it did. -/
def rateTellsUptoRow : OpenClaim := { program := "ytpdenhmkpiafiaa", sum := "dba24e67c7cb4dac7505897e902611935462bdffce7eee57b4e8a5c3d0b2f849", func := "tallage/tallagelaw18.RateTells", spec := "rateTells", unfollowed := true, recurses := true, apart := false, narrowed := true }
def RateTellsUptoSaid : Prop := rateTellsUptoRow.holds Try.pinned (OpenSpec.upto rateTellsSpec)

/-- 'tallagelaw18.RateStays', WHERE WHAT IT READS IS OF BULK AT MOST 1048576: true; the input reads as it did. -/
def rateStaysUptoRow : OpenClaim := { program := "ytpdenhmkpiafiaa", sum := "dba24e67c7cb4dac7505897e902611935462bdffce7eee57b4e8a5c3d0b2f849", func := "tallage/tallagelaw18.RateStays", spec := "rateStays", unfollowed := true, recurses := true, apart := false, narrowed := true }
def RateStaysUptoSaid : Prop := rateStaysUptoRow.holds Try.pinned (OpenSpec.upto rateStaysSpec)

/-- 'tallagelaw18.RateBack', WHERE WHAT IT READS IS OF BULK AT MOST 1048576: true; the input reads as it did. -/
def rateBackUptoRow : OpenClaim := { program := "ytpdenhmkpiafiaa", sum := "dba24e67c7cb4dac7505897e902611935462bdffce7eee57b4e8a5c3d0b2f849", func := "tallage/tallagelaw18.RateBack", spec := "rateBack", unfollowed := true, recurses := true, apart := false, narrowed := true }
def RateBackUptoSaid : Prop := rateBackUptoRow.holds Try.pinned (OpenSpec.upto rateBackSpec)

/-- 'tallagelaw03.WadReckons', WHERE WHAT IT READS IS OF BULK AT MOST 1048576: true; the input reads as it did. -/
def wadReckonsUptoRow : OpenClaim := { program := "ytpdenhmkpiafiaa", sum := "dba24e67c7cb4dac7505897e902611935462bdffce7eee57b4e8a5c3d0b2f849", func := "tallage/tallagelaw03.WadReckons", spec := "wadReckons", unfollowed := true, recurses := true, apart := false, narrowed := true }
def WadReckonsUptoSaid : Prop := wadReckonsUptoRow.holds Try.pinned (OpenSpec.upto wadReckonsSpec)

/-- 'tallagelaw15.TxKinds', WHERE WHAT IT READS IS OF BULK AT MOST 1048576: true; the input reads as it did. -/
def txKindsUptoRow : OpenClaim := { program := "ytpdenhmkpiafiaa", sum := "dba24e67c7cb4dac7505897e902611935462bdffce7eee57b4e8a5c3d0b2f849", func := "tallage/tallagelaw15.TxKinds", spec := "txKinds", unfollowed := true, recurses := true, apart := false, narrowed := true }
def TxKindsUptoSaid : Prop := txKindsUptoRow.holds Try.pinned (OpenSpec.upto txKindsSpec)

/-- 'tallagelaw15.TxForms', WHERE WHAT IT READS IS OF BULK AT MOST 1048576: true; the input reads as it did. -/
def txFormsUptoRow : OpenClaim := { program := "ytpdenhmkpiafiaa", sum := "dba24e67c7cb4dac7505897e902611935462bdffce7eee57b4e8a5c3d0b2f849", func := "tallage/tallagelaw15.TxForms", spec := "txForms", unfollowed := true, recurses := true, apart := false, narrowed := true }
def TxFormsUptoSaid : Prop := txFormsUptoRow.holds Try.pinned (OpenSpec.upto txFormsSpec)

/-- 'tallagelaw14.EventReads', WHERE WHAT IT READS IS OF BULK AT MOST 1048576: true; the input reads as it did. -/
def eventReadsUptoRow : OpenClaim := { program := "ytpdenhmkpiafiaa", sum := "dba24e67c7cb4dac7505897e902611935462bdffce7eee57b4e8a5c3d0b2f849", func := "tallage/tallagelaw14.EventReads", spec := "eventReads", inPlace := ["internal/abi.NoEscape"], unfollowed := true, recurses := true, apart := false, narrowed := true }
def EventReadsUptoSaid : Prop := eventReadsUptoRow.holds Try.pinned (OpenSpec.upto eventReadsSpec)

/-- 'tallagelaw20.FactorGrows', WHERE WHAT IT READS IS OF BULK AT MOST 1048576: true; the input reads as it did. -/
def factorGrowsUptoRow : OpenClaim := { program := "ytpdenhmkpiafiaa", sum := "dba24e67c7cb4dac7505897e902611935462bdffce7eee57b4e8a5c3d0b2f849", func := "tallage/tallagelaw20.FactorGrows", spec := "factorGrows", unfollowed := true, recurses := true, apart := false, narrowed := true }
def FactorGrowsUptoSaid : Prop := factorGrowsUptoRow.holds Try.pinned (OpenSpec.upto factorGrowsSpec)

/-- 'tallagelaw20.FactorParts', WHERE WHAT IT READS IS OF BULK AT MOST 1048576: true; the input reads as it did. -/
def factorPartsUptoRow : OpenClaim := { program := "ytpdenhmkpiafiaa", sum := "dba24e67c7cb4dac7505897e902611935462bdffce7eee57b4e8a5c3d0b2f849", func := "tallage/tallagelaw20.FactorParts", spec := "factorParts", unfollowed := true, recurses := true, apart := false, narrowed := true }
def FactorPartsUptoSaid : Prop := factorPartsUptoRow.holds Try.pinned (OpenSpec.upto factorPartsSpec)

/-- 'tallagelaw20.FactorMoves', WHERE WHAT IT READS IS OF BULK AT MOST 1048576: true; the input reads as it did. -/
def factorMovesUptoRow : OpenClaim := { program := "ytpdenhmkpiafiaa", sum := "dba24e67c7cb4dac7505897e902611935462bdffce7eee57b4e8a5c3d0b2f849", func := "tallage/tallagelaw20.FactorMoves", spec := "factorMoves", unfollowed := true, recurses := true, apart := false, narrowed := true }
def FactorMovesUptoSaid : Prop := factorMovesUptoRow.holds Try.pinned (OpenSpec.upto factorMovesSpec)

/-- 'tallagelaw14.EventBack', WHERE WHAT IT READS IS OF BULK AT MOST 1048576: true; the input reads as it did. -/
def eventBackUptoRow : OpenClaim := { program := "ytpdenhmkpiafiaa", sum := "dba24e67c7cb4dac7505897e902611935462bdffce7eee57b4e8a5c3d0b2f849", func := "tallage/tallagelaw14.EventBack", spec := "eventBack", inPlace := ["internal/abi.NoEscape"], unfollowed := true, recurses := true, apart := false, narrowed := true }
def EventBackUptoSaid : Prop := eventBackUptoRow.holds Try.pinned (OpenSpec.upto eventBackSpec)

/-- 'tallagelaw15.TxReads', WHERE WHAT IT READS IS OF BULK AT MOST 1048576: true; the input reads as it did. -/
def txReadsUptoRow : OpenClaim := { program := "ytpdenhmkpiafiaa", sum := "dba24e67c7cb4dac7505897e902611935462bdffce7eee57b4e8a5c3d0b2f849", func := "tallage/tallagelaw15.TxReads", spec := "txReads", unfollowed := true, recurses := true, apart := false, narrowed := true }
def TxReadsUptoSaid : Prop := txReadsUptoRow.holds Try.pinned (OpenSpec.upto txReadsSpec)

/-- 'tallagelaw15.TxBack', WHERE WHAT IT READS IS OF BULK AT MOST 1048576: true; the input reads as it did. -/
def txBackUptoRow : OpenClaim := { program := "ytpdenhmkpiafiaa", sum := "dba24e67c7cb4dac7505897e902611935462bdffce7eee57b4e8a5c3d0b2f849", func := "tallage/tallagelaw15.TxBack", spec := "txBack", unfollowed := true, recurses := true, apart := false, narrowed := true }
def TxBackUptoSaid : Prop := txBackUptoRow.holds Try.pinned (OpenSpec.upto txBackSpec)

end Rows
end Go.Proofs.Ytpdenhmkpiafiaa
