/-
  DERIVED. GIVEN WITH THE SEED: THE CARDS: each row of YtbnmjdmbdoehlaaGreatDoorRows.lean that lists a variable, with what it lists TIED to the program's text (the seventh form; the later family's looks); each row that meets fmt, with fmt's text TOLD by the authors' own Lean function (tested against real Go, not proved from fmt's source: count such statements apart). THE CARD IS WHAT COUNTS. Prove the row's statement (the work); the ties are given (YtbnmjdmbdoehlaaGreatDoorTie.lean); close each card by the builder's one call (the guide's Derived/Test/ToyasCard.lean, 'card_holds'). Laid BY PROGRAM, IN A SANDBOX (cutbox-door.mjs). By AI agents, Wed Nov 11 2026. No macro, syntax, notation, axiom, sorry.
-/
import Derived.Test.YtbnmjdmbdoehlaaGreatDoorRows
import GoSem.ClaimSeven
namespace Go.Proofs.YtbnmjdmbdoehlaaGreatDoor
namespace Rows

/-- THE TIED CARD OF 'flangelaw09.CoerceTakes'. -/
def coerceTakesCard : Claim7 := { stood := { row := coerceTakesRow, standIns := [], harness := (true, "209a6b2bd7f013db7028f1d8c3b7d9ff9ec3f22b2431d9990f79dfbd59d9276f"), looks := true }, kinds := [], alts := [], laidByText := true, laidKinds := [.data, .data, .data, .sentinel, .sentinel], laidTests := true, laidLooks := .later }
def CoerceTakesCardSaid : Prop := Claim7.holds Tryz.pinned (.plain (OpenSpec.ofChange coerceTakesSpec)) coerceTakesCard

/-- THE TIED CARD OF 'flangelaw09.CoerceMerges'. -/
def coerceMergesCard : Claim7 := { stood := { row := coerceMergesRow, standIns := [], harness := (true, "209a6b2bd7f013db7028f1d8c3b7d9ff9ec3f22b2431d9990f79dfbd59d9276f"), looks := true }, kinds := [], alts := [], laidByText := true, laidKinds := [.data, .data, .data, .sentinel, .sentinel], laidTests := true, laidLooks := .later }
def CoerceMergesCardSaid : Prop := Claim7.holds Tryz.pinned (.plain (OpenSpec.ofChange coerceMergesSpec)) coerceMergesCard

/-- THE TIED CARD OF 'flangelaw09.CoerceAttrs'. -/
def coerceAttrsCard : Claim7 := { stood := { row := coerceAttrsRow, standIns := [], harness := (true, "209a6b2bd7f013db7028f1d8c3b7d9ff9ec3f22b2431d9990f79dfbd59d9276f"), looks := true }, kinds := [], alts := [], laidByText := true, laidKinds := [.data, .data, .data, .data, .sentinel, .sentinel, .pinned], laidTests := true, laidLooks := .later }
def CoerceAttrsCardSaid : Prop := Claim7.holds Tryz.pinned (.plain (OpenSpec.ofChange coerceAttrsSpec)) coerceAttrsCard

/-- THE TIED CARD OF 'flangelaw24.ReplyCompletes'. -/
def replyCompletesCard : Claim7 := { stood := { row := replyCompletesRow, standIns := [], harness := (true, "209a6b2bd7f013db7028f1d8c3b7d9ff9ec3f22b2431d9990f79dfbd59d9276f"), looks := true }, kinds := [], alts := [], laidByText := true, laidKinds := [.data, .data, .data, .data, .sentinel, .sentinel, .pinned], laidTests := true, laidLooks := .later }
def ReplyCompletesCardSaid : Prop := Claim7.holds Tryz.pinned (.plain (OpenSpec.ofChange replyCompletesSpec)) replyCompletesCard

/-- THE TIED CARD OF 'flangelaw24.ReplyPasses'. -/
def replyPassesCard : Claim7 := { stood := { row := replyPassesRow, standIns := [], harness := (true, "209a6b2bd7f013db7028f1d8c3b7d9ff9ec3f22b2431d9990f79dfbd59d9276f"), looks := true }, kinds := [], alts := [], laidByText := true, laidKinds := [.data, .data, .data, .data, .sentinel, .sentinel, .pinned], laidTests := true, laidLooks := .later }
def ReplyPassesCardSaid : Prop := Claim7.holds Tryz.pinned (.plain (OpenSpec.ofChange replyPassesSpec)) replyPassesCard

/-- THE TIED CARD OF 'flangelaw26.LifeGood'. -/
def lifeGoodCard : Claim7 := { stood := { row := lifeGoodRow, standIns := [], harness := (true, "209a6b2bd7f013db7028f1d8c3b7d9ff9ec3f22b2431d9990f79dfbd59d9276f"), looks := true }, kinds := [], alts := [], laidByText := true, laidKinds := [.data, .data, .data, .data, .sentinel, .sentinel, .pinned], laidTests := true, laidLooks := .later }
def LifeGoodCardSaid : Prop := Claim7.holds Tryz.pinned (.plain (OpenSpec.ofChange lifeGoodSpec)) lifeGoodCard

/-- THE TIED CARD OF 'flangelaw26.LifeAgain'. -/
def lifeAgainCard : Claim7 := { stood := { row := lifeAgainRow, standIns := [], harness := (true, "209a6b2bd7f013db7028f1d8c3b7d9ff9ec3f22b2431d9990f79dfbd59d9276f"), looks := true }, kinds := [], alts := [], laidByText := true, laidKinds := [.data, .data, .data, .data, .sentinel, .sentinel, .pinned], laidTests := true, laidLooks := .later }
def LifeAgainCardSaid : Prop := Claim7.holds Tryz.pinned (.plain (OpenSpec.ofChange lifeAgainSpec)) lifeAgainCard

/-- THE TIED CARD OF 'flangelaw26.LifeNone'. -/
def lifeNoneCard : Claim7 := { stood := { row := lifeNoneRow, standIns := [], harness := (true, "209a6b2bd7f013db7028f1d8c3b7d9ff9ec3f22b2431d9990f79dfbd59d9276f"), looks := true }, kinds := [], alts := [], laidByText := true, laidKinds := [.data, .data, .data, .data, .sentinel, .sentinel, .pinned], laidTests := true, laidLooks := .later }
def LifeNoneCardSaid : Prop := Claim7.holds Tryz.pinned (.plain (OpenSpec.ofChange lifeNoneSpec)) lifeNoneCard

/-- THE TIED CARD OF 'flangelaw26.LifeRounds'. -/
def lifeRoundsCard : Claim7 := { stood := { row := lifeRoundsRow, standIns := [], harness := (true, "209a6b2bd7f013db7028f1d8c3b7d9ff9ec3f22b2431d9990f79dfbd59d9276f"), looks := true }, kinds := [], alts := [], laidByText := true, laidKinds := [.data, .data, .data, .data, .sentinel, .sentinel, .pinned], laidTests := true, laidLooks := .later }
def LifeRoundsCardSaid : Prop := Claim7.holds Tryz.pinned (.plain (OpenSpec.ofChange lifeRoundsSpec)) lifeRoundsCard

/-- THE SECOND FORM's CARD OF 'flangelaw09.CoerceTakes'. -/
def coerceTakesUptoCard : Claim7 := { stood := { row := coerceTakesUptoRow, standIns := [], harness := (true, "209a6b2bd7f013db7028f1d8c3b7d9ff9ec3f22b2431d9990f79dfbd59d9276f"), looks := true }, kinds := [], alts := [], laidByText := true, laidKinds := [.data, .data, .data, .sentinel, .sentinel], laidTests := true, laidLooks := .later }
def CoerceTakesUptoCardSaid : Prop := Claim7.holds Tryz.pinned (.plain (OpenSpec.upto coerceTakesSpec)) coerceTakesUptoCard

/-- THE SECOND FORM's CARD OF 'flangelaw09.CoerceMerges'. -/
def coerceMergesUptoCard : Claim7 := { stood := { row := coerceMergesUptoRow, standIns := [], harness := (true, "209a6b2bd7f013db7028f1d8c3b7d9ff9ec3f22b2431d9990f79dfbd59d9276f"), looks := true }, kinds := [], alts := [], laidByText := true, laidKinds := [.data, .data, .data, .sentinel, .sentinel], laidTests := true, laidLooks := .later }
def CoerceMergesUptoCardSaid : Prop := Claim7.holds Tryz.pinned (.plain (OpenSpec.upto coerceMergesSpec)) coerceMergesUptoCard

/-- THE SECOND FORM's CARD OF 'flangelaw09.CoerceAttrs'. -/
def coerceAttrsUptoCard : Claim7 := { stood := { row := coerceAttrsUptoRow, standIns := [], harness := (true, "209a6b2bd7f013db7028f1d8c3b7d9ff9ec3f22b2431d9990f79dfbd59d9276f"), looks := true }, kinds := [], alts := [], laidByText := true, laidKinds := [.data, .data, .data, .data, .sentinel, .sentinel, .pinned], laidTests := true, laidLooks := .later }
def CoerceAttrsUptoCardSaid : Prop := Claim7.holds Tryz.pinned (.plain (OpenSpec.upto coerceAttrsSpec)) coerceAttrsUptoCard

/-- THE SECOND FORM's CARD OF 'flangelaw24.ReplyCompletes'. -/
def replyCompletesUptoCard : Claim7 := { stood := { row := replyCompletesUptoRow, standIns := [], harness := (true, "209a6b2bd7f013db7028f1d8c3b7d9ff9ec3f22b2431d9990f79dfbd59d9276f"), looks := true }, kinds := [], alts := [], laidByText := true, laidKinds := [.data, .data, .data, .data, .sentinel, .sentinel, .pinned], laidTests := true, laidLooks := .later }
def ReplyCompletesUptoCardSaid : Prop := Claim7.holds Tryz.pinned (.plain (OpenSpec.upto replyCompletesSpec)) replyCompletesUptoCard

/-- THE SECOND FORM's CARD OF 'flangelaw24.ReplyPasses'. -/
def replyPassesUptoCard : Claim7 := { stood := { row := replyPassesUptoRow, standIns := [], harness := (true, "209a6b2bd7f013db7028f1d8c3b7d9ff9ec3f22b2431d9990f79dfbd59d9276f"), looks := true }, kinds := [], alts := [], laidByText := true, laidKinds := [.data, .data, .data, .data, .sentinel, .sentinel, .pinned], laidTests := true, laidLooks := .later }
def ReplyPassesUptoCardSaid : Prop := Claim7.holds Tryz.pinned (.plain (OpenSpec.upto replyPassesSpec)) replyPassesUptoCard

/-- THE SECOND FORM's CARD OF 'flangelaw26.LifeGood'. -/
def lifeGoodUptoCard : Claim7 := { stood := { row := lifeGoodUptoRow, standIns := [], harness := (true, "209a6b2bd7f013db7028f1d8c3b7d9ff9ec3f22b2431d9990f79dfbd59d9276f"), looks := true }, kinds := [], alts := [], laidByText := true, laidKinds := [.data, .data, .data, .data, .sentinel, .sentinel, .pinned], laidTests := true, laidLooks := .later }
def LifeGoodUptoCardSaid : Prop := Claim7.holds Tryz.pinned (.plain (OpenSpec.upto lifeGoodSpec)) lifeGoodUptoCard

/-- THE SECOND FORM's CARD OF 'flangelaw26.LifeAgain'. -/
def lifeAgainUptoCard : Claim7 := { stood := { row := lifeAgainUptoRow, standIns := [], harness := (true, "209a6b2bd7f013db7028f1d8c3b7d9ff9ec3f22b2431d9990f79dfbd59d9276f"), looks := true }, kinds := [], alts := [], laidByText := true, laidKinds := [.data, .data, .data, .data, .sentinel, .sentinel, .pinned], laidTests := true, laidLooks := .later }
def LifeAgainUptoCardSaid : Prop := Claim7.holds Tryz.pinned (.plain (OpenSpec.upto lifeAgainSpec)) lifeAgainUptoCard

/-- THE SECOND FORM's CARD OF 'flangelaw26.LifeNone'. -/
def lifeNoneUptoCard : Claim7 := { stood := { row := lifeNoneUptoRow, standIns := [], harness := (true, "209a6b2bd7f013db7028f1d8c3b7d9ff9ec3f22b2431d9990f79dfbd59d9276f"), looks := true }, kinds := [], alts := [], laidByText := true, laidKinds := [.data, .data, .data, .data, .sentinel, .sentinel, .pinned], laidTests := true, laidLooks := .later }
def LifeNoneUptoCardSaid : Prop := Claim7.holds Tryz.pinned (.plain (OpenSpec.upto lifeNoneSpec)) lifeNoneUptoCard

/-- THE SECOND FORM's CARD OF 'flangelaw26.LifeRounds'. -/
def lifeRoundsUptoCard : Claim7 := { stood := { row := lifeRoundsUptoRow, standIns := [], harness := (true, "209a6b2bd7f013db7028f1d8c3b7d9ff9ec3f22b2431d9990f79dfbd59d9276f"), looks := true }, kinds := [], alts := [], laidByText := true, laidKinds := [.data, .data, .data, .data, .sentinel, .sentinel, .pinned], laidTests := true, laidLooks := .later }
def LifeRoundsUptoCardSaid : Prop := Claim7.holds Tryz.pinned (.plain (OpenSpec.upto lifeRoundsSpec)) lifeRoundsUptoCard
end Rows
end Go.Proofs.YtbnmjdmbdoehlaaGreatDoor
