/-
  DERIVED. GIVEN WITH THE SEED: THE CARDS: each row of YtopladipgobpjaaDoorRows.lean that lists a variable, with what it lists TIED to the program's text (the seventh form; the later family's looks); each row that meets fmt, with fmt's text TOLD by the authors' own Lean function (tested against real Go, not proved from fmt's source: count such statements apart). THE CARD IS WHAT COUNTS. Prove the row's statement (the work); the ties are given (YtopladipgobpjaaDoorTie.lean); close each card by the builder's one call (the guide's Derived/Test/ToyasCard.lean, 'card_holds'). Laid BY PROGRAM, IN A SANDBOX (cutbox-door.mjs). By AI agents, Wed Nov 11 2026. No macro, syntax, notation, axiom, sorry.
-/
import Derived.Test.YtopladipgobpjaaDoorRows
import GoSem.ClaimSeven
namespace Go.Proofs.YtopladipgobpjaaDoor
namespace Rows

/-- THE TIED CARD OF 'ferrymanlaw02.AddrFours'. -/
def addrFoursCard : Claim7 := { stood := { row := addrFoursRow, standIns := [], harness := (true, "2c2e10dfad521d8a68acca1e017bcd51af26f7f93c44638cb4d6de8cacc7ccee"), looks := true }, kinds := [], alts := [], laidByText := true, laidKinds := [.data, .data, .data], laidTests := true, laidLooks := .later }
def AddrFoursCardSaid : Prop := Claim7.holds Tryd.pinned (.plain (OpenSpec.ofChange addrFoursSpec)) addrFoursCard

/-- THE TIED CARD OF 'ferrymanlaw02.AddrSixes'. -/
def addrSixesCard : Claim7 := { stood := { row := addrSixesRow, standIns := [], harness := (true, "2c2e10dfad521d8a68acca1e017bcd51af26f7f93c44638cb4d6de8cacc7ccee"), looks := true }, kinds := [], alts := [], laidByText := true, laidKinds := [.data, .data, .data], laidTests := true, laidLooks := .later }
def AddrSixesCardSaid : Prop := Claim7.holds Tryd.pinned (.plain (OpenSpec.ofChange addrSixesSpec)) addrSixesCard

/-- THE TIED CARD OF 'ferrymanlaw02.AddrOwn'. -/
def addrOwnCard : Claim7 := { stood := { row := addrOwnRow, standIns := [], harness := (true, "2c2e10dfad521d8a68acca1e017bcd51af26f7f93c44638cb4d6de8cacc7ccee"), looks := true }, kinds := [], alts := [], laidByText := true, laidKinds := [.data, .data, .data], laidTests := true, laidLooks := .later }
def AddrOwnCardSaid : Prop := Claim7.holds Tryd.pinned (.plain (OpenSpec.ofChange addrOwnSpec)) addrOwnCard

/-- THE TIED CARD OF 'ferrymanlaw02.AddrBack'. -/
def addrBackCard : Claim7 := { stood := { row := addrBackRow, standIns := [], harness := (true, "2c2e10dfad521d8a68acca1e017bcd51af26f7f93c44638cb4d6de8cacc7ccee"), looks := true }, kinds := [], alts := [], laidByText := true, laidKinds := [.data, .data, .data], laidTests := true, laidLooks := .later }
def AddrBackCardSaid : Prop := Claim7.holds Tryd.pinned (.plain (OpenSpec.ofChange addrBackSpec)) addrBackCard

/-- THE TIED CARD OF 'ferrymanlaw02.AddrSets'. -/
def addrSetsCard : Claim7 := { stood := { row := addrSetsRow, standIns := [], harness := (true, "2c2e10dfad521d8a68acca1e017bcd51af26f7f93c44638cb4d6de8cacc7ccee"), looks := true }, kinds := [], alts := [], laidByText := true, laidKinds := [.data, .data, .data], laidTests := true, laidLooks := .later }
def AddrSetsCardSaid : Prop := Claim7.holds Tryd.pinned (.plain (OpenSpec.ofChange addrSetsSpec)) addrSetsCard

/-- THE TIED CARD OF 'ferrymanlaw02.AddrSetsSix'. -/
def addrSetsSixCard : Claim7 := { stood := { row := addrSetsSixRow, standIns := [], harness := (true, "2c2e10dfad521d8a68acca1e017bcd51af26f7f93c44638cb4d6de8cacc7ccee"), looks := true }, kinds := [], alts := [], laidByText := true, laidKinds := [.data, .data, .data], laidTests := true, laidLooks := .later }
def AddrSetsSixCardSaid : Prop := Claim7.holds Tryd.pinned (.plain (OpenSpec.ofChange addrSetsSixSpec)) addrSetsSixCard

/-- THE TIED CARD OF 'ferrymanlaw02.AddrChecksSix'. -/
def addrChecksSixCard : Claim7 := { stood := { row := addrChecksSixRow, standIns := [], harness := (true, "2c2e10dfad521d8a68acca1e017bcd51af26f7f93c44638cb4d6de8cacc7ccee"), looks := true }, kinds := [], alts := [], laidByText := true, laidKinds := [.data, .data, .data], laidTests := true, laidLooks := .later }
def AddrChecksSixCardSaid : Prop := Claim7.holds Tryd.pinned (.plain (OpenSpec.ofChange addrChecksSixSpec)) addrChecksSixCard

/-- THE TIED CARD OF 'ferrymanlaw02.AddrChecks'. -/
def addrChecksCard : Claim7 := { stood := { row := addrChecksRow, standIns := [], harness := (true, "2c2e10dfad521d8a68acca1e017bcd51af26f7f93c44638cb4d6de8cacc7ccee"), looks := true }, kinds := [], alts := [], laidByText := true, laidKinds := [.data, .data, .data], laidTests := true, laidLooks := .later }
def AddrChecksCardSaid : Prop := Claim7.holds Tryd.pinned (.plain (OpenSpec.ofChange addrChecksSpec)) addrChecksCard

/-- THE TIED CARD OF 'ferrymanlaw02.AddrPrefixes'. -/
def addrPrefixesCard : Claim7 := { stood := { row := addrPrefixesRow, standIns := [], harness := (true, "2c2e10dfad521d8a68acca1e017bcd51af26f7f93c44638cb4d6de8cacc7ccee"), looks := true }, kinds := [], alts := [], laidByText := true, laidKinds := [.data, .data, .data], laidTests := true, laidLooks := .later }
def AddrPrefixesCardSaid : Prop := Claim7.holds Tryd.pinned (.plain (OpenSpec.ofChange addrPrefixesSpec)) addrPrefixesCard

/-- THE TIED CARD OF 'ferrymanlaw02.AddrAgain'. -/
def addrAgainCard : Claim7 := { stood := { row := addrAgainRow, standIns := [], harness := (true, "2c2e10dfad521d8a68acca1e017bcd51af26f7f93c44638cb4d6de8cacc7ccee"), looks := true }, kinds := [], alts := [], laidByText := true, laidKinds := [.data, .data, .data], laidTests := true, laidLooks := .later }
def AddrAgainCardSaid : Prop := Claim7.holds Tryd.pinned (.plain (OpenSpec.ofChange addrAgainSpec)) addrAgainCard

/-- THE SECOND FORM's CARD OF 'ferrymanlaw02.AddrFours'. -/
def addrFoursUptoCard : Claim7 := { stood := { row := addrFoursUptoRow, standIns := [], harness := (true, "2c2e10dfad521d8a68acca1e017bcd51af26f7f93c44638cb4d6de8cacc7ccee"), looks := true }, kinds := [], alts := [], laidByText := true, laidKinds := [.data, .data, .data], laidTests := true, laidLooks := .later }
def AddrFoursUptoCardSaid : Prop := Claim7.holds Tryd.pinned (.plain (OpenSpec.upto addrFoursSpec)) addrFoursUptoCard

/-- THE SECOND FORM's CARD OF 'ferrymanlaw02.AddrSixes'. -/
def addrSixesUptoCard : Claim7 := { stood := { row := addrSixesUptoRow, standIns := [], harness := (true, "2c2e10dfad521d8a68acca1e017bcd51af26f7f93c44638cb4d6de8cacc7ccee"), looks := true }, kinds := [], alts := [], laidByText := true, laidKinds := [.data, .data, .data], laidTests := true, laidLooks := .later }
def AddrSixesUptoCardSaid : Prop := Claim7.holds Tryd.pinned (.plain (OpenSpec.upto addrSixesSpec)) addrSixesUptoCard

/-- THE SECOND FORM's CARD OF 'ferrymanlaw02.AddrOwn'. -/
def addrOwnUptoCard : Claim7 := { stood := { row := addrOwnUptoRow, standIns := [], harness := (true, "2c2e10dfad521d8a68acca1e017bcd51af26f7f93c44638cb4d6de8cacc7ccee"), looks := true }, kinds := [], alts := [], laidByText := true, laidKinds := [.data, .data, .data], laidTests := true, laidLooks := .later }
def AddrOwnUptoCardSaid : Prop := Claim7.holds Tryd.pinned (.plain (OpenSpec.upto addrOwnSpec)) addrOwnUptoCard

/-- THE SECOND FORM's CARD OF 'ferrymanlaw02.AddrBack'. -/
def addrBackUptoCard : Claim7 := { stood := { row := addrBackUptoRow, standIns := [], harness := (true, "2c2e10dfad521d8a68acca1e017bcd51af26f7f93c44638cb4d6de8cacc7ccee"), looks := true }, kinds := [], alts := [], laidByText := true, laidKinds := [.data, .data, .data], laidTests := true, laidLooks := .later }
def AddrBackUptoCardSaid : Prop := Claim7.holds Tryd.pinned (.plain (OpenSpec.upto addrBackSpec)) addrBackUptoCard

/-- THE SECOND FORM's CARD OF 'ferrymanlaw02.AddrSets'. -/
def addrSetsUptoCard : Claim7 := { stood := { row := addrSetsUptoRow, standIns := [], harness := (true, "2c2e10dfad521d8a68acca1e017bcd51af26f7f93c44638cb4d6de8cacc7ccee"), looks := true }, kinds := [], alts := [], laidByText := true, laidKinds := [.data, .data, .data], laidTests := true, laidLooks := .later }
def AddrSetsUptoCardSaid : Prop := Claim7.holds Tryd.pinned (.plain (OpenSpec.upto addrSetsSpec)) addrSetsUptoCard

/-- THE SECOND FORM's CARD OF 'ferrymanlaw02.AddrSetsSix'. -/
def addrSetsSixUptoCard : Claim7 := { stood := { row := addrSetsSixUptoRow, standIns := [], harness := (true, "2c2e10dfad521d8a68acca1e017bcd51af26f7f93c44638cb4d6de8cacc7ccee"), looks := true }, kinds := [], alts := [], laidByText := true, laidKinds := [.data, .data, .data], laidTests := true, laidLooks := .later }
def AddrSetsSixUptoCardSaid : Prop := Claim7.holds Tryd.pinned (.plain (OpenSpec.upto addrSetsSixSpec)) addrSetsSixUptoCard

/-- THE SECOND FORM's CARD OF 'ferrymanlaw02.AddrChecksSix'. -/
def addrChecksSixUptoCard : Claim7 := { stood := { row := addrChecksSixUptoRow, standIns := [], harness := (true, "2c2e10dfad521d8a68acca1e017bcd51af26f7f93c44638cb4d6de8cacc7ccee"), looks := true }, kinds := [], alts := [], laidByText := true, laidKinds := [.data, .data, .data], laidTests := true, laidLooks := .later }
def AddrChecksSixUptoCardSaid : Prop := Claim7.holds Tryd.pinned (.plain (OpenSpec.upto addrChecksSixSpec)) addrChecksSixUptoCard

/-- THE SECOND FORM's CARD OF 'ferrymanlaw02.AddrChecks'. -/
def addrChecksUptoCard : Claim7 := { stood := { row := addrChecksUptoRow, standIns := [], harness := (true, "2c2e10dfad521d8a68acca1e017bcd51af26f7f93c44638cb4d6de8cacc7ccee"), looks := true }, kinds := [], alts := [], laidByText := true, laidKinds := [.data, .data, .data], laidTests := true, laidLooks := .later }
def AddrChecksUptoCardSaid : Prop := Claim7.holds Tryd.pinned (.plain (OpenSpec.upto addrChecksSpec)) addrChecksUptoCard

/-- THE SECOND FORM's CARD OF 'ferrymanlaw02.AddrPrefixes'. -/
def addrPrefixesUptoCard : Claim7 := { stood := { row := addrPrefixesUptoRow, standIns := [], harness := (true, "2c2e10dfad521d8a68acca1e017bcd51af26f7f93c44638cb4d6de8cacc7ccee"), looks := true }, kinds := [], alts := [], laidByText := true, laidKinds := [.data, .data, .data], laidTests := true, laidLooks := .later }
def AddrPrefixesUptoCardSaid : Prop := Claim7.holds Tryd.pinned (.plain (OpenSpec.upto addrPrefixesSpec)) addrPrefixesUptoCard

/-- THE SECOND FORM's CARD OF 'ferrymanlaw02.AddrAgain'. -/
def addrAgainUptoCard : Claim7 := { stood := { row := addrAgainUptoRow, standIns := [], harness := (true, "2c2e10dfad521d8a68acca1e017bcd51af26f7f93c44638cb4d6de8cacc7ccee"), looks := true }, kinds := [], alts := [], laidByText := true, laidKinds := [.data, .data, .data], laidTests := true, laidLooks := .later }
def AddrAgainUptoCardSaid : Prop := Claim7.holds Tryd.pinned (.plain (OpenSpec.upto addrAgainSpec)) addrAgainUptoCard
end Rows
end Go.Proofs.YtopladipgobpjaaDoor
