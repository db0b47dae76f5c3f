/-
  DERIVED. GIVEN WITH THE SEED: THE CARDS: each row of YtdfppdkhiejbdaaGreatDoorRows.lean that lists a variable, with what it lists TIED to the program's text (the seventh form; the later family's looks); each row that meets fmt, with fmt's text TOLD by the authors' own Lean function (tested against real Go, not proved from fmt's source: count such statements apart). THE CARD IS WHAT COUNTS. Prove the row's statement (the work); the ties are given (YtdfppdkhiejbdaaGreatDoorTie.lean); close each card by the builder's one call (the guide's Derived/Test/ToyasCard.lean, 'card_holds'). Laid BY PROGRAM, IN A SANDBOX (cutbox-door.mjs). By AI agents, Wed Nov 11 2026. No macro, syntax, notation, axiom, sorry.
-/
import Derived.Test.YtdfppdkhiejbdaaGreatDoorRows
import GoSem.ClaimSeven
namespace Go.Proofs.YtdfppdkhiejbdaaGreatDoor
namespace Rows

/-- THE TIED CARD OF 'wharflaw17.ListStays'. -/
def listStaysCard : Claim7 := { stood := { row := listStaysRow, standIns := [], harness := (true, "656382f0073df4349784e32a21b701a22481a26094f9402bd941180ce918684b"), looks := false }, kinds := [], alts := [], laidByText := true, laidKinds := [.data, .pinned], laidTests := true, laidLooks := .later }
def ListStaysCardSaid : Prop := Claim7.holds Tryz.pinned (.plain (OpenSpec.ofChange listStaysSpec)) listStaysCard

/-- THE TIED CARD OF 'wharflaw17.ListBack'. -/
def listBackCard : Claim7 := { stood := { row := listBackRow, standIns := [], harness := (true, "656382f0073df4349784e32a21b701a22481a26094f9402bd941180ce918684b"), looks := false }, kinds := [], alts := [], laidByText := true, laidKinds := [.data, .pinned], laidTests := true, laidLooks := .later }
def ListBackCardSaid : Prop := Claim7.holds Tryz.pinned (.plain (OpenSpec.ofChange listBackSpec)) listBackCard

/-- THE TIED CARD OF 'wharflaw17.ListRooms'. -/
def listRoomsCard : Claim7 := { stood := { row := listRoomsRow, standIns := [], harness := (true, "656382f0073df4349784e32a21b701a22481a26094f9402bd941180ce918684b"), looks := false }, kinds := [], alts := [], laidByText := true, laidKinds := [.data, .pinned], laidTests := true, laidLooks := .later }
def ListRoomsCardSaid : Prop := Claim7.holds Tryz.pinned (.plain (OpenSpec.ofChange listRoomsSpec)) listRoomsCard

/-- THE SECOND FORM's CARD OF 'wharflaw17.ListStays'. -/
def listStaysUptoCard : Claim7 := { stood := { row := listStaysUptoRow, standIns := [], harness := (true, "656382f0073df4349784e32a21b701a22481a26094f9402bd941180ce918684b"), looks := false }, kinds := [], alts := [], laidByText := true, laidKinds := [.data, .pinned], laidTests := true, laidLooks := .later }
def ListStaysUptoCardSaid : Prop := Claim7.holds Tryz.pinned (.plain (OpenSpec.upto listStaysSpec)) listStaysUptoCard

/-- THE SECOND FORM's CARD OF 'wharflaw17.ListBack'. -/
def listBackUptoCard : Claim7 := { stood := { row := listBackUptoRow, standIns := [], harness := (true, "656382f0073df4349784e32a21b701a22481a26094f9402bd941180ce918684b"), looks := false }, kinds := [], alts := [], laidByText := true, laidKinds := [.data, .pinned], laidTests := true, laidLooks := .later }
def ListBackUptoCardSaid : Prop := Claim7.holds Tryz.pinned (.plain (OpenSpec.upto listBackSpec)) listBackUptoCard

/-- THE SECOND FORM's CARD OF 'wharflaw17.ListRooms'. -/
def listRoomsUptoCard : Claim7 := { stood := { row := listRoomsUptoRow, standIns := [], harness := (true, "656382f0073df4349784e32a21b701a22481a26094f9402bd941180ce918684b"), looks := false }, kinds := [], alts := [], laidByText := true, laidKinds := [.data, .pinned], laidTests := true, laidLooks := .later }
def ListRoomsUptoCardSaid : Prop := Claim7.holds Tryz.pinned (.plain (OpenSpec.upto listRoomsSpec)) listRoomsUptoCard
end Rows
end Go.Proofs.YtdfppdkhiejbdaaGreatDoor
