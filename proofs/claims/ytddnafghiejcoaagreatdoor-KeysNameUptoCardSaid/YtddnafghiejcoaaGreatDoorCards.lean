/-
  DERIVED. GIVEN WITH THE SEED: THE CARDS: each row of YtddnafghiejcoaaGreatDoorRows.lean that lists a variable, with what it lists TIED to the program's text (the seventh form; the later family's looks); each row that meets fmt, with fmt's text TOLD by the authors' own Lean function (tested against real Go, not proved from fmt's source: count such statements apart). THE CARD IS WHAT COUNTS. Prove the row's statement (the work); the ties are given (YtddnafghiejcoaaGreatDoorTie.lean); close each card by the builder's one call (the guide's Derived/Test/ToyasCard.lean, 'card_holds'). Laid BY PROGRAM, IN A SANDBOX (cutbox-door.mjs). By AI agents, Wed Nov 11 2026. No macro, syntax, notation, axiom, sorry.
-/
import Derived.Test.YtddnafghiejcoaaGreatDoorRows
import GoSem.ClaimSeven
namespace Go.Proofs.YtddnafghiejcoaaGreatDoor
namespace Rows

/-- THE TIED CARD OF 'frescolaw22.KeysScripts'. -/
def keysScriptsCard : Claim7 := { stood := { row := keysScriptsRow, standIns := [], harness := (true, "af5b7843da8851511e258d9d87384e6f107d192973a104fd83ee9fd02ae169f2"), looks := true }, kinds := [], alts := [], laidByText := true, laidKinds := [.data, .data, .data, .data, .sentinel, .sentinel, .listed, .data, .pinned], laidTests := true, laidLooks := .later }
def KeysScriptsCardSaid : Prop := Claim7.holds Tryz.pinned (.plain (OpenSpec.ofChange keysScriptsSpec)) keysScriptsCard

/-- THE TIED CARD OF 'frescolaw22.KeysEncode'. -/
def keysEncodeCard : Claim7 := { stood := { row := keysEncodeRow, standIns := [], harness := (true, "af5b7843da8851511e258d9d87384e6f107d192973a104fd83ee9fd02ae169f2"), looks := true }, kinds := [], alts := [], laidByText := true, laidKinds := [.data, .data, .data, .data, .sentinel, .sentinel, .listed, .data, .pinned], laidTests := true, laidLooks := .later }
def KeysEncodeCardSaid : Prop := Claim7.holds Tryz.pinned (.plain (OpenSpec.ofChange keysEncodeSpec)) keysEncodeCard

/-- THE TIED CARD OF 'frescolaw22.KeysName'. -/
def keysNameCard : Claim7 := { stood := { row := keysNameRow, standIns := [], harness := (true, "af5b7843da8851511e258d9d87384e6f107d192973a104fd83ee9fd02ae169f2"), looks := true }, kinds := [], alts := [], laidByText := true, laidKinds := [.data, .data, .data, .data, .sentinel, .sentinel, .listed, .data, .pinned], laidTests := true, laidLooks := .later }
def KeysNameCardSaid : Prop := Claim7.holds Tryz.pinned (.plain (OpenSpec.ofChange keysNameSpec)) keysNameCard

/-- THE TIED CARD OF 'frescolaw22.KeysNamed'. -/
def keysNamedCard : Claim7 := { stood := { row := keysNamedRow, standIns := [], harness := (true, "af5b7843da8851511e258d9d87384e6f107d192973a104fd83ee9fd02ae169f2"), looks := true }, kinds := [], alts := [], laidByText := true, laidKinds := [.data, .data, .data, .data, .sentinel, .sentinel, .listed, .data, .pinned], laidTests := true, laidLooks := .later }
def KeysNamedCardSaid : Prop := Claim7.holds Tryz.pinned (.plain (OpenSpec.ofChange keysNamedSpec)) keysNamedCard

/-- THE TIED CARD OF 'frescolaw22.KeysNil'. -/
def keysNilCard : Claim7 := { stood := { row := keysNilRow, standIns := [], harness := (true, "af5b7843da8851511e258d9d87384e6f107d192973a104fd83ee9fd02ae169f2"), looks := true }, kinds := [], alts := [], laidByText := true, laidKinds := [.data, .data, .data, .data, .sentinel, .sentinel, .listed, .data, .pinned], laidTests := true, laidLooks := .later }
def KeysNilCardSaid : Prop := Claim7.holds Tryz.pinned (.plain (OpenSpec.ofChange keysNilSpec)) keysNilCard

/-- THE TIED CARD OF 'frescolaw22.KeysNames'. -/
def keysNamesCard : Claim7 := { stood := { row := keysNamesRow, standIns := [], harness := (true, "af5b7843da8851511e258d9d87384e6f107d192973a104fd83ee9fd02ae169f2"), looks := true }, kinds := [], alts := [], laidByText := true, laidKinds := [.data, .data, .data, .data, .sentinel, .sentinel, .listed, .data, .pinned], laidTests := true, laidLooks := .later }
def KeysNamesCardSaid : Prop := Claim7.holds Tryz.pinned (.plain (OpenSpec.ofChange keysNamesSpec)) keysNamesCard

/-- THE TIED CARD OF 'frescolaw22.KeysPieces'. -/
def keysPiecesCard : Claim7 := { stood := { row := keysPiecesRow, standIns := [], harness := (true, "af5b7843da8851511e258d9d87384e6f107d192973a104fd83ee9fd02ae169f2"), looks := true }, kinds := [], alts := [], laidByText := true, laidKinds := [.data, .data, .data, .data, .sentinel, .sentinel, .listed, .data, .pinned], laidTests := true, laidLooks := .later }
def KeysPiecesCardSaid : Prop := Claim7.holds Tryz.pinned (.plain (OpenSpec.ofChange keysPiecesSpec)) keysPiecesCard

/-- THE TIED CARD OF 'frescolaw22.KeysBack'. -/
def keysBackCard : Claim7 := { stood := { row := keysBackRow, standIns := [], harness := (true, "af5b7843da8851511e258d9d87384e6f107d192973a104fd83ee9fd02ae169f2"), looks := true }, kinds := [], alts := [], laidByText := true, laidKinds := [.data, .data, .data, .data, .sentinel, .sentinel, .listed, .data, .pinned], laidTests := true, laidLooks := .later }
def KeysBackCardSaid : Prop := Claim7.holds Tryz.pinned (.plain (OpenSpec.ofChange keysBackSpec)) keysBackCard

/-- THE TIED CARD OF 'frescolaw22.KeysTold'. -/
def keysToldCard : Claim7 := { stood := { row := keysToldRow, standIns := [], harness := (true, "af5b7843da8851511e258d9d87384e6f107d192973a104fd83ee9fd02ae169f2"), looks := true }, kinds := [], alts := [], laidByText := true, laidKinds := [.data, .data, .data, .data, .sentinel, .sentinel, .listed, .data, .pinned], laidTests := true, laidLooks := .later }
def KeysToldCardSaid : Prop := Claim7.holds Tryz.pinned (.plain (OpenSpec.ofChange keysToldSpec)) keysToldCard

/-- THE TIED CARD OF 'frescolaw22.KeysEach'. -/
def keysEachCard : Claim7 := { stood := { row := keysEachRow, standIns := [], harness := (true, "af5b7843da8851511e258d9d87384e6f107d192973a104fd83ee9fd02ae169f2"), looks := true }, kinds := [], alts := [], laidByText := true, laidKinds := [.data, .data, .data, .data, .sentinel, .sentinel, .listed, .data, .pinned], laidTests := true, laidLooks := .later }
def KeysEachCardSaid : Prop := Claim7.holds Tryz.pinned (.plain (OpenSpec.ofChange keysEachSpec)) keysEachCard

/-- THE SECOND FORM's CARD OF 'frescolaw22.KeysScripts'. -/
def keysScriptsUptoCard : Claim7 := { stood := { row := keysScriptsUptoRow, standIns := [], harness := (true, "af5b7843da8851511e258d9d87384e6f107d192973a104fd83ee9fd02ae169f2"), looks := true }, kinds := [], alts := [], laidByText := true, laidKinds := [.data, .data, .data, .data, .sentinel, .sentinel, .listed, .data, .pinned], laidTests := true, laidLooks := .later }
def KeysScriptsUptoCardSaid : Prop := Claim7.holds Tryz.pinned (.plain (OpenSpec.upto keysScriptsSpec)) keysScriptsUptoCard

/-- THE SECOND FORM's CARD OF 'frescolaw22.KeysEncode'. -/
def keysEncodeUptoCard : Claim7 := { stood := { row := keysEncodeUptoRow, standIns := [], harness := (true, "af5b7843da8851511e258d9d87384e6f107d192973a104fd83ee9fd02ae169f2"), looks := true }, kinds := [], alts := [], laidByText := true, laidKinds := [.data, .data, .data, .data, .sentinel, .sentinel, .listed, .data, .pinned], laidTests := true, laidLooks := .later }
def KeysEncodeUptoCardSaid : Prop := Claim7.holds Tryz.pinned (.plain (OpenSpec.upto keysEncodeSpec)) keysEncodeUptoCard

/-- THE SECOND FORM's CARD OF 'frescolaw22.KeysName'. -/
def keysNameUptoCard : Claim7 := { stood := { row := keysNameUptoRow, standIns := [], harness := (true, "af5b7843da8851511e258d9d87384e6f107d192973a104fd83ee9fd02ae169f2"), looks := true }, kinds := [], alts := [], laidByText := true, laidKinds := [.data, .data, .data, .data, .sentinel, .sentinel, .listed, .data, .pinned], laidTests := true, laidLooks := .later }
def KeysNameUptoCardSaid : Prop := Claim7.holds Tryz.pinned (.plain (OpenSpec.upto keysNameSpec)) keysNameUptoCard

/-- THE SECOND FORM's CARD OF 'frescolaw22.KeysNamed'. -/
def keysNamedUptoCard : Claim7 := { stood := { row := keysNamedUptoRow, standIns := [], harness := (true, "af5b7843da8851511e258d9d87384e6f107d192973a104fd83ee9fd02ae169f2"), looks := true }, kinds := [], alts := [], laidByText := true, laidKinds := [.data, .data, .data, .data, .sentinel, .sentinel, .listed, .data, .pinned], laidTests := true, laidLooks := .later }
def KeysNamedUptoCardSaid : Prop := Claim7.holds Tryz.pinned (.plain (OpenSpec.upto keysNamedSpec)) keysNamedUptoCard

/-- THE SECOND FORM's CARD OF 'frescolaw22.KeysNil'. -/
def keysNilUptoCard : Claim7 := { stood := { row := keysNilUptoRow, standIns := [], harness := (true, "af5b7843da8851511e258d9d87384e6f107d192973a104fd83ee9fd02ae169f2"), looks := true }, kinds := [], alts := [], laidByText := true, laidKinds := [.data, .data, .data, .data, .sentinel, .sentinel, .listed, .data, .pinned], laidTests := true, laidLooks := .later }
def KeysNilUptoCardSaid : Prop := Claim7.holds Tryz.pinned (.plain (OpenSpec.upto keysNilSpec)) keysNilUptoCard

/-- THE SECOND FORM's CARD OF 'frescolaw22.KeysNames'. -/
def keysNamesUptoCard : Claim7 := { stood := { row := keysNamesUptoRow, standIns := [], harness := (true, "af5b7843da8851511e258d9d87384e6f107d192973a104fd83ee9fd02ae169f2"), looks := true }, kinds := [], alts := [], laidByText := true, laidKinds := [.data, .data, .data, .data, .sentinel, .sentinel, .listed, .data, .pinned], laidTests := true, laidLooks := .later }
def KeysNamesUptoCardSaid : Prop := Claim7.holds Tryz.pinned (.plain (OpenSpec.upto keysNamesSpec)) keysNamesUptoCard

/-- THE SECOND FORM's CARD OF 'frescolaw22.KeysPieces'. -/
def keysPiecesUptoCard : Claim7 := { stood := { row := keysPiecesUptoRow, standIns := [], harness := (true, "af5b7843da8851511e258d9d87384e6f107d192973a104fd83ee9fd02ae169f2"), looks := true }, kinds := [], alts := [], laidByText := true, laidKinds := [.data, .data, .data, .data, .sentinel, .sentinel, .listed, .data, .pinned], laidTests := true, laidLooks := .later }
def KeysPiecesUptoCardSaid : Prop := Claim7.holds Tryz.pinned (.plain (OpenSpec.upto keysPiecesSpec)) keysPiecesUptoCard

/-- THE SECOND FORM's CARD OF 'frescolaw22.KeysBack'. -/
def keysBackUptoCard : Claim7 := { stood := { row := keysBackUptoRow, standIns := [], harness := (true, "af5b7843da8851511e258d9d87384e6f107d192973a104fd83ee9fd02ae169f2"), looks := true }, kinds := [], alts := [], laidByText := true, laidKinds := [.data, .data, .data, .data, .sentinel, .sentinel, .listed, .data, .pinned], laidTests := true, laidLooks := .later }
def KeysBackUptoCardSaid : Prop := Claim7.holds Tryz.pinned (.plain (OpenSpec.upto keysBackSpec)) keysBackUptoCard

/-- THE SECOND FORM's CARD OF 'frescolaw22.KeysTold'. -/
def keysToldUptoCard : Claim7 := { stood := { row := keysToldUptoRow, standIns := [], harness := (true, "af5b7843da8851511e258d9d87384e6f107d192973a104fd83ee9fd02ae169f2"), looks := true }, kinds := [], alts := [], laidByText := true, laidKinds := [.data, .data, .data, .data, .sentinel, .sentinel, .listed, .data, .pinned], laidTests := true, laidLooks := .later }
def KeysToldUptoCardSaid : Prop := Claim7.holds Tryz.pinned (.plain (OpenSpec.upto keysToldSpec)) keysToldUptoCard

/-- THE SECOND FORM's CARD OF 'frescolaw22.KeysEach'. -/
def keysEachUptoCard : Claim7 := { stood := { row := keysEachUptoRow, standIns := [], harness := (true, "af5b7843da8851511e258d9d87384e6f107d192973a104fd83ee9fd02ae169f2"), looks := true }, kinds := [], alts := [], laidByText := true, laidKinds := [.data, .data, .data, .data, .sentinel, .sentinel, .listed, .data, .pinned], laidTests := true, laidLooks := .later }
def KeysEachUptoCardSaid : Prop := Claim7.holds Tryz.pinned (.plain (OpenSpec.upto keysEachSpec)) keysEachUptoCard
end Rows
end Go.Proofs.YtddnafghiejcoaaGreatDoor
