/-
  No cell of these rows narrows 'for every input' (looked for: loops, veiled, ifaces, maps, wideKeys, modest, calm, conditions, laid).
  DERIVED. THE GIVEN ROWS OF THIS SEAT. 17 by the template 'for every input the law returns true; each argument reads behind the call as it read before'; 0 by the template 'total and deterministic' (their statements: YtlcakmbejjlmeaaGreatTotals.lean).
  GIVEN WITH THE SEED: the statements are not yours to turn. If you find one false, say at which input.
  Laid BY PROGRAM, IN A SANDBOX (cutbox-rows.mjs): the forced cells as the released guide's own fill.sh prints them over the translation d521e22d161dc390… (all of the seat's roots in one cut). By AI agents, Wed Nov 11 2026. No macro, syntax, notation, axiom, sorry.
-/
import Derived.Test.YtlcakmbejjlmeaaGreatChecked
import GoSem.Claim
import GoSem.ClaimJoined
import GoSem.ClaimMapViews
import Derived.JoinedTies
import Derived.KernelRfl
namespace Go.Proofs.YtlcakmbejjlmeaaGreat
/- THE CELL 'sum', in the pinned program and in every row, IS THE sha256 OF THE DUMP (.gsa) THAT YtlcakmbejjlmeaaGreatProg.lean LOADS. Nothing in Lean hashes anything: it is a label: what it is worth is what the hold of that sum in a sandbox is worth. -/
noncomputable def Tryz.pinned : Pinned := { name := "ytlcakmbejjlmeaagreat", sum := "d521e22d161dc390f92397b74bcf535a17c4ba201f8d335cd9fec4e94da166e8", checked := Tryz.checked }
namespace Rows
def none {H : Type} : Left H := { results := [], args := [] }

/-- 'posserlaw11.ErrandPlays': WHATEVER THE INPUT: true; the input reads as it did. -/
def errandPlaysSpec : ChangeSpec := { name := "errandPlays", fn := fun _ => fun
  | [d1, d2, d3] => { results := [.lit (.bool true)], args := [d1, d2, d3] }
  | _ => none }
def errandPlaysRow : OpenClaim := { program := "ytlcakmbejjlmeaagreat", sum := "d521e22d161dc390f92397b74bcf535a17c4ba201f8d335cd9fec4e94da166e8", func := "posser/posserlaw11.ErrandPlays", spec := "errandPlays", unfollowed := true, recurses := true, plainKeys := false, apart := false }
def ErrandPlaysSaid : Prop := errandPlaysRow.holds Tryz.pinned (OpenSpec.ofChange errandPlaysSpec)

/-- ITS FALSE NEIGHBOUR: 'it returns false'. Refute it at one input. -/
def errandPlaysWrong : ChangeSpec := { name := "errandPlays", fn := fun _ => fun
  | [d1, d2, d3] => { results := [.lit (.bool false)], args := [d1, d2, d3] }
  | _ => none }
def ErrandPlaysWrongFalsely : Prop := errandPlaysRow.holds Tryz.pinned (OpenSpec.ofChange errandPlaysWrong)

/-- 'posserlaw11.ErrandComes': WHATEVER THE INPUT: true; the input reads as it did. -/
def errandComesSpec : ChangeSpec := { name := "errandComes", fn := fun _ => fun
  | [d1, d2] => { results := [.lit (.bool true)], args := [d1, d2] }
  | _ => none }
def errandComesRow : OpenClaim := { program := "ytlcakmbejjlmeaagreat", sum := "d521e22d161dc390f92397b74bcf535a17c4ba201f8d335cd9fec4e94da166e8", func := "posser/posserlaw11.ErrandComes", spec := "errandComes", unfollowed := true, recurses := true, plainKeys := false, apart := false }
def ErrandComesSaid : Prop := errandComesRow.holds Tryz.pinned (OpenSpec.ofChange errandComesSpec)

/-- ITS FALSE NEIGHBOUR: 'it returns false'. Refute it at one input. -/
def errandComesWrong : ChangeSpec := { name := "errandComes", fn := fun _ => fun
  | [d1, d2] => { results := [.lit (.bool false)], args := [d1, d2] }
  | _ => none }
def ErrandComesWrongFalsely : Prop := errandComesRow.holds Tryz.pinned (OpenSpec.ofChange errandComesWrong)

/-- 'posserlaw11.ErrandBrings': WHATEVER THE INPUT: true; the input reads as it did. -/
def errandBringsSpec : ChangeSpec := { name := "errandBrings", fn := fun _ => fun
  | [d1, d2] => { results := [.lit (.bool true)], args := [d1, d2] }
  | _ => none }
def errandBringsRow : OpenClaim := { program := "ytlcakmbejjlmeaagreat", sum := "d521e22d161dc390f92397b74bcf535a17c4ba201f8d335cd9fec4e94da166e8", func := "posser/posserlaw11.ErrandBrings", spec := "errandBrings", unfollowed := true, recurses := true, plainKeys := false, apart := false }
def ErrandBringsSaid : Prop := errandBringsRow.holds Tryz.pinned (OpenSpec.ofChange errandBringsSpec)

/-- ITS FALSE NEIGHBOUR: 'it returns false'. Refute it at one input. -/
def errandBringsWrong : ChangeSpec := { name := "errandBrings", fn := fun _ => fun
  | [d1, d2] => { results := [.lit (.bool false)], args := [d1, d2] }
  | _ => none }
def ErrandBringsWrongFalsely : Prop := errandBringsRow.holds Tryz.pinned (OpenSpec.ofChange errandBringsWrong)

/-- 'posserlaw11.ErrandFewest': WHATEVER THE INPUT: true; the input reads as it did. -/
def errandFewestSpec : ChangeSpec := { name := "errandFewest", fn := fun _ => fun
  | [d] => { results := [.lit (.bool true)], args := [d] }
  | _ => none }
def errandFewestRow : OpenClaim := { program := "ytlcakmbejjlmeaagreat", sum := "d521e22d161dc390f92397b74bcf535a17c4ba201f8d335cd9fec4e94da166e8", func := "posser/posserlaw11.ErrandFewest", spec := "errandFewest", unfollowed := true, recurses := true, plainKeys := false, apart := false }
def ErrandFewestSaid : Prop := errandFewestRow.holds Tryz.pinned (OpenSpec.ofChange errandFewestSpec)

/-- ITS FALSE NEIGHBOUR: 'it returns false'. Refute it at one input. -/
def errandFewestWrong : ChangeSpec := { name := "errandFewest", fn := fun _ => fun
  | [d] => { results := [.lit (.bool false)], args := [d] }
  | _ => none }
def ErrandFewestWrongFalsely : Prop := errandFewestRow.holds Tryz.pinned (OpenSpec.ofChange errandFewestWrong)

/-- 'posserlaw11.ErrandWaits': WHATEVER THE INPUT: true; the input reads as it did. -/
def errandWaitsSpec : ChangeSpec := { name := "errandWaits", fn := fun _ => fun
  | [d] => { results := [.lit (.bool true)], args := [d] }
  | _ => none }
def errandWaitsRow : OpenClaim := { program := "ytlcakmbejjlmeaagreat", sum := "d521e22d161dc390f92397b74bcf535a17c4ba201f8d335cd9fec4e94da166e8", func := "posser/posserlaw11.ErrandWaits", spec := "errandWaits", unfollowed := true, recurses := true, plainKeys := false, apart := false }
def ErrandWaitsSaid : Prop := errandWaitsRow.holds Tryz.pinned (OpenSpec.ofChange errandWaitsSpec)

/-- ITS FALSE NEIGHBOUR: 'it returns false'. Refute it at one input. -/
def errandWaitsWrong : ChangeSpec := { name := "errandWaits", fn := fun _ => fun
  | [d] => { results := [.lit (.bool false)], args := [d] }
  | _ => none }
def ErrandWaitsWrongFalsely : Prop := errandWaitsRow.holds Tryz.pinned (OpenSpec.ofChange errandWaitsWrong)

/-- 'posserlaw11.ErrandTruth': WHATEVER THE INPUT: true; the input reads as it did. -/
def errandTruthSpec : ChangeSpec := { name := "errandTruth", fn := fun _ => fun
  | [d1, d2, d3] => { results := [.lit (.bool true)], args := [d1, d2, d3] }
  | _ => none }
def errandTruthRow : OpenClaim := { program := "ytlcakmbejjlmeaagreat", sum := "d521e22d161dc390f92397b74bcf535a17c4ba201f8d335cd9fec4e94da166e8", func := "posser/posserlaw11.ErrandTruth", spec := "errandTruth", unfollowed := true, recurses := true, plainKeys := false, apart := false }
def ErrandTruthSaid : Prop := errandTruthRow.holds Tryz.pinned (OpenSpec.ofChange errandTruthSpec)

/-- ITS FALSE NEIGHBOUR: 'it returns false'. Refute it at one input. -/
def errandTruthWrong : ChangeSpec := { name := "errandTruth", fn := fun _ => fun
  | [d1, d2, d3] => { results := [.lit (.bool false)], args := [d1, d2, d3] }
  | _ => none }
def ErrandTruthWrongFalsely : Prop := errandTruthRow.holds Tryz.pinned (OpenSpec.ofChange errandTruthWrong)

/-- 'posserlaw11.ErrandEnds': WHATEVER THE INPUT: true; the input reads as it did. -/
def errandEndsSpec : ChangeSpec := { name := "errandEnds", fn := fun _ => fun
  | [d1, d2] => { results := [.lit (.bool true)], args := [d1, d2] }
  | _ => none }
def errandEndsRow : OpenClaim := { program := "ytlcakmbejjlmeaagreat", sum := "d521e22d161dc390f92397b74bcf535a17c4ba201f8d335cd9fec4e94da166e8", func := "posser/posserlaw11.ErrandEnds", spec := "errandEnds", unfollowed := true, recurses := true, plainKeys := false, apart := false }
def ErrandEndsSaid : Prop := errandEndsRow.holds Tryz.pinned (OpenSpec.ofChange errandEndsSpec)

/-- ITS FALSE NEIGHBOUR: 'it returns false'. Refute it at one input. -/
def errandEndsWrong : ChangeSpec := { name := "errandEnds", fn := fun _ => fun
  | [d1, d2] => { results := [.lit (.bool false)], args := [d1, d2] }
  | _ => none }
def ErrandEndsWrongFalsely : Prop := errandEndsRow.holds Tryz.pinned (OpenSpec.ofChange errandEndsWrong)

/-- 'posserlaw11.ErrandQuicker': WHATEVER THE INPUT: true; the input reads as it did. -/
def errandQuickerSpec : ChangeSpec := { name := "errandQuicker", fn := fun _ => fun
  | [d1, d2, d3, d4, d5] => { results := [.lit (.bool true)], args := [d1, d2, d3, d4, d5] }
  | _ => none }
def errandQuickerRow : OpenClaim := { program := "ytlcakmbejjlmeaagreat", sum := "d521e22d161dc390f92397b74bcf535a17c4ba201f8d335cd9fec4e94da166e8", func := "posser/posserlaw11.ErrandQuicker", spec := "errandQuicker", unfollowed := true, recurses := true, plainKeys := false, apart := false }
def ErrandQuickerSaid : Prop := errandQuickerRow.holds Tryz.pinned (OpenSpec.ofChange errandQuickerSpec)

/-- ITS FALSE NEIGHBOUR: 'it returns false'. Refute it at one input. -/
def errandQuickerWrong : ChangeSpec := { name := "errandQuicker", fn := fun _ => fun
  | [d1, d2, d3, d4, d5] => { results := [.lit (.bool false)], args := [d1, d2, d3, d4, d5] }
  | _ => none }
def ErrandQuickerWrongFalsely : Prop := errandQuickerRow.holds Tryz.pinned (OpenSpec.ofChange errandQuickerWrong)

/-- 'posserlaw11.ErrandOnward': WHATEVER THE INPUT: true; the input reads as it did. -/
def errandOnwardSpec : ChangeSpec := { name := "errandOnward", fn := fun _ => fun
  | [d1, d2] => { results := [.lit (.bool true)], args := [d1, d2] }
  | _ => none }
def errandOnwardRow : OpenClaim := { program := "ytlcakmbejjlmeaagreat", sum := "d521e22d161dc390f92397b74bcf535a17c4ba201f8d335cd9fec4e94da166e8", func := "posser/posserlaw11.ErrandOnward", spec := "errandOnward", unfollowed := true, recurses := true, plainKeys := false, apart := false }
def ErrandOnwardSaid : Prop := errandOnwardRow.holds Tryz.pinned (OpenSpec.ofChange errandOnwardSpec)

/-- ITS FALSE NEIGHBOUR: 'it returns false'. Refute it at one input. -/
def errandOnwardWrong : ChangeSpec := { name := "errandOnward", fn := fun _ => fun
  | [d1, d2] => { results := [.lit (.bool false)], args := [d1, d2] }
  | _ => none }
def ErrandOnwardWrongFalsely : Prop := errandOnwardRow.holds Tryz.pinned (OpenSpec.ofChange errandOnwardWrong)

/-- 'posserlaw11.ErrandCalls': WHATEVER THE INPUT: true; the input reads as it did. -/
def errandCallsSpec : ChangeSpec := { name := "errandCalls", fn := fun _ => fun
  | [d] => { results := [.lit (.bool true)], args := [d] }
  | _ => none }
def errandCallsRow : OpenClaim := { program := "ytlcakmbejjlmeaagreat", sum := "d521e22d161dc390f92397b74bcf535a17c4ba201f8d335cd9fec4e94da166e8", func := "posser/posserlaw11.ErrandCalls", spec := "errandCalls", unfollowed := true, recurses := true, plainKeys := false, apart := false }
def ErrandCallsSaid : Prop := errandCallsRow.holds Tryz.pinned (OpenSpec.ofChange errandCallsSpec)

/-- ITS FALSE NEIGHBOUR: 'it returns false'. Refute it at one input. -/
def errandCallsWrong : ChangeSpec := { name := "errandCalls", fn := fun _ => fun
  | [d] => { results := [.lit (.bool false)], args := [d] }
  | _ => none }
def ErrandCallsWrongFalsely : Prop := errandCallsRow.holds Tryz.pinned (OpenSpec.ofChange errandCallsWrong)

/-- 'posserlaw11.ErrandWaited': WHATEVER THE INPUT: true; the input reads as it did. -/
def errandWaitedSpec : ChangeSpec := { name := "errandWaited", fn := fun _ => fun
  | [d1, d2] => { results := [.lit (.bool true)], args := [d1, d2] }
  | _ => none }
def errandWaitedRow : OpenClaim := { program := "ytlcakmbejjlmeaagreat", sum := "d521e22d161dc390f92397b74bcf535a17c4ba201f8d335cd9fec4e94da166e8", func := "posser/posserlaw11.ErrandWaited", spec := "errandWaited", unfollowed := true, recurses := true, plainKeys := false, apart := false }
def ErrandWaitedSaid : Prop := errandWaitedRow.holds Tryz.pinned (OpenSpec.ofChange errandWaitedSpec)

/-- ITS FALSE NEIGHBOUR: 'it returns false'. Refute it at one input. -/
def errandWaitedWrong : ChangeSpec := { name := "errandWaited", fn := fun _ => fun
  | [d1, d2] => { results := [.lit (.bool false)], args := [d1, d2] }
  | _ => none }
def ErrandWaitedWrongFalsely : Prop := errandWaitedRow.holds Tryz.pinned (OpenSpec.ofChange errandWaitedWrong)

/-- 'posserlaw11.ErrandBack': WHATEVER THE INPUT: true; the input reads as it did. -/
def errandBackSpec : ChangeSpec := { name := "errandBack", fn := fun _ => fun
  | [d1, d2] => { results := [.lit (.bool true)], args := [d1, d2] }
  | _ => none }
def errandBackRow : OpenClaim := { program := "ytlcakmbejjlmeaagreat", sum := "d521e22d161dc390f92397b74bcf535a17c4ba201f8d335cd9fec4e94da166e8", func := "posser/posserlaw11.ErrandBack", spec := "errandBack", unfollowed := true, recurses := true, plainKeys := false, apart := false }
def ErrandBackSaid : Prop := errandBackRow.holds Tryz.pinned (OpenSpec.ofChange errandBackSpec)

/-- ITS FALSE NEIGHBOUR: 'it returns false'. Refute it at one input. -/
def errandBackWrong : ChangeSpec := { name := "errandBack", fn := fun _ => fun
  | [d1, d2] => { results := [.lit (.bool false)], args := [d1, d2] }
  | _ => none }
def ErrandBackWrongFalsely : Prop := errandBackRow.holds Tryz.pinned (OpenSpec.ofChange errandBackWrong)

/-- 'posserlaw11.ErrandWay': WHATEVER THE INPUT: true; the input reads as it did. -/
def errandWaySpec : ChangeSpec := { name := "errandWay", fn := fun _ => fun
  | [d] => { results := [.lit (.bool true)], args := [d] }
  | _ => none }
def errandWayRow : OpenClaim := { program := "ytlcakmbejjlmeaagreat", sum := "d521e22d161dc390f92397b74bcf535a17c4ba201f8d335cd9fec4e94da166e8", func := "posser/posserlaw11.ErrandWay", spec := "errandWay", unfollowed := true, recurses := true, plainKeys := false, apart := false }
def ErrandWaySaid : Prop := errandWayRow.holds Tryz.pinned (OpenSpec.ofChange errandWaySpec)

/-- ITS FALSE NEIGHBOUR: 'it returns false'. Refute it at one input. -/
def errandWayWrong : ChangeSpec := { name := "errandWay", fn := fun _ => fun
  | [d] => { results := [.lit (.bool false)], args := [d] }
  | _ => none }
def ErrandWayWrongFalsely : Prop := errandWayRow.holds Tryz.pinned (OpenSpec.ofChange errandWayWrong)

/-- 'posserlaw11.ErrandBest': WHATEVER THE INPUT: true; the input reads as it did. -/
def errandBestSpec : ChangeSpec := { name := "errandBest", fn := fun _ => fun
  | [d1, d2, d3] => { results := [.lit (.bool true)], args := [d1, d2, d3] }
  | _ => none }
def errandBestRow : OpenClaim := { program := "ytlcakmbejjlmeaagreat", sum := "d521e22d161dc390f92397b74bcf535a17c4ba201f8d335cd9fec4e94da166e8", func := "posser/posserlaw11.ErrandBest", spec := "errandBest", unfollowed := true, recurses := true, plainKeys := false, apart := false }
def ErrandBestSaid : Prop := errandBestRow.holds Tryz.pinned (OpenSpec.ofChange errandBestSpec)

/-- ITS FALSE NEIGHBOUR: 'it returns false'. Refute it at one input. -/
def errandBestWrong : ChangeSpec := { name := "errandBest", fn := fun _ => fun
  | [d1, d2, d3] => { results := [.lit (.bool false)], args := [d1, d2, d3] }
  | _ => none }
def ErrandBestWrongFalsely : Prop := errandBestRow.holds Tryz.pinned (OpenSpec.ofChange errandBestWrong)

/-- 'posserlaw11.ErrandNoBetter': WHATEVER THE INPUT: true; the input reads as it did. -/
def errandNoBetterSpec : ChangeSpec := { name := "errandNoBetter", fn := fun _ => fun
  | [d1, d2] => { results := [.lit (.bool true)], args := [d1, d2] }
  | _ => none }
def errandNoBetterRow : OpenClaim := { program := "ytlcakmbejjlmeaagreat", sum := "d521e22d161dc390f92397b74bcf535a17c4ba201f8d335cd9fec4e94da166e8", func := "posser/posserlaw11.ErrandNoBetter", spec := "errandNoBetter", unfollowed := true, recurses := true, plainKeys := false, apart := false }
def ErrandNoBetterSaid : Prop := errandNoBetterRow.holds Tryz.pinned (OpenSpec.ofChange errandNoBetterSpec)

/-- ITS FALSE NEIGHBOUR: 'it returns false'. Refute it at one input. -/
def errandNoBetterWrong : ChangeSpec := { name := "errandNoBetter", fn := fun _ => fun
  | [d1, d2] => { results := [.lit (.bool false)], args := [d1, d2] }
  | _ => none }
def ErrandNoBetterWrongFalsely : Prop := errandNoBetterRow.holds Tryz.pinned (OpenSpec.ofChange errandNoBetterWrong)

/-- 'posserlaw11.ErrandLonger': WHATEVER THE INPUT: true; the input reads as it did. -/
def errandLongerSpec : ChangeSpec := { name := "errandLonger", fn := fun _ => fun
  | [d1, d2, d3, d4] => { results := [.lit (.bool true)], args := [d1, d2, d3, d4] }
  | _ => none }
def errandLongerRow : OpenClaim := { program := "ytlcakmbejjlmeaagreat", sum := "d521e22d161dc390f92397b74bcf535a17c4ba201f8d335cd9fec4e94da166e8", func := "posser/posserlaw11.ErrandLonger", spec := "errandLonger", unfollowed := true, recurses := true, plainKeys := false, apart := false }
def ErrandLongerSaid : Prop := errandLongerRow.holds Tryz.pinned (OpenSpec.ofChange errandLongerSpec)

/-- ITS FALSE NEIGHBOUR: 'it returns false'. Refute it at one input. -/
def errandLongerWrong : ChangeSpec := { name := "errandLonger", fn := fun _ => fun
  | [d1, d2, d3, d4] => { results := [.lit (.bool false)], args := [d1, d2, d3, d4] }
  | _ => none }
def ErrandLongerWrongFalsely : Prop := errandLongerRow.holds Tryz.pinned (OpenSpec.ofChange errandLongerWrong)

/-- 'posserlaw11.ErrandWider': WHATEVER THE INPUT: true; the input reads as it did. -/
def errandWiderSpec : ChangeSpec := { name := "errandWider", fn := fun _ => fun
  | [d1, d2, d3, d4] => { results := [.lit (.bool true)], args := [d1, d2, d3, d4] }
  | _ => none }
def errandWiderRow : OpenClaim := { program := "ytlcakmbejjlmeaagreat", sum := "d521e22d161dc390f92397b74bcf535a17c4ba201f8d335cd9fec4e94da166e8", func := "posser/posserlaw11.ErrandWider", spec := "errandWider", unfollowed := true, recurses := true, plainKeys := false, apart := false }
def ErrandWiderSaid : Prop := errandWiderRow.holds Tryz.pinned (OpenSpec.ofChange errandWiderSpec)

/-- ITS FALSE NEIGHBOUR: 'it returns false'. Refute it at one input. -/
def errandWiderWrong : ChangeSpec := { name := "errandWider", fn := fun _ => fun
  | [d1, d2, d3, d4] => { results := [.lit (.bool false)], args := [d1, d2, d3, d4] }
  | _ => none }
def ErrandWiderWrongFalsely : Prop := errandWiderRow.holds Tryz.pinned (OpenSpec.ofChange errandWiderWrong)

/- THE SECOND FORM. 'bulk': how many values and letters a reading holds, each counted each time it is reached (what is shared counts as often as it is met; a slice's spare places count too). A statement '..UptoSaid' is the law's where the arguments, and the package variables that the reading takes, are together of bulk at most 1048576: NARROWER than '..Said'. Prove '..Said' where nothing that the law and all that it calls make is longer than what came in: it says more and counts as full. Else prove '..UptoSaid'. A law counts once. -/
mutual
def uptoBulk {H : Type} : DataW H → Nat
  | .lit (.string bytes) => bytes.length + 1
  | .lit _ => 1
  | .nil => 1
  | .ptr d => uptoBulk d + 1
  | .slice elems spare => uptoBulkAll elems + uptoBulkAll spare + 1
  | .agg parts => uptoBulkAll parts + 1
  | .iface _ d => uptoBulk d + 1
  | .map entries => uptoBulkEntries entries + 1
  | .held _ => 1
def uptoBulkAll {H : Type} : List (DataW H) → Nat
  | [] => 0
  | d :: r => uptoBulk d + uptoBulkAll r
def uptoBulkEntries {H : Type} : List (Lit × DataW H) → Nat
  | [] => 0
  | x :: r => uptoBulkEntry x + uptoBulkEntries r
def uptoBulkEntry {H : Type} : Lit × DataW H → Nat
  | (.string bytes, d) => bytes.length + uptoBulk d + 1
  | (_, d) => uptoBulk d + 1
 end
def uptoSmall : (H : Type) → List (DataW H) → Bool := fun _ ds => decide (uptoBulkAll ds ≤ 1048576)
def OpenSpec.upto (s : _root_.Go.ChangeSpec) : _root_.Go.OpenSpec := { _root_.Go.OpenSpec.ofChange s with cond := some uptoSmall }

/-- 'posserlaw11.ErrandPlays', WHERE WHAT IT READS IS OF BULK AT MOST 1048576: true; the input reads as it did. -/
def errandPlaysUptoRow : OpenClaim := { program := "ytlcakmbejjlmeaagreat", sum := "d521e22d161dc390f92397b74bcf535a17c4ba201f8d335cd9fec4e94da166e8", func := "posser/posserlaw11.ErrandPlays", spec := "errandPlays", unfollowed := true, recurses := true, plainKeys := false, apart := false, narrowed := true }
def ErrandPlaysUptoSaid : Prop := errandPlaysUptoRow.holds Tryz.pinned (OpenSpec.upto errandPlaysSpec)

/-- 'posserlaw11.ErrandComes', WHERE WHAT IT READS IS OF BULK AT MOST 1048576: true; the input reads as it did. -/
def errandComesUptoRow : OpenClaim := { program := "ytlcakmbejjlmeaagreat", sum := "d521e22d161dc390f92397b74bcf535a17c4ba201f8d335cd9fec4e94da166e8", func := "posser/posserlaw11.ErrandComes", spec := "errandComes", unfollowed := true, recurses := true, plainKeys := false, apart := false, narrowed := true }
def ErrandComesUptoSaid : Prop := errandComesUptoRow.holds Tryz.pinned (OpenSpec.upto errandComesSpec)

/-- 'posserlaw11.ErrandBrings', WHERE WHAT IT READS IS OF BULK AT MOST 1048576: true; the input reads as it did. -/
def errandBringsUptoRow : OpenClaim := { program := "ytlcakmbejjlmeaagreat", sum := "d521e22d161dc390f92397b74bcf535a17c4ba201f8d335cd9fec4e94da166e8", func := "posser/posserlaw11.ErrandBrings", spec := "errandBrings", unfollowed := true, recurses := true, plainKeys := false, apart := false, narrowed := true }
def ErrandBringsUptoSaid : Prop := errandBringsUptoRow.holds Tryz.pinned (OpenSpec.upto errandBringsSpec)

/-- 'posserlaw11.ErrandFewest', WHERE WHAT IT READS IS OF BULK AT MOST 1048576: true; the input reads as it did. -/
def errandFewestUptoRow : OpenClaim := { program := "ytlcakmbejjlmeaagreat", sum := "d521e22d161dc390f92397b74bcf535a17c4ba201f8d335cd9fec4e94da166e8", func := "posser/posserlaw11.ErrandFewest", spec := "errandFewest", unfollowed := true, recurses := true, plainKeys := false, apart := false, narrowed := true }
def ErrandFewestUptoSaid : Prop := errandFewestUptoRow.holds Tryz.pinned (OpenSpec.upto errandFewestSpec)

/-- 'posserlaw11.ErrandWaits', WHERE WHAT IT READS IS OF BULK AT MOST 1048576: true; the input reads as it did. -/
def errandWaitsUptoRow : OpenClaim := { program := "ytlcakmbejjlmeaagreat", sum := "d521e22d161dc390f92397b74bcf535a17c4ba201f8d335cd9fec4e94da166e8", func := "posser/posserlaw11.ErrandWaits", spec := "errandWaits", unfollowed := true, recurses := true, plainKeys := false, apart := false, narrowed := true }
def ErrandWaitsUptoSaid : Prop := errandWaitsUptoRow.holds Tryz.pinned (OpenSpec.upto errandWaitsSpec)

/-- 'posserlaw11.ErrandTruth', WHERE WHAT IT READS IS OF BULK AT MOST 1048576: true; the input reads as it did. -/
def errandTruthUptoRow : OpenClaim := { program := "ytlcakmbejjlmeaagreat", sum := "d521e22d161dc390f92397b74bcf535a17c4ba201f8d335cd9fec4e94da166e8", func := "posser/posserlaw11.ErrandTruth", spec := "errandTruth", unfollowed := true, recurses := true, plainKeys := false, apart := false, narrowed := true }
def ErrandTruthUptoSaid : Prop := errandTruthUptoRow.holds Tryz.pinned (OpenSpec.upto errandTruthSpec)

/-- 'posserlaw11.ErrandEnds', WHERE WHAT IT READS IS OF BULK AT MOST 1048576: true; the input reads as it did. -/
def errandEndsUptoRow : OpenClaim := { program := "ytlcakmbejjlmeaagreat", sum := "d521e22d161dc390f92397b74bcf535a17c4ba201f8d335cd9fec4e94da166e8", func := "posser/posserlaw11.ErrandEnds", spec := "errandEnds", unfollowed := true, recurses := true, plainKeys := false, apart := false, narrowed := true }
def ErrandEndsUptoSaid : Prop := errandEndsUptoRow.holds Tryz.pinned (OpenSpec.upto errandEndsSpec)

/-- 'posserlaw11.ErrandQuicker', WHERE WHAT IT READS IS OF BULK AT MOST 1048576: true; the input reads as it did. -/
def errandQuickerUptoRow : OpenClaim := { program := "ytlcakmbejjlmeaagreat", sum := "d521e22d161dc390f92397b74bcf535a17c4ba201f8d335cd9fec4e94da166e8", func := "posser/posserlaw11.ErrandQuicker", spec := "errandQuicker", unfollowed := true, recurses := true, plainKeys := false, apart := false, narrowed := true }
def ErrandQuickerUptoSaid : Prop := errandQuickerUptoRow.holds Tryz.pinned (OpenSpec.upto errandQuickerSpec)

/-- 'posserlaw11.ErrandOnward', WHERE WHAT IT READS IS OF BULK AT MOST 1048576: true; the input reads as it did. -/
def errandOnwardUptoRow : OpenClaim := { program := "ytlcakmbejjlmeaagreat", sum := "d521e22d161dc390f92397b74bcf535a17c4ba201f8d335cd9fec4e94da166e8", func := "posser/posserlaw11.ErrandOnward", spec := "errandOnward", unfollowed := true, recurses := true, plainKeys := false, apart := false, narrowed := true }
def ErrandOnwardUptoSaid : Prop := errandOnwardUptoRow.holds Tryz.pinned (OpenSpec.upto errandOnwardSpec)

/-- 'posserlaw11.ErrandCalls', WHERE WHAT IT READS IS OF BULK AT MOST 1048576: true; the input reads as it did. -/
def errandCallsUptoRow : OpenClaim := { program := "ytlcakmbejjlmeaagreat", sum := "d521e22d161dc390f92397b74bcf535a17c4ba201f8d335cd9fec4e94da166e8", func := "posser/posserlaw11.ErrandCalls", spec := "errandCalls", unfollowed := true, recurses := true, plainKeys := false, apart := false, narrowed := true }
def ErrandCallsUptoSaid : Prop := errandCallsUptoRow.holds Tryz.pinned (OpenSpec.upto errandCallsSpec)

/-- 'posserlaw11.ErrandWaited', WHERE WHAT IT READS IS OF BULK AT MOST 1048576: true; the input reads as it did. -/
def errandWaitedUptoRow : OpenClaim := { program := "ytlcakmbejjlmeaagreat", sum := "d521e22d161dc390f92397b74bcf535a17c4ba201f8d335cd9fec4e94da166e8", func := "posser/posserlaw11.ErrandWaited", spec := "errandWaited", unfollowed := true, recurses := true, plainKeys := false, apart := false, narrowed := true }
def ErrandWaitedUptoSaid : Prop := errandWaitedUptoRow.holds Tryz.pinned (OpenSpec.upto errandWaitedSpec)

/-- 'posserlaw11.ErrandBack', WHERE WHAT IT READS IS OF BULK AT MOST 1048576: true; the input reads as it did. -/
def errandBackUptoRow : OpenClaim := { program := "ytlcakmbejjlmeaagreat", sum := "d521e22d161dc390f92397b74bcf535a17c4ba201f8d335cd9fec4e94da166e8", func := "posser/posserlaw11.ErrandBack", spec := "errandBack", unfollowed := true, recurses := true, plainKeys := false, apart := false, narrowed := true }
def ErrandBackUptoSaid : Prop := errandBackUptoRow.holds Tryz.pinned (OpenSpec.upto errandBackSpec)

/-- 'posserlaw11.ErrandWay', WHERE WHAT IT READS IS OF BULK AT MOST 1048576: true; the input reads as it did. -/
def errandWayUptoRow : OpenClaim := { program := "ytlcakmbejjlmeaagreat", sum := "d521e22d161dc390f92397b74bcf535a17c4ba201f8d335cd9fec4e94da166e8", func := "posser/posserlaw11.ErrandWay", spec := "errandWay", unfollowed := true, recurses := true, plainKeys := false, apart := false, narrowed := true }
def ErrandWayUptoSaid : Prop := errandWayUptoRow.holds Tryz.pinned (OpenSpec.upto errandWaySpec)

/-- 'posserlaw11.ErrandBest', WHERE WHAT IT READS IS OF BULK AT MOST 1048576: true; the input reads as it did. -/
def errandBestUptoRow : OpenClaim := { program := "ytlcakmbejjlmeaagreat", sum := "d521e22d161dc390f92397b74bcf535a17c4ba201f8d335cd9fec4e94da166e8", func := "posser/posserlaw11.ErrandBest", spec := "errandBest", unfollowed := true, recurses := true, plainKeys := false, apart := false, narrowed := true }
def ErrandBestUptoSaid : Prop := errandBestUptoRow.holds Tryz.pinned (OpenSpec.upto errandBestSpec)

/-- 'posserlaw11.ErrandNoBetter', WHERE WHAT IT READS IS OF BULK AT MOST 1048576: true; the input reads as it did. -/
def errandNoBetterUptoRow : OpenClaim := { program := "ytlcakmbejjlmeaagreat", sum := "d521e22d161dc390f92397b74bcf535a17c4ba201f8d335cd9fec4e94da166e8", func := "posser/posserlaw11.ErrandNoBetter", spec := "errandNoBetter", unfollowed := true, recurses := true, plainKeys := false, apart := false, narrowed := true }
def ErrandNoBetterUptoSaid : Prop := errandNoBetterUptoRow.holds Tryz.pinned (OpenSpec.upto errandNoBetterSpec)

/-- 'posserlaw11.ErrandLonger', WHERE WHAT IT READS IS OF BULK AT MOST 1048576: true; the input reads as it did. -/
def errandLongerUptoRow : OpenClaim := { program := "ytlcakmbejjlmeaagreat", sum := "d521e22d161dc390f92397b74bcf535a17c4ba201f8d335cd9fec4e94da166e8", func := "posser/posserlaw11.ErrandLonger", spec := "errandLonger", unfollowed := true, recurses := true, plainKeys := false, apart := false, narrowed := true }
def ErrandLongerUptoSaid : Prop := errandLongerUptoRow.holds Tryz.pinned (OpenSpec.upto errandLongerSpec)

/-- 'posserlaw11.ErrandWider', WHERE WHAT IT READS IS OF BULK AT MOST 1048576: true; the input reads as it did. -/
def errandWiderUptoRow : OpenClaim := { program := "ytlcakmbejjlmeaagreat", sum := "d521e22d161dc390f92397b74bcf535a17c4ba201f8d335cd9fec4e94da166e8", func := "posser/posserlaw11.ErrandWider", spec := "errandWider", unfollowed := true, recurses := true, plainKeys := false, apart := false, narrowed := true }
def ErrandWiderUptoSaid : Prop := errandWiderUptoRow.holds Tryz.pinned (OpenSpec.upto errandWiderSpec)

end Rows
end Go.Proofs.YtlcakmbejjlmeaaGreat
