/-
  No cell of these rows narrows 'for every input' (looked for: loops, veiled, ifaces, maps, wideKeys, modest, calm, conditions, laid).
  DERIVED. THE GIVEN ROWS OF THIS SEAT. 20 by the template 'for every input the law returns true; each argument reads behind the call as it read before'; 0 by the template 'total and deterministic' (their statements: YtnckmaieghlpmaaTotals.lean).
  GIVEN WITH THE SEED: the statements are not yours to turn. If you find one false, say at which input.
  Laid BY PROGRAM, IN A SANDBOX (cutbox-rows.mjs): the forced cells as the released guide's own fill.sh prints them over the translation 26389584b7529fc4… (all of the seat's roots in one cut). By AI agents, Wed Nov 11 2026. No macro, syntax, notation, axiom, sorry.
-/
import Derived.Test.YtnckmaieghlpmaaChecked
import GoSem.Claim
import GoSem.ClaimJoined
import GoSem.ClaimMapViews
import Derived.JoinedTies
import Derived.KernelRfl
namespace Go.Proofs.Ytnckmaieghlpmaa
/- THE CELL 'sum', in the pinned program and in every row, IS THE sha256 OF THE DUMP (.gsa) THAT YtnckmaieghlpmaaProg.lean LOADS. Nothing in Lean hashes anything: it is a label: what it is worth is what the hold of that sum in a sandbox is worth. -/
noncomputable def Try.pinned : Pinned := { name := "ytnckmaieghlpmaa", sum := "26389584b7529fc48a849596b54469f183e4264fa0ad9249dcc922f56406d354", checked := Try.checked }
namespace Rows
def none {H : Type} : Left H := { results := [], args := [] }

/-- 'horologelaw07.OctetSums': WHATEVER THE INPUT: true; the input reads as it did. -/
def octetSumsSpec : ChangeSpec := { name := "octetSums", fn := fun _ => fun
  | [d] => { results := [.lit (.bool true)], args := [d] }
  | _ => none }
def octetSumsRow : OpenClaim := { program := "ytnckmaieghlpmaa", sum := "26389584b7529fc48a849596b54469f183e4264fa0ad9249dcc922f56406d354", func := "horologe/horologelaw07.OctetSums", spec := "octetSums", apart := false }
def OctetSumsSaid : Prop := octetSumsRow.holds Try.pinned (OpenSpec.ofChange octetSumsSpec)

/-- ITS FALSE NEIGHBOUR: 'it returns false'. Refute it at one input. -/
def octetSumsWrong : ChangeSpec := { name := "octetSums", fn := fun _ => fun
  | [d] => { results := [.lit (.bool false)], args := [d] }
  | _ => none }
def OctetSumsWrongFalsely : Prop := octetSumsRow.holds Try.pinned (OpenSpec.ofChange octetSumsWrong)

/-- 'horologelaw07.OctetGets': WHATEVER THE INPUT: true; the input reads as it did. -/
def octetGetsSpec : ChangeSpec := { name := "octetGets", fn := fun _ => fun
  | [d1, d2, d3, d4] => { results := [.lit (.bool true)], args := [d1, d2, d3, d4] }
  | _ => none }
def octetGetsRow : OpenClaim := { program := "ytnckmaieghlpmaa", sum := "26389584b7529fc48a849596b54469f183e4264fa0ad9249dcc922f56406d354", func := "horologe/horologelaw07.OctetGets", spec := "octetGets", apart := false }
def OctetGetsSaid : Prop := octetGetsRow.holds Try.pinned (OpenSpec.ofChange octetGetsSpec)

/-- ITS FALSE NEIGHBOUR: 'it returns false'. Refute it at one input. -/
def octetGetsWrong : ChangeSpec := { name := "octetGets", fn := fun _ => fun
  | [d1, d2, d3, d4] => { results := [.lit (.bool false)], args := [d1, d2, d3, d4] }
  | _ => none }
def OctetGetsWrongFalsely : Prop := octetGetsRow.holds Try.pinned (OpenSpec.ofChange octetGetsWrong)

/-- 'horologelaw07.OctetPuts': WHATEVER THE INPUT: true; the input reads as it did. -/
def octetPutsSpec : ChangeSpec := { name := "octetPuts", fn := fun _ => fun
  | [d1, d2, d3, d4, d5] => { results := [.lit (.bool true)], args := [d1, d2, d3, d4, d5] }
  | _ => none }
def octetPutsRow : OpenClaim := { program := "ytnckmaieghlpmaa", sum := "26389584b7529fc48a849596b54469f183e4264fa0ad9249dcc922f56406d354", func := "horologe/horologelaw07.OctetPuts", spec := "octetPuts", apart := false }
def OctetPutsSaid : Prop := octetPutsRow.holds Try.pinned (OpenSpec.ofChange octetPutsSpec)

/-- ITS FALSE NEIGHBOUR: 'it returns false'. Refute it at one input. -/
def octetPutsWrong : ChangeSpec := { name := "octetPuts", fn := fun _ => fun
  | [d1, d2, d3, d4, d5] => { results := [.lit (.bool false)], args := [d1, d2, d3, d4, d5] }
  | _ => none }
def OctetPutsWrongFalsely : Prop := octetPutsRow.holds Try.pinned (OpenSpec.ofChange octetPutsWrong)

/-- 'horologelaw07.OctetBack': WHATEVER THE INPUT: true; the input reads as it did. -/
def octetBackSpec : ChangeSpec := { name := "octetBack", fn := fun _ => fun
  | [d1, d2, d3, d4] => { results := [.lit (.bool true)], args := [d1, d2, d3, d4] }
  | _ => none }
def octetBackRow : OpenClaim := { program := "ytnckmaieghlpmaa", sum := "26389584b7529fc48a849596b54469f183e4264fa0ad9249dcc922f56406d354", func := "horologe/horologelaw07.OctetBack", spec := "octetBack", apart := false }
def OctetBackSaid : Prop := octetBackRow.holds Try.pinned (OpenSpec.ofChange octetBackSpec)

/-- ITS FALSE NEIGHBOUR: 'it returns false'. Refute it at one input. -/
def octetBackWrong : ChangeSpec := { name := "octetBack", fn := fun _ => fun
  | [d1, d2, d3, d4] => { results := [.lit (.bool false)], args := [d1, d2, d3, d4] }
  | _ => none }
def OctetBackWrongFalsely : Prop := octetBackRow.holds Try.pinned (OpenSpec.ofChange octetBackWrong)

/-- 'horologelaw18.UdpOpens': WHATEVER THE INPUT: true; the input reads as it did. -/
def udpOpensSpec : ChangeSpec := { name := "udpOpens", fn := fun _ => fun
  | [d1, d2, d3] => { results := [.lit (.bool true)], args := [d1, d2, d3] }
  | _ => none }
def udpOpensRow : OpenClaim := { program := "ytnckmaieghlpmaa", sum := "26389584b7529fc48a849596b54469f183e4264fa0ad9249dcc922f56406d354", func := "horologe/horologelaw18.UdpOpens", spec := "udpOpens", apart := false }
def UdpOpensSaid : Prop := udpOpensRow.holds Try.pinned (OpenSpec.ofChange udpOpensSpec)

/-- ITS FALSE NEIGHBOUR: 'it returns false'. Refute it at one input. -/
def udpOpensWrong : ChangeSpec := { name := "udpOpens", fn := fun _ => fun
  | [d1, d2, d3] => { results := [.lit (.bool false)], args := [d1, d2, d3] }
  | _ => none }
def UdpOpensWrongFalsely : Prop := udpOpensRow.holds Try.pinned (OpenSpec.ofChange udpOpensWrong)

/-- 'horologelaw18.UdpPuts': WHATEVER THE INPUT: true; the input reads as it did. -/
def udpPutsSpec : ChangeSpec := { name := "udpPuts", fn := fun _ => fun
  | [d1, d2, d3] => { results := [.lit (.bool true)], args := [d1, d2, d3] }
  | _ => none }
def udpPutsRow : OpenClaim := { program := "ytnckmaieghlpmaa", sum := "26389584b7529fc48a849596b54469f183e4264fa0ad9249dcc922f56406d354", func := "horologe/horologelaw18.UdpPuts", spec := "udpPuts", apart := false }
def UdpPutsSaid : Prop := udpPutsRow.holds Try.pinned (OpenSpec.ofChange udpPutsSpec)

/-- ITS FALSE NEIGHBOUR: 'it returns false'. Refute it at one input. -/
def udpPutsWrong : ChangeSpec := { name := "udpPuts", fn := fun _ => fun
  | [d1, d2, d3] => { results := [.lit (.bool false)], args := [d1, d2, d3] }
  | _ => none }
def UdpPutsWrongFalsely : Prop := udpPutsRow.holds Try.pinned (OpenSpec.ofChange udpPutsWrong)

/-- 'horologelaw18.UdpBack': WHATEVER THE INPUT: true; the input reads as it did. -/
def udpBackSpec : ChangeSpec := { name := "udpBack", fn := fun _ => fun
  | [d1, d2, d3, d4, d5, d6] => { results := [.lit (.bool true)], args := [d1, d2, d3, d4, d5, d6] }
  | _ => none }
def udpBackRow : OpenClaim := { program := "ytnckmaieghlpmaa", sum := "26389584b7529fc48a849596b54469f183e4264fa0ad9249dcc922f56406d354", func := "horologe/horologelaw18.UdpBack", spec := "udpBack", apart := false }
def UdpBackSaid : Prop := udpBackRow.holds Try.pinned (OpenSpec.ofChange udpBackSpec)

/-- ITS FALSE NEIGHBOUR: 'it returns false'. Refute it at one input. -/
def udpBackWrong : ChangeSpec := { name := "udpBack", fn := fun _ => fun
  | [d1, d2, d3, d4, d5, d6] => { results := [.lit (.bool false)], args := [d1, d2, d3, d4, d5, d6] }
  | _ => none }
def UdpBackWrongFalsely : Prop := udpBackRow.holds Try.pinned (OpenSpec.ofChange udpBackWrong)

/-- 'horologelaw18.UdpNone': WHATEVER THE INPUT: true; the input reads as it did. -/
def udpNoneSpec : ChangeSpec := { name := "udpNone", fn := fun _ => fun
  | [d1, d2, d3] => { results := [.lit (.bool true)], args := [d1, d2, d3] }
  | _ => none }
def udpNoneRow : OpenClaim := { program := "ytnckmaieghlpmaa", sum := "26389584b7529fc48a849596b54469f183e4264fa0ad9249dcc922f56406d354", func := "horologe/horologelaw18.UdpNone", spec := "udpNone", apart := false }
def UdpNoneSaid : Prop := udpNoneRow.holds Try.pinned (OpenSpec.ofChange udpNoneSpec)

/-- ITS FALSE NEIGHBOUR: 'it returns false'. Refute it at one input. -/
def udpNoneWrong : ChangeSpec := { name := "udpNone", fn := fun _ => fun
  | [d1, d2, d3] => { results := [.lit (.bool false)], args := [d1, d2, d3] }
  | _ => none }
def UdpNoneWrongFalsely : Prop := udpNoneRow.holds Try.pinned (OpenSpec.ofChange udpNoneWrong)

/-- 'horologelaw18.UdpTurned': WHATEVER THE INPUT: true; the input reads as it did. -/
def udpTurnedSpec : ChangeSpec := { name := "udpTurned", fn := fun _ => fun
  | [d1, d2, d3, d4, d5] => { results := [.lit (.bool true)], args := [d1, d2, d3, d4, d5] }
  | _ => none }
def udpTurnedRow : OpenClaim := { program := "ytnckmaieghlpmaa", sum := "26389584b7529fc48a849596b54469f183e4264fa0ad9249dcc922f56406d354", func := "horologe/horologelaw18.UdpTurned", spec := "udpTurned", apart := false }
def UdpTurnedSaid : Prop := udpTurnedRow.holds Try.pinned (OpenSpec.ofChange udpTurnedSpec)

/-- ITS FALSE NEIGHBOUR: 'it returns false'. Refute it at one input. -/
def udpTurnedWrong : ChangeSpec := { name := "udpTurned", fn := fun _ => fun
  | [d1, d2, d3, d4, d5] => { results := [.lit (.bool false)], args := [d1, d2, d3, d4, d5] }
  | _ => none }
def UdpTurnedWrongFalsely : Prop := udpTurnedRow.holds Try.pinned (OpenSpec.ofChange udpTurnedWrong)

/-- 'horologelaw14.LinkOpens': WHATEVER THE INPUT: true; the input reads as it did. -/
def linkOpensSpec : ChangeSpec := { name := "linkOpens", fn := fun _ => fun
  | [d1, d2] => { results := [.lit (.bool true)], args := [d1, d2] }
  | _ => none }
def linkOpensRow : OpenClaim := { program := "ytnckmaieghlpmaa", sum := "26389584b7529fc48a849596b54469f183e4264fa0ad9249dcc922f56406d354", func := "horologe/horologelaw14.LinkOpens", spec := "linkOpens", apart := false }
def LinkOpensSaid : Prop := linkOpensRow.holds Try.pinned (OpenSpec.ofChange linkOpensSpec)

/-- ITS FALSE NEIGHBOUR: 'it returns false'. Refute it at one input. -/
def linkOpensWrong : ChangeSpec := { name := "linkOpens", fn := fun _ => fun
  | [d1, d2] => { results := [.lit (.bool false)], args := [d1, d2] }
  | _ => none }
def LinkOpensWrongFalsely : Prop := linkOpensRow.holds Try.pinned (OpenSpec.ofChange linkOpensWrong)

/-- 'horologelaw14.LinkPuts': WHATEVER THE INPUT: true; the input reads as it did. -/
def linkPutsSpec : ChangeSpec := { name := "linkPuts", fn := fun _ => fun
  | [d1, d2, d3, d4] => { results := [.lit (.bool true)], args := [d1, d2, d3, d4] }
  | _ => none }
def linkPutsRow : OpenClaim := { program := "ytnckmaieghlpmaa", sum := "26389584b7529fc48a849596b54469f183e4264fa0ad9249dcc922f56406d354", func := "horologe/horologelaw14.LinkPuts", spec := "linkPuts", apart := false }
def LinkPutsSaid : Prop := linkPutsRow.holds Try.pinned (OpenSpec.ofChange linkPutsSpec)

/-- ITS FALSE NEIGHBOUR: 'it returns false'. Refute it at one input. -/
def linkPutsWrong : ChangeSpec := { name := "linkPuts", fn := fun _ => fun
  | [d1, d2, d3, d4] => { results := [.lit (.bool false)], args := [d1, d2, d3, d4] }
  | _ => none }
def LinkPutsWrongFalsely : Prop := linkPutsRow.holds Try.pinned (OpenSpec.ofChange linkPutsWrong)

/-- 'horologelaw14.LinkBack': WHATEVER THE INPUT: true; the input reads as it did. -/
def linkBackSpec : ChangeSpec := { name := "linkBack", fn := fun _ => fun
  | [d1, d2, d3, d4] => { results := [.lit (.bool true)], args := [d1, d2, d3, d4] }
  | _ => none }
def linkBackRow : OpenClaim := { program := "ytnckmaieghlpmaa", sum := "26389584b7529fc48a849596b54469f183e4264fa0ad9249dcc922f56406d354", func := "horologe/horologelaw14.LinkBack", spec := "linkBack", apart := false }
def LinkBackSaid : Prop := linkBackRow.holds Try.pinned (OpenSpec.ofChange linkBackSpec)

/-- ITS FALSE NEIGHBOUR: 'it returns false'. Refute it at one input. -/
def linkBackWrong : ChangeSpec := { name := "linkBack", fn := fun _ => fun
  | [d1, d2, d3, d4] => { results := [.lit (.bool false)], args := [d1, d2, d3, d4] }
  | _ => none }
def LinkBackWrongFalsely : Prop := linkBackRow.holds Try.pinned (OpenSpec.ofChange linkBackWrong)

/-- 'horologelaw14.LinkCut': WHATEVER THE INPUT: true; the input reads as it did. -/
def linkCutSpec : ChangeSpec := { name := "linkCut", fn := fun _ => fun
  | [d1, d2, d3, d4] => { results := [.lit (.bool true)], args := [d1, d2, d3, d4] }
  | _ => none }
def linkCutRow : OpenClaim := { program := "ytnckmaieghlpmaa", sum := "26389584b7529fc48a849596b54469f183e4264fa0ad9249dcc922f56406d354", func := "horologe/horologelaw14.LinkCut", spec := "linkCut", apart := false }
def LinkCutSaid : Prop := linkCutRow.holds Try.pinned (OpenSpec.ofChange linkCutSpec)

/-- ITS FALSE NEIGHBOUR: 'it returns false'. Refute it at one input. -/
def linkCutWrong : ChangeSpec := { name := "linkCut", fn := fun _ => fun
  | [d1, d2, d3, d4] => { results := [.lit (.bool false)], args := [d1, d2, d3, d4] }
  | _ => none }
def LinkCutWrongFalsely : Prop := linkCutRow.holds Try.pinned (OpenSpec.ofChange linkCutWrong)

/-- 'horologelaw14.LinkTags': WHATEVER THE INPUT: true; the input reads as it did. -/
def linkTagsSpec : ChangeSpec := { name := "linkTags", fn := fun _ => fun
  | [d1, d2, d3, d4, d5] => { results := [.lit (.bool true)], args := [d1, d2, d3, d4, d5] }
  | _ => none }
def linkTagsRow : OpenClaim := { program := "ytnckmaieghlpmaa", sum := "26389584b7529fc48a849596b54469f183e4264fa0ad9249dcc922f56406d354", func := "horologe/horologelaw14.LinkTags", spec := "linkTags", apart := false }
def LinkTagsSaid : Prop := linkTagsRow.holds Try.pinned (OpenSpec.ofChange linkTagsSpec)

/-- ITS FALSE NEIGHBOUR: 'it returns false'. Refute it at one input. -/
def linkTagsWrong : ChangeSpec := { name := "linkTags", fn := fun _ => fun
  | [d1, d2, d3, d4, d5] => { results := [.lit (.bool false)], args := [d1, d2, d3, d4, d5] }
  | _ => none }
def LinkTagsWrongFalsely : Prop := linkTagsRow.holds Try.pinned (OpenSpec.ofChange linkTagsWrong)

/-- 'horologelaw17.FragPlays': WHATEVER THE INPUT: true; the input reads as it did. -/
def fragPlaysSpec : ChangeSpec := { name := "fragPlays", fn := fun _ => fun
  | [d1, d2, d3] => { results := [.lit (.bool true)], args := [d1, d2, d3] }
  | _ => none }
def fragPlaysRow : OpenClaim := { program := "ytnckmaieghlpmaa", sum := "26389584b7529fc48a849596b54469f183e4264fa0ad9249dcc922f56406d354", func := "horologe/horologelaw17.FragPlays", spec := "fragPlays", inPlace := ["slices.overlaps[horologe/frag.Part]"], unfollowed := true, recurses := true, apart := false }
def FragPlaysSaid : Prop := fragPlaysRow.holds Try.pinned (OpenSpec.ofChange fragPlaysSpec)

/-- ITS FALSE NEIGHBOUR: 'it returns false'. Refute it at one input. -/
def fragPlaysWrong : ChangeSpec := { name := "fragPlays", fn := fun _ => fun
  | [d1, d2, d3] => { results := [.lit (.bool false)], args := [d1, d2, d3] }
  | _ => none }
def FragPlaysWrongFalsely : Prop := fragPlaysRow.holds Try.pinned (OpenSpec.ofChange fragPlaysWrong)

/-- 'horologelaw17.FragOwn': WHATEVER THE INPUT: true; the input reads as it did. -/
def fragOwnSpec : ChangeSpec := { name := "fragOwn", fn := fun _ => fun
  | [d1, d2, d3] => { results := [.lit (.bool true)], args := [d1, d2, d3] }
  | _ => none }
def fragOwnRow : OpenClaim := { program := "ytnckmaieghlpmaa", sum := "26389584b7529fc48a849596b54469f183e4264fa0ad9249dcc922f56406d354", func := "horologe/horologelaw17.FragOwn", spec := "fragOwn", inPlace := ["slices.overlaps[horologe/frag.Part]"], unfollowed := true, recurses := true, apart := false }
def FragOwnSaid : Prop := fragOwnRow.holds Try.pinned (OpenSpec.ofChange fragOwnSpec)

/-- ITS FALSE NEIGHBOUR: 'it returns false'. Refute it at one input. -/
def fragOwnWrong : ChangeSpec := { name := "fragOwn", fn := fun _ => fun
  | [d1, d2, d3] => { results := [.lit (.bool false)], args := [d1, d2, d3] }
  | _ => none }
def FragOwnWrongFalsely : Prop := fragOwnRow.holds Try.pinned (OpenSpec.ofChange fragOwnWrong)

/-- 'horologelaw17.FragWhole': WHATEVER THE INPUT: true; the input reads as it did. -/
def fragWholeSpec : ChangeSpec := { name := "fragWhole", fn := fun _ => fun
  | [d1, d2, d3, d4, d5, d6, d7] => { results := [.lit (.bool true)], args := [d1, d2, d3, d4, d5, d6, d7] }
  | _ => none }
def fragWholeRow : OpenClaim := { program := "ytnckmaieghlpmaa", sum := "26389584b7529fc48a849596b54469f183e4264fa0ad9249dcc922f56406d354", func := "horologe/horologelaw17.FragWhole", spec := "fragWhole", inPlace := ["slices.overlaps[horologe/frag.Part]"], unfollowed := true, recurses := true, apart := false }
def FragWholeSaid : Prop := fragWholeRow.holds Try.pinned (OpenSpec.ofChange fragWholeSpec)

/-- ITS FALSE NEIGHBOUR: 'it returns false'. Refute it at one input. -/
def fragWholeWrong : ChangeSpec := { name := "fragWhole", fn := fun _ => fun
  | [d1, d2, d3, d4, d5, d6, d7] => { results := [.lit (.bool false)], args := [d1, d2, d3, d4, d5, d6, d7] }
  | _ => none }
def FragWholeWrongFalsely : Prop := fragWholeRow.holds Try.pinned (OpenSpec.ofChange fragWholeWrong)

/-- 'horologelaw17.FragMixed': WHATEVER THE INPUT: true; the input reads as it did. -/
def fragMixedSpec : ChangeSpec := { name := "fragMixed", fn := fun _ => fun
  | [d1, d2, d3, d4, d5, d6] => { results := [.lit (.bool true)], args := [d1, d2, d3, d4, d5, d6] }
  | _ => none }
def fragMixedRow : OpenClaim := { program := "ytnckmaieghlpmaa", sum := "26389584b7529fc48a849596b54469f183e4264fa0ad9249dcc922f56406d354", func := "horologe/horologelaw17.FragMixed", spec := "fragMixed", inPlace := ["slices.overlaps[horologe/frag.Part]"], unfollowed := true, recurses := true, apart := false }
def FragMixedSaid : Prop := fragMixedRow.holds Try.pinned (OpenSpec.ofChange fragMixedSpec)

/-- ITS FALSE NEIGHBOUR: 'it returns false'. Refute it at one input. -/
def fragMixedWrong : ChangeSpec := { name := "fragMixed", fn := fun _ => fun
  | [d1, d2, d3, d4, d5, d6] => { results := [.lit (.bool false)], args := [d1, d2, d3, d4, d5, d6] }
  | _ => none }
def FragMixedWrongFalsely : Prop := fragMixedRow.holds Try.pinned (OpenSpec.ofChange fragMixedWrong)

/-- 'horologelaw17.FragBound': WHATEVER THE INPUT: true; the input reads as it did. -/
def fragBoundSpec : ChangeSpec := { name := "fragBound", fn := fun _ => fun
  | [d1, d2, d3] => { results := [.lit (.bool true)], args := [d1, d2, d3] }
  | _ => none }
def fragBoundRow : OpenClaim := { program := "ytnckmaieghlpmaa", sum := "26389584b7529fc48a849596b54469f183e4264fa0ad9249dcc922f56406d354", func := "horologe/horologelaw17.FragBound", spec := "fragBound", inPlace := ["slices.overlaps[horologe/frag.Part]"], unfollowed := true, recurses := true, apart := false }
def FragBoundSaid : Prop := fragBoundRow.holds Try.pinned (OpenSpec.ofChange fragBoundSpec)

/-- ITS FALSE NEIGHBOUR: 'it returns false'. Refute it at one input. -/
def fragBoundWrong : ChangeSpec := { name := "fragBound", fn := fun _ => fun
  | [d1, d2, d3] => { results := [.lit (.bool false)], args := [d1, d2, d3] }
  | _ => none }
def FragBoundWrongFalsely : Prop := fragBoundRow.holds Try.pinned (OpenSpec.ofChange fragBoundWrong)

/-- 'horologelaw17.FragOldest': WHATEVER THE INPUT: true; the input reads as it did. -/
def fragOldestSpec : ChangeSpec := { name := "fragOldest", fn := fun _ => fun
  | [d1, d2] => { results := [.lit (.bool true)], args := [d1, d2] }
  | _ => none }
def fragOldestRow : OpenClaim := { program := "ytnckmaieghlpmaa", sum := "26389584b7529fc48a849596b54469f183e4264fa0ad9249dcc922f56406d354", func := "horologe/horologelaw17.FragOldest", spec := "fragOldest", inPlace := ["slices.overlaps[horologe/frag.Part]"], unfollowed := true, recurses := true, apart := false }
def FragOldestSaid : Prop := fragOldestRow.holds Try.pinned (OpenSpec.ofChange fragOldestSpec)

/-- ITS FALSE NEIGHBOUR: 'it returns false'. Refute it at one input. -/
def fragOldestWrong : ChangeSpec := { name := "fragOldest", fn := fun _ => fun
  | [d1, d2] => { results := [.lit (.bool false)], args := [d1, d2] }
  | _ => none }
def FragOldestWrongFalsely : Prop := fragOldestRow.holds Try.pinned (OpenSpec.ofChange fragOldestWrong)

/- THE SECOND FORM. 'bulk': how many values and letters a reading holds, each counted each time it is reached (what is shared counts as often as it is met; a slice's spare places count too). A statement '..UptoSaid' is the law's where the arguments, and the package variables that the reading takes, are together of bulk at most 1048576: NARROWER than '..Said'. Prove '..Said' where nothing that the law and all that it calls make is longer than what came in: it says more and counts as full. Else prove '..UptoSaid'. A law counts once. -/
mutual
def uptoBulk {H : Type} : DataW H → Nat
  | .lit (.string bytes) => bytes.length + 1
  | .lit _ => 1
  | .nil => 1
  | .ptr d => uptoBulk d + 1
  | .slice elems spare => uptoBulkAll elems + uptoBulkAll spare + 1
  | .agg parts => uptoBulkAll parts + 1
  | .iface _ d => uptoBulk d + 1
  | .map entries => uptoBulkEntries entries + 1
  | .held _ => 1
def uptoBulkAll {H : Type} : List (DataW H) → Nat
  | [] => 0
  | d :: r => uptoBulk d + uptoBulkAll r
def uptoBulkEntries {H : Type} : List (Lit × DataW H) → Nat
  | [] => 0
  | x :: r => uptoBulkEntry x + uptoBulkEntries r
def uptoBulkEntry {H : Type} : Lit × DataW H → Nat
  | (.string bytes, d) => bytes.length + uptoBulk d + 1
  | (_, d) => uptoBulk d + 1
 end
def uptoSmall : (H : Type) → List (DataW H) → Bool := fun _ ds => decide (uptoBulkAll ds ≤ 1048576)
def OpenSpec.upto (s : _root_.Go.ChangeSpec) : _root_.Go.OpenSpec := { _root_.Go.OpenSpec.ofChange s with cond := some uptoSmall }

/-- 'horologelaw07.OctetSums', WHERE WHAT IT READS IS OF BULK AT MOST 1048576: true; the input reads as it did. -/
def octetSumsUptoRow : OpenClaim := { program := "ytnckmaieghlpmaa", sum := "26389584b7529fc48a849596b54469f183e4264fa0ad9249dcc922f56406d354", func := "horologe/horologelaw07.OctetSums", spec := "octetSums", apart := false, narrowed := true }
def OctetSumsUptoSaid : Prop := octetSumsUptoRow.holds Try.pinned (OpenSpec.upto octetSumsSpec)

/-- 'horologelaw07.OctetGets', WHERE WHAT IT READS IS OF BULK AT MOST 1048576: true; the input reads as it did. -/
def octetGetsUptoRow : OpenClaim := { program := "ytnckmaieghlpmaa", sum := "26389584b7529fc48a849596b54469f183e4264fa0ad9249dcc922f56406d354", func := "horologe/horologelaw07.OctetGets", spec := "octetGets", apart := false, narrowed := true }
def OctetGetsUptoSaid : Prop := octetGetsUptoRow.holds Try.pinned (OpenSpec.upto octetGetsSpec)

/-- 'horologelaw07.OctetPuts', WHERE WHAT IT READS IS OF BULK AT MOST 1048576: true; the input reads as it did. -/
def octetPutsUptoRow : OpenClaim := { program := "ytnckmaieghlpmaa", sum := "26389584b7529fc48a849596b54469f183e4264fa0ad9249dcc922f56406d354", func := "horologe/horologelaw07.OctetPuts", spec := "octetPuts", apart := false, narrowed := true }
def OctetPutsUptoSaid : Prop := octetPutsUptoRow.holds Try.pinned (OpenSpec.upto octetPutsSpec)

/-- 'horologelaw07.OctetBack', WHERE WHAT IT READS IS OF BULK AT MOST 1048576: true; the input reads as it did. -/
def octetBackUptoRow : OpenClaim := { program := "ytnckmaieghlpmaa", sum := "26389584b7529fc48a849596b54469f183e4264fa0ad9249dcc922f56406d354", func := "horologe/horologelaw07.OctetBack", spec := "octetBack", apart := false, narrowed := true }
def OctetBackUptoSaid : Prop := octetBackUptoRow.holds Try.pinned (OpenSpec.upto octetBackSpec)

/-- 'horologelaw18.UdpOpens', WHERE WHAT IT READS IS OF BULK AT MOST 1048576: true; the input reads as it did. -/
def udpOpensUptoRow : OpenClaim := { program := "ytnckmaieghlpmaa", sum := "26389584b7529fc48a849596b54469f183e4264fa0ad9249dcc922f56406d354", func := "horologe/horologelaw18.UdpOpens", spec := "udpOpens", apart := false, narrowed := true }
def UdpOpensUptoSaid : Prop := udpOpensUptoRow.holds Try.pinned (OpenSpec.upto udpOpensSpec)

/-- 'horologelaw18.UdpPuts', WHERE WHAT IT READS IS OF BULK AT MOST 1048576: true; the input reads as it did. -/
def udpPutsUptoRow : OpenClaim := { program := "ytnckmaieghlpmaa", sum := "26389584b7529fc48a849596b54469f183e4264fa0ad9249dcc922f56406d354", func := "horologe/horologelaw18.UdpPuts", spec := "udpPuts", apart := false, narrowed := true }
def UdpPutsUptoSaid : Prop := udpPutsUptoRow.holds Try.pinned (OpenSpec.upto udpPutsSpec)

/-- 'horologelaw18.UdpBack', WHERE WHAT IT READS IS OF BULK AT MOST 1048576: true; the input reads as it did. -/
def udpBackUptoRow : OpenClaim := { program := "ytnckmaieghlpmaa", sum := "26389584b7529fc48a849596b54469f183e4264fa0ad9249dcc922f56406d354", func := "horologe/horologelaw18.UdpBack", spec := "udpBack", apart := false, narrowed := true }
def UdpBackUptoSaid : Prop := udpBackUptoRow.holds Try.pinned (OpenSpec.upto udpBackSpec)

/-- 'horologelaw18.UdpNone', WHERE WHAT IT READS IS OF BULK AT MOST 1048576: true; the input reads as it did. -/
def udpNoneUptoRow : OpenClaim := { program := "ytnckmaieghlpmaa", sum := "26389584b7529fc48a849596b54469f183e4264fa0ad9249dcc922f56406d354", func := "horologe/horologelaw18.UdpNone", spec := "udpNone", apart := false, narrowed := true }
def UdpNoneUptoSaid : Prop := udpNoneUptoRow.holds Try.pinned (OpenSpec.upto udpNoneSpec)

/-- 'horologelaw18.UdpTurned', WHERE WHAT IT READS IS OF BULK AT MOST 1048576: true; the input reads as it did. -/
def udpTurnedUptoRow : OpenClaim := { program := "ytnckmaieghlpmaa", sum := "26389584b7529fc48a849596b54469f183e4264fa0ad9249dcc922f56406d354", func := "horologe/horologelaw18.UdpTurned", spec := "udpTurned", apart := false, narrowed := true }
def UdpTurnedUptoSaid : Prop := udpTurnedUptoRow.holds Try.pinned (OpenSpec.upto udpTurnedSpec)

/-- 'horologelaw14.LinkOpens', WHERE WHAT IT READS IS OF BULK AT MOST 1048576: true; the input reads as it did. -/
def linkOpensUptoRow : OpenClaim := { program := "ytnckmaieghlpmaa", sum := "26389584b7529fc48a849596b54469f183e4264fa0ad9249dcc922f56406d354", func := "horologe/horologelaw14.LinkOpens", spec := "linkOpens", apart := false, narrowed := true }
def LinkOpensUptoSaid : Prop := linkOpensUptoRow.holds Try.pinned (OpenSpec.upto linkOpensSpec)

/-- 'horologelaw14.LinkPuts', WHERE WHAT IT READS IS OF BULK AT MOST 1048576: true; the input reads as it did. -/
def linkPutsUptoRow : OpenClaim := { program := "ytnckmaieghlpmaa", sum := "26389584b7529fc48a849596b54469f183e4264fa0ad9249dcc922f56406d354", func := "horologe/horologelaw14.LinkPuts", spec := "linkPuts", apart := false, narrowed := true }
def LinkPutsUptoSaid : Prop := linkPutsUptoRow.holds Try.pinned (OpenSpec.upto linkPutsSpec)

/-- 'horologelaw14.LinkBack', WHERE WHAT IT READS IS OF BULK AT MOST 1048576: true; the input reads as it did. -/
def linkBackUptoRow : OpenClaim := { program := "ytnckmaieghlpmaa", sum := "26389584b7529fc48a849596b54469f183e4264fa0ad9249dcc922f56406d354", func := "horologe/horologelaw14.LinkBack", spec := "linkBack", apart := false, narrowed := true }
def LinkBackUptoSaid : Prop := linkBackUptoRow.holds Try.pinned (OpenSpec.upto linkBackSpec)

/-- 'horologelaw14.LinkCut', WHERE WHAT IT READS IS OF BULK AT MOST 1048576: true; the input reads as it did. -/
def linkCutUptoRow : OpenClaim := { program := "ytnckmaieghlpmaa", sum := "26389584b7529fc48a849596b54469f183e4264fa0ad9249dcc922f56406d354", func := "horologe/horologelaw14.LinkCut", spec := "linkCut", apart := false, narrowed := true }
def LinkCutUptoSaid : Prop := linkCutUptoRow.holds Try.pinned (OpenSpec.upto linkCutSpec)

/-- 'horologelaw14.LinkTags', WHERE WHAT IT READS IS OF BULK AT MOST 1048576: true; the input reads as it did. -/
def linkTagsUptoRow : OpenClaim := { program := "ytnckmaieghlpmaa", sum := "26389584b7529fc48a849596b54469f183e4264fa0ad9249dcc922f56406d354", func := "horologe/horologelaw14.LinkTags", spec := "linkTags", apart := false, narrowed := true }
def LinkTagsUptoSaid : Prop := linkTagsUptoRow.holds Try.pinned (OpenSpec.upto linkTagsSpec)

/-- 'horologelaw17.FragPlays', WHERE WHAT IT READS IS OF BULK AT MOST 1048576: true; the input reads as it did. -/
def fragPlaysUptoRow : OpenClaim := { program := "ytnckmaieghlpmaa", sum := "26389584b7529fc48a849596b54469f183e4264fa0ad9249dcc922f56406d354", func := "horologe/horologelaw17.FragPlays", spec := "fragPlays", inPlace := ["slices.overlaps[horologe/frag.Part]"], unfollowed := true, recurses := true, apart := false, narrowed := true }
def FragPlaysUptoSaid : Prop := fragPlaysUptoRow.holds Try.pinned (OpenSpec.upto fragPlaysSpec)

/-- 'horologelaw17.FragOwn', WHERE WHAT IT READS IS OF BULK AT MOST 1048576: true; the input reads as it did. -/
def fragOwnUptoRow : OpenClaim := { program := "ytnckmaieghlpmaa", sum := "26389584b7529fc48a849596b54469f183e4264fa0ad9249dcc922f56406d354", func := "horologe/horologelaw17.FragOwn", spec := "fragOwn", inPlace := ["slices.overlaps[horologe/frag.Part]"], unfollowed := true, recurses := true, apart := false, narrowed := true }
def FragOwnUptoSaid : Prop := fragOwnUptoRow.holds Try.pinned (OpenSpec.upto fragOwnSpec)

/-- 'horologelaw17.FragWhole', WHERE WHAT IT READS IS OF BULK AT MOST 1048576: true; the input reads as it did. -/
def fragWholeUptoRow : OpenClaim := { program := "ytnckmaieghlpmaa", sum := "26389584b7529fc48a849596b54469f183e4264fa0ad9249dcc922f56406d354", func := "horologe/horologelaw17.FragWhole", spec := "fragWhole", inPlace := ["slices.overlaps[horologe/frag.Part]"], unfollowed := true, recurses := true, apart := false, narrowed := true }
def FragWholeUptoSaid : Prop := fragWholeUptoRow.holds Try.pinned (OpenSpec.upto fragWholeSpec)

/-- 'horologelaw17.FragMixed', WHERE WHAT IT READS IS OF BULK AT MOST 1048576: true; the input reads as it did. -/
def fragMixedUptoRow : OpenClaim := { program := "ytnckmaieghlpmaa", sum := "26389584b7529fc48a849596b54469f183e4264fa0ad9249dcc922f56406d354", func := "horologe/horologelaw17.FragMixed", spec := "fragMixed", inPlace := ["slices.overlaps[horologe/frag.Part]"], unfollowed := true, recurses := true, apart := false, narrowed := true }
def FragMixedUptoSaid : Prop := fragMixedUptoRow.holds Try.pinned (OpenSpec.upto fragMixedSpec)

/-- 'horologelaw17.FragBound', WHERE WHAT IT READS IS OF BULK AT MOST 1048576: true; the input reads as it did. -/
def fragBoundUptoRow : OpenClaim := { program := "ytnckmaieghlpmaa", sum := "26389584b7529fc48a849596b54469f183e4264fa0ad9249dcc922f56406d354", func := "horologe/horologelaw17.FragBound", spec := "fragBound", inPlace := ["slices.overlaps[horologe/frag.Part]"], unfollowed := true, recurses := true, apart := false, narrowed := true }
def FragBoundUptoSaid : Prop := fragBoundUptoRow.holds Try.pinned (OpenSpec.upto fragBoundSpec)

/-- 'horologelaw17.FragOldest', WHERE WHAT IT READS IS OF BULK AT MOST 1048576: true; the input reads as it did. -/
def fragOldestUptoRow : OpenClaim := { program := "ytnckmaieghlpmaa", sum := "26389584b7529fc48a849596b54469f183e4264fa0ad9249dcc922f56406d354", func := "horologe/horologelaw17.FragOldest", spec := "fragOldest", inPlace := ["slices.overlaps[horologe/frag.Part]"], unfollowed := true, recurses := true, apart := false, narrowed := true }
def FragOldestUptoSaid : Prop := fragOldestUptoRow.holds Try.pinned (OpenSpec.upto fragOldestSpec)

end Rows
end Go.Proofs.Ytnckmaieghlpmaa
