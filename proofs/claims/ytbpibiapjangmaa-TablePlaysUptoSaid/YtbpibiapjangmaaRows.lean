/-
  No cell of these rows narrows 'for every input' (looked for: loops, veiled, ifaces, maps, wideKeys, modest, calm, conditions, laid).
  DERIVED. THE GIVEN ROWS OF THIS SEAT. 10 by the template 'for every input the law returns true; each argument reads behind the call as it read before'; 0 by the template 'total and deterministic' (their statements: YtbpibiapjangmaaTotals.lean).
  GIVEN WITH THE SEED: the statements are not yours to turn. If you find one false, say at which input.
  Laid BY PROGRAM, IN A SANDBOX (cutbox-rows.mjs): the forced cells as the released guide's own fill.sh prints them over the translation 3f67bf183d9fdfaa… (all of the seat's roots in one cut). By AI agents, Wed Nov 11 2026. No macro, syntax, notation, axiom, sorry.
-/
import Derived.Test.YtbpibiapjangmaaChecked
import GoSem.Claim
import GoSem.ClaimJoined
import GoSem.ClaimMapViews
import Derived.JoinedTies
import Derived.KernelRfl
namespace Go.Proofs.Ytbpibiapjangmaa
/- THE CELL 'sum', in the pinned program and in every row, IS THE sha256 OF THE DUMP (.gsa) THAT YtbpibiapjangmaaProg.lean LOADS. Nothing in Lean hashes anything: it is a label: what it is worth is what the hold of that sum in a sandbox is worth. -/
noncomputable def Try.pinned : Pinned := { name := "ytbpibiapjangmaa", sum := "3f67bf183d9fdfaab1bc9f88769d66d757e5cadab7ad17d19dfed5433a0dc365", checked := Try.checked }
namespace Rows
def none {H : Type} : Left H := { results := [], args := [] }

/-- 'carousellaw17.HomeMod': WHATEVER THE INPUT: true; the input reads as it did. -/
def homeModSpec : ChangeSpec := { name := "homeMod", fn := fun _ => fun
  | [d1, d2] => { results := [.lit (.bool true)], args := [d1, d2] }
  | _ => none }
def homeModRow : OpenClaim := { program := "ytbpibiapjangmaa", sum := "3f67bf183d9fdfaab1bc9f88769d66d757e5cadab7ad17d19dfed5433a0dc365", func := "carousel/carousellaw17.HomeMod", spec := "homeMod", apart := false }
def HomeModSaid : Prop := homeModRow.holds Try.pinned (OpenSpec.ofChange homeModSpec)

/-- ITS FALSE NEIGHBOUR: 'it returns false'. Refute it at one input. -/
def homeModWrong : ChangeSpec := { name := "homeMod", fn := fun _ => fun
  | [d1, d2] => { results := [.lit (.bool false)], args := [d1, d2] }
  | _ => none }
def HomeModWrongFalsely : Prop := homeModRow.holds Try.pinned (OpenSpec.ofChange homeModWrong)

/-- 'carousellaw17.HomeKeeps': WHATEVER THE INPUT: true; the input reads as it did. -/
def homeKeepsSpec : ChangeSpec := { name := "homeKeeps", fn := fun _ => fun
  | [d1, d2] => { results := [.lit (.bool true)], args := [d1, d2] }
  | _ => none }
def homeKeepsRow : OpenClaim := { program := "ytbpibiapjangmaa", sum := "3f67bf183d9fdfaab1bc9f88769d66d757e5cadab7ad17d19dfed5433a0dc365", func := "carousel/carousellaw17.HomeKeeps", spec := "homeKeeps", apart := false }
def HomeKeepsSaid : Prop := homeKeepsRow.holds Try.pinned (OpenSpec.ofChange homeKeepsSpec)

/-- ITS FALSE NEIGHBOUR: 'it returns false'. Refute it at one input. -/
def homeKeepsWrong : ChangeSpec := { name := "homeKeeps", fn := fun _ => fun
  | [d1, d2] => { results := [.lit (.bool false)], args := [d1, d2] }
  | _ => none }
def HomeKeepsWrongFalsely : Prop := homeKeepsRow.holds Try.pinned (OpenSpec.ofChange homeKeepsWrong)

/-- 'carousellaw14.TableNames': WHATEVER THE INPUT: true; the input reads as it did. -/
def tableNamesSpec : ChangeSpec := { name := "tableNames", fn := fun _ => fun
  | [d] => { results := [.lit (.bool true)], args := [d] }
  | _ => none }
def tableNamesRow : OpenClaim := { program := "ytbpibiapjangmaa", sum := "3f67bf183d9fdfaab1bc9f88769d66d757e5cadab7ad17d19dfed5433a0dc365", func := "carousel/carousellaw14.TableNames", spec := "tableNames", apart := false }
def TableNamesSaid : Prop := tableNamesRow.holds Try.pinned (OpenSpec.ofChange tableNamesSpec)

/-- ITS FALSE NEIGHBOUR: 'it returns false'. Refute it at one input. -/
def tableNamesWrong : ChangeSpec := { name := "tableNames", fn := fun _ => fun
  | [d] => { results := [.lit (.bool false)], args := [d] }
  | _ => none }
def TableNamesWrongFalsely : Prop := tableNamesRow.holds Try.pinned (OpenSpec.ofChange tableNamesWrong)

/-- 'carousellaw14.TableFresh': WHATEVER THE INPUT: true; the input reads as it did. -/
def tableFreshSpec : ChangeSpec := { name := "tableFresh", fn := fun _ => fun
  | [d1, d2] => { results := [.lit (.bool true)], args := [d1, d2] }
  | _ => none }
def tableFreshRow : OpenClaim := { program := "ytbpibiapjangmaa", sum := "3f67bf183d9fdfaab1bc9f88769d66d757e5cadab7ad17d19dfed5433a0dc365", func := "carousel/carousellaw14.TableFresh", spec := "tableFresh", apart := false }
def TableFreshSaid : Prop := tableFreshRow.holds Try.pinned (OpenSpec.ofChange tableFreshSpec)

/-- ITS FALSE NEIGHBOUR: 'it returns false'. Refute it at one input. -/
def tableFreshWrong : ChangeSpec := { name := "tableFresh", fn := fun _ => fun
  | [d1, d2] => { results := [.lit (.bool false)], args := [d1, d2] }
  | _ => none }
def TableFreshWrongFalsely : Prop := tableFreshRow.holds Try.pinned (OpenSpec.ofChange tableFreshWrong)

/-- 'carousellaw20.LogLast': WHATEVER THE INPUT: true; the input reads as it did. -/
def logLastSpec : ChangeSpec := { name := "logLast", fn := fun _ => fun
  | [d1, d2] => { results := [.lit (.bool true)], args := [d1, d2] }
  | _ => none }
def logLastRow : OpenClaim := { program := "ytbpibiapjangmaa", sum := "3f67bf183d9fdfaab1bc9f88769d66d757e5cadab7ad17d19dfed5433a0dc365", func := "carousel/carousellaw20.LogLast", spec := "logLast", unfollowed := true, recurses := true, apart := false }
def LogLastSaid : Prop := logLastRow.holds Try.pinned (OpenSpec.ofChange logLastSpec)

/-- ITS FALSE NEIGHBOUR: 'it returns false'. Refute it at one input. -/
def logLastWrong : ChangeSpec := { name := "logLast", fn := fun _ => fun
  | [d1, d2] => { results := [.lit (.bool false)], args := [d1, d2] }
  | _ => none }
def LogLastWrongFalsely : Prop := logLastRow.holds Try.pinned (OpenSpec.ofChange logLastWrong)

/-- 'carousellaw17.HomeNobody': WHATEVER THE INPUT: true; the input reads as it did. -/
def homeNobodySpec : ChangeSpec := { name := "homeNobody", fn := fun _ => fun
  | [d1, d2] => { results := [.lit (.bool true)], args := [d1, d2] }
  | _ => none }
def homeNobodyRow : OpenClaim := { program := "ytbpibiapjangmaa", sum := "3f67bf183d9fdfaab1bc9f88769d66d757e5cadab7ad17d19dfed5433a0dc365", func := "carousel/carousellaw17.HomeNobody", spec := "homeNobody", apart := false }
def HomeNobodySaid : Prop := homeNobodyRow.holds Try.pinned (OpenSpec.ofChange homeNobodySpec)

/-- ITS FALSE NEIGHBOUR: 'it returns false'. Refute it at one input. -/
def homeNobodyWrong : ChangeSpec := { name := "homeNobody", fn := fun _ => fun
  | [d1, d2] => { results := [.lit (.bool false)], args := [d1, d2] }
  | _ => none }
def HomeNobodyWrongFalsely : Prop := homeNobodyRow.holds Try.pinned (OpenSpec.ofChange homeNobodyWrong)

/-- 'carousellaw20.LogPlays': WHATEVER THE INPUT: true; the input reads as it did. -/
def logPlaysSpec : ChangeSpec := { name := "logPlays", fn := fun _ => fun
  | [d1, d2, d3, d4] => { results := [.lit (.bool true)], args := [d1, d2, d3, d4] }
  | _ => none }
def logPlaysRow : OpenClaim := { program := "ytbpibiapjangmaa", sum := "3f67bf183d9fdfaab1bc9f88769d66d757e5cadab7ad17d19dfed5433a0dc365", func := "carousel/carousellaw20.LogPlays", spec := "logPlays", unfollowed := true, recurses := true, apart := false }
def LogPlaysSaid : Prop := logPlaysRow.holds Try.pinned (OpenSpec.ofChange logPlaysSpec)

/-- ITS FALSE NEIGHBOUR: 'it returns false'. Refute it at one input. -/
def logPlaysWrong : ChangeSpec := { name := "logPlays", fn := fun _ => fun
  | [d1, d2, d3, d4] => { results := [.lit (.bool false)], args := [d1, d2, d3, d4] }
  | _ => none }
def LogPlaysWrongFalsely : Prop := logPlaysRow.holds Try.pinned (OpenSpec.ofChange logPlaysWrong)

/-- 'carousellaw20.LogNil': WHATEVER THE INPUT: true; the input reads as it did. -/
def logNilSpec : ChangeSpec := { name := "logNil", fn := fun _ => fun
  | [d] => { results := [.lit (.bool true)], args := [d] }
  | _ => none }
def logNilRow : OpenClaim := { program := "ytbpibiapjangmaa", sum := "3f67bf183d9fdfaab1bc9f88769d66d757e5cadab7ad17d19dfed5433a0dc365", func := "carousel/carousellaw20.LogNil", spec := "logNil", unfollowed := true, recurses := true, apart := false }
def LogNilSaid : Prop := logNilRow.holds Try.pinned (OpenSpec.ofChange logNilSpec)

/-- ITS FALSE NEIGHBOUR: 'it returns false'. Refute it at one input. -/
def logNilWrong : ChangeSpec := { name := "logNil", fn := fun _ => fun
  | [d] => { results := [.lit (.bool false)], args := [d] }
  | _ => none }
def LogNilWrongFalsely : Prop := logNilRow.holds Try.pinned (OpenSpec.ofChange logNilWrong)

/-- 'carousellaw14.TableLoads': WHATEVER THE INPUT: true; the input reads as it did. -/
def tableLoadsSpec : ChangeSpec := { name := "tableLoads", fn := fun _ => fun
  | [d1, d2, d3] => { results := [.lit (.bool true)], args := [d1, d2, d3] }
  | _ => none }
def tableLoadsRow : OpenClaim := { program := "ytbpibiapjangmaa", sum := "3f67bf183d9fdfaab1bc9f88769d66d757e5cadab7ad17d19dfed5433a0dc365", func := "carousel/carousellaw14.TableLoads", spec := "tableLoads", apart := false }
def TableLoadsSaid : Prop := tableLoadsRow.holds Try.pinned (OpenSpec.ofChange tableLoadsSpec)

/-- ITS FALSE NEIGHBOUR: 'it returns false'. Refute it at one input. -/
def tableLoadsWrong : ChangeSpec := { name := "tableLoads", fn := fun _ => fun
  | [d1, d2, d3] => { results := [.lit (.bool false)], args := [d1, d2, d3] }
  | _ => none }
def TableLoadsWrongFalsely : Prop := tableLoadsRow.holds Try.pinned (OpenSpec.ofChange tableLoadsWrong)

/-- 'carousellaw14.TablePlays': WHATEVER THE INPUT: true; the input reads as it did. -/
def tablePlaysSpec : ChangeSpec := { name := "tablePlays", fn := fun _ => fun
  | [d] => { results := [.lit (.bool true)], args := [d] }
  | _ => none }
def tablePlaysRow : OpenClaim := { program := "ytbpibiapjangmaa", sum := "3f67bf183d9fdfaab1bc9f88769d66d757e5cadab7ad17d19dfed5433a0dc365", func := "carousel/carousellaw14.TablePlays", spec := "tablePlays", apart := false }
def TablePlaysSaid : Prop := tablePlaysRow.holds Try.pinned (OpenSpec.ofChange tablePlaysSpec)

/-- ITS FALSE NEIGHBOUR: 'it returns false'. Refute it at one input. -/
def tablePlaysWrong : ChangeSpec := { name := "tablePlays", fn := fun _ => fun
  | [d] => { results := [.lit (.bool false)], args := [d] }
  | _ => none }
def TablePlaysWrongFalsely : Prop := tablePlaysRow.holds Try.pinned (OpenSpec.ofChange tablePlaysWrong)

/- THE SECOND FORM. 'bulk': how many values and letters a reading holds, each counted each time it is reached (what is shared counts as often as it is met; a slice's spare places count too). A statement '..UptoSaid' is the law's where the arguments, and the package variables that the reading takes, are together of bulk at most 1048576: NARROWER than '..Said'. Prove '..Said' where nothing that the law and all that it calls make is longer than what came in: it says more and counts as full. Else prove '..UptoSaid'. A law counts once. -/
mutual
def uptoBulk {H : Type} : DataW H → Nat
  | .lit (.string bytes) => bytes.length + 1
  | .lit _ => 1
  | .nil => 1
  | .ptr d => uptoBulk d + 1
  | .slice elems spare => uptoBulkAll elems + uptoBulkAll spare + 1
  | .agg parts => uptoBulkAll parts + 1
  | .iface _ d => uptoBulk d + 1
  | .map entries => uptoBulkEntries entries + 1
  | .held _ => 1
def uptoBulkAll {H : Type} : List (DataW H) → Nat
  | [] => 0
  | d :: r => uptoBulk d + uptoBulkAll r
def uptoBulkEntries {H : Type} : List (Lit × DataW H) → Nat
  | [] => 0
  | x :: r => uptoBulkEntry x + uptoBulkEntries r
def uptoBulkEntry {H : Type} : Lit × DataW H → Nat
  | (.string bytes, d) => bytes.length + uptoBulk d + 1
  | (_, d) => uptoBulk d + 1
 end
def uptoSmall : (H : Type) → List (DataW H) → Bool := fun _ ds => decide (uptoBulkAll ds ≤ 1048576)
def OpenSpec.upto (s : _root_.Go.ChangeSpec) : _root_.Go.OpenSpec := { _root_.Go.OpenSpec.ofChange s with cond := some uptoSmall }

/-- 'carousellaw17.HomeMod', WHERE WHAT IT READS IS OF BULK AT MOST 1048576: true; the input reads as it did. -/
def homeModUptoRow : OpenClaim := { program := "ytbpibiapjangmaa", sum := "3f67bf183d9fdfaab1bc9f88769d66d757e5cadab7ad17d19dfed5433a0dc365", func := "carousel/carousellaw17.HomeMod", spec := "homeMod", apart := false, narrowed := true }
def HomeModUptoSaid : Prop := homeModUptoRow.holds Try.pinned (OpenSpec.upto homeModSpec)

/-- 'carousellaw17.HomeKeeps', WHERE WHAT IT READS IS OF BULK AT MOST 1048576: true; the input reads as it did. -/
def homeKeepsUptoRow : OpenClaim := { program := "ytbpibiapjangmaa", sum := "3f67bf183d9fdfaab1bc9f88769d66d757e5cadab7ad17d19dfed5433a0dc365", func := "carousel/carousellaw17.HomeKeeps", spec := "homeKeeps", apart := false, narrowed := true }
def HomeKeepsUptoSaid : Prop := homeKeepsUptoRow.holds Try.pinned (OpenSpec.upto homeKeepsSpec)

/-- 'carousellaw14.TableNames', WHERE WHAT IT READS IS OF BULK AT MOST 1048576: true; the input reads as it did. -/
def tableNamesUptoRow : OpenClaim := { program := "ytbpibiapjangmaa", sum := "3f67bf183d9fdfaab1bc9f88769d66d757e5cadab7ad17d19dfed5433a0dc365", func := "carousel/carousellaw14.TableNames", spec := "tableNames", apart := false, narrowed := true }
def TableNamesUptoSaid : Prop := tableNamesUptoRow.holds Try.pinned (OpenSpec.upto tableNamesSpec)

/-- 'carousellaw14.TableFresh', WHERE WHAT IT READS IS OF BULK AT MOST 1048576: true; the input reads as it did. -/
def tableFreshUptoRow : OpenClaim := { program := "ytbpibiapjangmaa", sum := "3f67bf183d9fdfaab1bc9f88769d66d757e5cadab7ad17d19dfed5433a0dc365", func := "carousel/carousellaw14.TableFresh", spec := "tableFresh", apart := false, narrowed := true }
def TableFreshUptoSaid : Prop := tableFreshUptoRow.holds Try.pinned (OpenSpec.upto tableFreshSpec)

/-- 'carousellaw20.LogLast', WHERE WHAT IT READS IS OF BULK AT MOST 1048576: true; the input reads as it did. -/
def logLastUptoRow : OpenClaim := { program := "ytbpibiapjangmaa", sum := "3f67bf183d9fdfaab1bc9f88769d66d757e5cadab7ad17d19dfed5433a0dc365", func := "carousel/carousellaw20.LogLast", spec := "logLast", unfollowed := true, recurses := true, apart := false, narrowed := true }
def LogLastUptoSaid : Prop := logLastUptoRow.holds Try.pinned (OpenSpec.upto logLastSpec)

/-- 'carousellaw17.HomeNobody', WHERE WHAT IT READS IS OF BULK AT MOST 1048576: true; the input reads as it did. -/
def homeNobodyUptoRow : OpenClaim := { program := "ytbpibiapjangmaa", sum := "3f67bf183d9fdfaab1bc9f88769d66d757e5cadab7ad17d19dfed5433a0dc365", func := "carousel/carousellaw17.HomeNobody", spec := "homeNobody", apart := false, narrowed := true }
def HomeNobodyUptoSaid : Prop := homeNobodyUptoRow.holds Try.pinned (OpenSpec.upto homeNobodySpec)

/-- 'carousellaw20.LogPlays', WHERE WHAT IT READS IS OF BULK AT MOST 1048576: true; the input reads as it did. -/
def logPlaysUptoRow : OpenClaim := { program := "ytbpibiapjangmaa", sum := "3f67bf183d9fdfaab1bc9f88769d66d757e5cadab7ad17d19dfed5433a0dc365", func := "carousel/carousellaw20.LogPlays", spec := "logPlays", unfollowed := true, recurses := true, apart := false, narrowed := true }
def LogPlaysUptoSaid : Prop := logPlaysUptoRow.holds Try.pinned (OpenSpec.upto logPlaysSpec)

/-- 'carousellaw20.LogNil', WHERE WHAT IT READS IS OF BULK AT MOST 1048576: true; the input reads as it did. -/
def logNilUptoRow : OpenClaim := { program := "ytbpibiapjangmaa", sum := "3f67bf183d9fdfaab1bc9f88769d66d757e5cadab7ad17d19dfed5433a0dc365", func := "carousel/carousellaw20.LogNil", spec := "logNil", unfollowed := true, recurses := true, apart := false, narrowed := true }
def LogNilUptoSaid : Prop := logNilUptoRow.holds Try.pinned (OpenSpec.upto logNilSpec)

/-- 'carousellaw14.TableLoads', WHERE WHAT IT READS IS OF BULK AT MOST 1048576: true; the input reads as it did. -/
def tableLoadsUptoRow : OpenClaim := { program := "ytbpibiapjangmaa", sum := "3f67bf183d9fdfaab1bc9f88769d66d757e5cadab7ad17d19dfed5433a0dc365", func := "carousel/carousellaw14.TableLoads", spec := "tableLoads", apart := false, narrowed := true }
def TableLoadsUptoSaid : Prop := tableLoadsUptoRow.holds Try.pinned (OpenSpec.upto tableLoadsSpec)

/-- 'carousellaw14.TablePlays', WHERE WHAT IT READS IS OF BULK AT MOST 1048576: true; the input reads as it did. -/
def tablePlaysUptoRow : OpenClaim := { program := "ytbpibiapjangmaa", sum := "3f67bf183d9fdfaab1bc9f88769d66d757e5cadab7ad17d19dfed5433a0dc365", func := "carousel/carousellaw14.TablePlays", spec := "tablePlays", apart := false, narrowed := true }
def TablePlaysUptoSaid : Prop := tablePlaysUptoRow.holds Try.pinned (OpenSpec.upto tablePlaysSpec)

end Rows
end Go.Proofs.Ytbpibiapjangmaa
