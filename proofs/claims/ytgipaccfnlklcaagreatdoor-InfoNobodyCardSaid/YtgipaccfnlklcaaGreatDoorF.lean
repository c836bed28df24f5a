/- Closed facts of the program's table, each by itself (together they are too much for the kernel). -/
import Derived.Test.YtgipaccfnlklcaaGreatDoorLC
import Derived.Test.YtgipaccfnlklcaaGreatDoorRows
import Derived.WalkKit
import Derived.ProofKit
import Derived.OpenShut
import Derived.JoinedCond
import Derived.ClosedOfChecked
import Derived.Test.YtgipaccfnlklcaaGreatDoorc
namespace Go.Proofs.YtgipaccfnlklcaaGreatDoor.facts
open Go.L Go.ClosedOfChecked
set_option maxRecDepth 100000

theorem hty : Tryz.checked.prog.types = Tryz.checked.src.types := by kernel_rfl
theorem rest : (Tryz.prog.globals.all (fun g => decide (g.type < Tryz.prog.types.size)) && Tryz.prog.funcs.all (fun f => f.params.all fun t => decide (t < Tryz.prog.types.size))) = true := by kernel_rfl
theorem spec : AllSpec Tryz.prog := allSpec_of Tryz.checked.wellFormed hty
theorem laid : laidOutB Tryz.prog = true := laidOutB_of spec rest
theorem rowed : mapsRowed Tryz.prog = true := mapsRowed_of spec
theorem sz : Nat.beq Tryz.prog.types.size 401 = true := by kernel_rfl
theorem z0 : ((List.range' 0 100).all fun t => match Tryz.prog.underlying t with | some (.slice e) => decide (0 < Tryz.prog.cellsOf e) | _ => true) = true := by kernel_rfl
theorem z1 : ((List.range' 100 100).all fun t => match Tryz.prog.underlying t with | some (.slice e) => decide (0 < Tryz.prog.cellsOf e) | _ => true) = true := by kernel_rfl
theorem z2 : ((List.range' 200 100).all fun t => match Tryz.prog.underlying t with | some (.slice e) => decide (0 < Tryz.prog.cellsOf e) | _ => true) = true := by kernel_rfl
theorem z3 : ((List.range' 300 100).all fun t => match Tryz.prog.underlying t with | some (.slice e) => decide (0 < Tryz.prog.cellsOf e) | _ => true) = true := by kernel_rfl
theorem z4 : ((List.range' 400 1).all fun t => match Tryz.prog.underlying t with | some (.slice e) => decide (0 < Tryz.prog.cellsOf e) | _ => true) = true := by kernel_rfl
theorem hz : ((List.range Tryz.prog.types.size).all fun t => match Tryz.prog.underlying t with | some (.slice e) => decide (0 < Tryz.prog.cellsOf e) | _ => true) = true := by
  have e : Tryz.prog.types.size = 401 := Nat.eq_of_beq_eq_true sz
  rw [List.all_eq_true]
  intro i hi
  have hi := List.mem_range.1 hi
  rw [e] at hi
  by_cases h0 : i < 100
  · exact List.all_eq_true.1 z0 i (List.mem_range'_1.2 ⟨by omega, by omega⟩)
  by_cases h1 : i < 200
  · exact List.all_eq_true.1 z1 i (List.mem_range'_1.2 ⟨by omega, by omega⟩)
  by_cases h2 : i < 300
  · exact List.all_eq_true.1 z2 i (List.mem_range'_1.2 ⟨by omega, by omega⟩)
  by_cases h3 : i < 400
  · exact List.all_eq_true.1 z3 i (List.mem_range'_1.2 ⟨by omega, by omega⟩)
  exact List.all_eq_true.1 z4 i (List.mem_range'_1.2 ⟨by omega, by omega⟩)

theorem stopsHeard : Tryz.prog.stopsHeard = true := by kernel_rfl
theorem mayEnter : Tryz.prog.mayEnter = true := by kernel_rfl
theorem lifts : (Rows.infoNobodyRow.lifted == Tryz.prog.liftsFinal) = true := by kernel_rfl
theorem make : (Tryz.prog.make == some Rows.infoNobodyRow.make) = true := by kernel_rfl
theorem stops : (Tryz.prog.stops == []) = true := by kernel_rfl
theorem stopKnobs : (Tryz.prog.stopKnobs == []) = true := by kernel_rfl
theorem plain : (Rows.infoNobodyRow.plainKeys == Tryz.prog.plainKeys) = true := by kernel_rfl
theorem inPlace : (Rows.infoNobodyRow.inPlace == Tryz.prog.inPlace 3) = true := by
  unfold Go.Program.inPlace
  rw [closureI]
  kernel_rfl
theorem unf : Tryz.prog.unfollowed 3 = true := by
  unfold Go.Program.unfollowed
  rw [closureI]
  kernel_rfl
theorem unfollowed : (Rows.infoNobodyRow.unfollowed == Tryz.prog.unfollowed 3) = true := by rw [unf]; rfl
theorem recurses : (Rows.infoNobodyRow.recurses == Tryz.prog.recurses 3) = true := by
  unfold Go.Program.recurses
  rw [unf]
  rfl
theorem named : (Rows.infoNobodyRow.named == Tryz.prog.varsNamed 3) = true := by
  unfold Go.Program.varsNamed
  rw [closureI]
  kernel_rfl
theorem found : Tryz.prog.funcNamed Rows.infoNobodyRow.func = some 3 := by kernel_rfl

theorem closed : joinedFacts Tryz.prog 3 Tryz.f3 Rows.infoNobodySpec Rows.infoNobodyRow = true := by
  unfold joinedFacts
  simp only [Bool.and_eq_true]
  repeat' apply And.intro
  all_goals first
    | with_reducible exact laid
    | with_reducible exact rowed
    | with_reducible exact stopsHeard
    | with_reducible exact mayEnter
    | with_reducible exact lifts
    | with_reducible exact make
    | with_reducible exact stops
    | with_reducible exact stopKnobs
    | with_reducible exact plain
    | with_reducible exact inPlace
    | with_reducible exact unfollowed
    | with_reducible exact recurses
    | with_reducible exact named
    | kernel_rfl

end Go.Proofs.YtgipaccfnlklcaaGreatDoor.facts
