/- The functions that the law reaches, as plain ones (printed by gen.py). -/
import Derived.Test.YtkhnngghmlpbeaaGreatt1
set_option linter.unusedVariables false
set_option maxRecDepth 100000
namespace Go.Proofs.YtkhnngghmlpbeaaGreat
noncomputable section
open Go.L

/-! ### 147: fair.does -/
def F147 (N : Nat) : V × List V × H → Option (H)
 | (a0, a1, h) =>
 (if (a1).length = 29 then (
 (a1[7]?).bind fun x1 =>
 (slen x1).bind fun n2 =>
 (if (decide (n2 > 0)) = true then (
 none)
 else (
 (L.asInt .i64 a1[0]?).bind fun x3 =>
 (if (x3 == 1) = true then (
 (a1[28]?).bind fun x4 =>
 (slen x4).bind fun n5 =>
 (if (decide (n5 > 0)) = true then (
 (a1[28]?).bind fun x6 =>
 (sidx x6 0 2).bind fun q7 =>
 (L.asStr (rd h q7 0)).bind fun x8 =>
 ((rd h q7 1)).bind fun x9 =>
 Option.bind (α := (Int × Int × H)) (tabC rs205 TB205 [a0, (.agg [(.str x8), x9])] h) fun (x10, x11, h12) =>
 some h12)
 else (
 some h)))
 else (
 (if (x3 == 2) = true then (
 (L.asInt .i64 a1[1]?).bind fun x13 =>
 (L.asInt .i64 a1[2]?).bind fun x14 =>
 (L.asInt .i64 a1[3]?).bind fun x15 =>
 (L.asInt .i64 a1[4]?).bind fun x16 =>
 (a1[7]?).bind fun x17 =>
 Option.bind (α := (Int × Int × Int × H)) (tabC rs206 TB206 [a0, (.int .i64 x13), (.int .i64 x14), (.int .i64 x15), (.int .i64 x16), x17] h) fun (x18, x19, x20, h21) =>
 some h21)
 else (
 (if (x3 == 3) = true then (
 none)
 else (
 (if (x3 == 4) = true then (
 none)
 else (
 (if (x3 == 5) = true then (
 (L.asInt .i64 a1[1]?).bind fun x22 =>
 (L.asInt .i64 a1[8]?).bind fun x23 =>
 Option.bind (α := (Bool × V × V × Int × Int × Int × Int × Int × Int × Int × Int × (Nat × Nat) × ByteArray × Int × Int × V × Int × Int × V × Int × H)) (tabC rs209 TB209 [a0, (.int .i64 x22), (.int .i64 x23)] h) fun (x24, x25, x26, x27, x28, x29, x30, x31, x32, x33, x34, x35, x36, x37, x38, x39, x40, x41, x42, x43, h44) =>
 some h44)
 else (
 none))))))))))))) else none)
abbrev ks147 : List SK := [.one .ref, .blk]
abbrev rs147 : List SK := []
def e147 (N : Nat) : Env := ⟨Tryz.prog, 82, inTab [3, 4], inTab [], natTab [(3, 3), (4, 4), (6, 3), (10, 3), (14, 3), (18, 3), (23, 3), (31, 3), (33, 3), (35, 3), (37, 3), (39, 3), (45, 3), (52, 3), (58, 3), (60, 3), (66, 3), (72, 3), (78, 3)], inTab [], calTab [(205, .full (tabF rs205 TB205)), (206, .full (tabF rs206 TB206)), (209, .full (tabF rs209 TB209))], altTab [], loopTab [], natTab [], inTab [3, 11, 13, 16, 17, 18, 19, 20, 21]⟩
theorem fine147 (N : Nat) : Fine (e147 N) N 147 Tryz.f147 ks147 rs147 (F147 N) :=
  ⟨Tryz.func147, by kernel_rfl, by kernel_rfl, by kernel_rfl, loops_of trivial, by kernel_rfl, by kernel_rfl, fun _ => by kernel_rfl⟩
theorem good147 (N : Nat) : Go.L.Good (e147 N) := good_of ⟨gt205, ⟨gt206, ⟨gt209, trivial⟩⟩⟩
theorem gd147 (N : Nat) : CalOk Tryz.prog 147 (.full (mkFun ks147 rs147 (F147 N))) := mkFun_good (fine147 N) (good147 N)

/-! ### 74: fair.watch).call -/
def L74_1 (N : Nat) : Nat → V × Int × V × V × Int × Int × List V × V × V × V × V × V × V × V × V × V × V × Int × Int × V × H → Option (V × Int × V × V × V × V × V × V × V × V × V × V × V × Int × Int × V × H)
 | 0, _ => none
 | n + 1, (x204, x205, x206, x207, x208, x209, cs210, x211, x212, x213, x214, x215, x216, x217, x218, x219, x220, x221, x222, x223, h224) =>
 (if (decide (x209 < x208)) = true then (
 (sidx x207 x209 2).bind fun q225 =>
 (L.asInt .i64 (rd h224 q225 0)).bind fun x226 =>
 (L.asInt .i64 (rd h224 q225 1)).bind fun x227 =>
 (hmap h224 x206).bind fun es228 =>
 (mlook (.agg [(.int .i64 x226), (.int .i64 x227)]) es228).bind fun q229 =>
 (L.asAgg 2 (some (Option.getD q229 (.agg [(.int .i64 0), (.int .i64 0)])))).bind fun vs230 =>
 (L.asInt .i64 vs230[0]?).bind fun x231 =>
 (L.asInt .i64 vs230[1]?).bind fun x232 =>
 (nck x204).bind fun _ =>
 ((rd h224 (padd x204 2) 0)).bind fun x233 =>
 (hmap h224 x233).bind fun es234 =>
 (mlook (.agg [(.int .i64 x226), (.int .i64 x227)]) es234).bind fun q235 =>
 (L.asAgg 2 (some (Option.getD q235 (.agg [(.int .i64 0), (.int .i64 0)])))).bind fun vs236 =>
 (L.asInt .i64 vs236[0]?).bind fun x237 =>
 (L.asInt .i64 vs236[1]?).bind fun x238 =>
 ((if 0 + 29 ≤ (cs210).length then some (((cs210).drop 0).take 29) else none) : Option (List V)).bind fun cs239 =>
 (F152 N (x204, x226, x227, x237, x238, cs239, x231, x232, (Option.isSome q229), h224)).bind fun h240 =>
 L74_1 N n (x204, x205, x206, x207, x208, (IntKind.i64.wrap (x209 + 1)), cs210, x211, x212, x213, x214, x215, x216, x217, x218, x219, x220, x221, x222, x223, h240))
 else (
 some (x204, x205, x206, x211, x212, x213, x214, x215, x216, x217, x218, x219, x220, x221, x222, x223, h224)))
def L74_2 (N : Nat) : Nat → V × Int × V × V × Int × Int × H → Option (H)
 | 0, _ => none
 | n + 1, (x298, x299, x300, x301, x302, x303, h304) =>
 (if (decide (x303 < x302)) = true then (
 (sidx x301 x303 19).bind fun q305 =>
 (rdN h304 q305 19).bind fun cs306 =>
 (if (cs306).length = 19 then (
 (if 0 + (cs306).length ≤ 19 then (
 (L.asInt .i64 (splice [(.int .i64 0), (.int .i64 0), (.str (ByteArray.mk #[])), (.int .i64 0), (.int .i64 0), (.int .i64 0), (.int .i64 0), (.bool false), (.bool false), (.int .i64 0), (.int .i64 0), (.int .i64 0), .nils, .nils, .nils, .nils, (.int .i64 0), (.int .i64 0), (.int .i64 0)] 0 cs306)[0]?).bind fun x307 =>
 (L.asInt .i64 (splice [(.int .i64 0), (.int .i64 0), (.str (ByteArray.mk #[])), (.int .i64 0), (.int .i64 0), (.int .i64 0), (.int .i64 0), (.bool false), (.bool false), (.int .i64 0), (.int .i64 0), (.int .i64 0), .nils, .nils, .nils, .nils, (.int .i64 0), (.int .i64 0), (.int .i64 0)] 0 cs306)[1]?).bind fun x308 =>
 (hmap h304 x300).bind fun es309 =>
 (mlook (.agg [(.int .i64 x307), (.int .i64 x308)]) es309).bind fun q310 =>
 (L.asAgg 2 (some (Option.getD q310 (.agg [(.int .i64 0), (.int .i64 0)])))).bind fun vs311 =>
 (L.asInt .i64 vs311[0]?).bind fun x312 =>
 (L.asInt .i64 vs311[1]?).bind fun x313 =>
 (nck x298).bind fun _ =>
 ((rd h304 (padd x298 2) 0)).bind fun x314 =>
 (hmap h304 x314).bind fun es315 =>
 (mlook (.agg [(.int .i64 x307), (.int .i64 x308)]) es315).bind fun q316 =>
 (L.asAgg 2 (some (Option.getD q316 (.agg [(.int .i64 0), (.int .i64 0)])))).bind fun vs317 =>
 (L.asInt .i64 vs317[0]?).bind fun x318 =>
 (L.asInt .i64 vs317[1]?).bind fun x319 =>
 (if (Option.isSome q310) = true then (
 some ((!(Option.isSome q316)), h304))
 else (
 some (false, h304))).bind fun (b320, h321) =>
 ((if b320 = true then (
 (nck x298).bind fun _ =>
 ((rd h321 (padd x298 2) 0)).bind fun x322 =>
 (nck x298).bind fun _ =>
 ((rd h321 (padd x298 1) 0)).bind fun x323 =>
 (slen x323).bind fun n324 =>
 (hmapset h321 x322 (.agg [(.int .i64 x307), (.int .i64 x308)]) (.agg [(.int .i64 n324), (.int .i64 x312)])).bind fun h325 =>
 (nck x298).bind fun _ =>
 ((rd h325 (padd x298 1) 0)).bind fun x326 =>
 (happ h325 x326 7 1 [(.int .i64 x307), (.int .i64 x308), (.int .i64 x299), (.int .i64 0), (.int .i64 x313), (.int .i64 0), (.bool false)]).bind fun (v327, h328) =>
 (nck x298).bind fun _ =>
 (ck1 v327).bind fun _ =>
 (wr h328 (padd x298 1) [v327]).bind fun h329 =>
 some (x298, x299, x300, x301, x302, x303, h329))
 else (
 some (x298, x299, x300, x301, x302, x303, h321))) : Option (V × Int × V × V × Int × Int × H)).bind fun (x330, x331, x332, x333, x334, x335, h336) =>
 L74_2 N n (x330, x331, x332, x333, x334, (IntKind.i64.wrap (x335 + 1)), h336)) else none)) else none))
 else (
 some h304))
abbrev ks74 : List SK := [.one .ref, .one (.int .i64), .blk]
abbrev rs74 : List SK := [.one .bool]
def e74 (N : Nat) : Env := ⟨Tryz.prog, 151, inTab [5, 8, 13, 14, 17, 18, 19, 21, 146], inTab [], natTab [(5, 5), (8, 8), (13, 13), (14, 14), (17, 17), (18, 18), (19, 19), (21, 21), (93, 8), (100, 17), (101, 17), (133, 19), (143, 19)], inTab [], calTab [(147, .full (mkFun ks147 rs147 (F147 N))), (148, .gro (mkFun ks148 rs148 (locF true ks148 rs148 (F148 N)))), (149, .full (mkFun ks149 rs149 (F149 N))), (150, .gro (mkFun ks150 rs150 (locF true ks150 rs150 (F150 N)))), (151, .full (mkFun ks151 rs151 (F151 N))), (152, .full (mkFun ks152 rs152 (F152 N)))], altTab [(1638522, [⟨.normal, [0, 1, 9, 94, 95, 96], [.one .ref, .one (.int .i64), .one .ref, .one .ref, .one (.int .i64), .one (.int .i64)], [], []⟩])], loopTab [(13, ⟨⟨.normal, [0, 1, 5, 8, 9, 68, 69, 70], [.one .ref, .one (.int .i64), .lp 5 0, .lp 8 0, .one .ref, .one .ref, .one (.int .i64), .one (.int .i64)], [5, 8], [.blk, .cells [.ref, .ref, .ref, .ref, .ref, .ref, .ref, .ref, .ref, .ref, (.int .i64), (.int .i64), .ref]]⟩, [⟨(.exit 2), [0, 1, 8, 9], [.one .ref, .one (.int .i64), .lp 8 0, .one .ref], [8], [.cells [.ref, .ref, .ref, .ref, .ref, .ref, .ref, .ref, .ref, .ref, (.int .i64), (.int .i64), .ref]]⟩], L74_1 N⟩), (19, ⟨⟨.normal, [0, 1, 9, 94, 95, 96], [.one .ref, .one (.int .i64), .one .ref, .one .ref, .one (.int .i64), .one (.int .i64)], [], []⟩, [⟨(.exit 4), [], [], [], []⟩], L74_2 N⟩)], natTab [(62, 181)], inTab [4]⟩
theorem l74_0 (N : Nat) : ∀ A, (e74 N).lp (lid (loopAt Tryz.f74 1)) = some A → LoopOk (e74 N) N (loopAt Tryz.f74 1) A :=
  loopOk_of (A := ⟨⟨.normal, [0, 1, 5, 8, 9, 68, 69, 70], [.one .ref, .one (.int .i64), .lp 5 0, .lp 8 0, .one .ref, .one .ref, .one (.int .i64), .one (.int .i64)], [5, 8], [.blk, .cells [.ref, .ref, .ref, .ref, .ref, .ref, .ref, .ref, .ref, .ref, (.int .i64), (.int .i64), .ref]]⟩, [⟨(.exit 2), [0, 1, 8, 9], [.one .ref, .one (.int .i64), .lp 8 0, .one .ref], [8], [.cells [.ref, .ref, .ref, .ref, .ref, .ref, .ref, .ref, .ref, .ref, (.int .i64), (.int .i64), .ref]]⟩], L74_1 N⟩) (by kernel_rfl) (fun _ => rfl) (fun _ _ => by kernel_rfl)
theorem l74_1 (N : Nat) : ∀ A, (e74 N).lp (lid (loopAt Tryz.f74 2)) = some A → LoopOk (e74 N) N (loopAt Tryz.f74 2) A :=
  loopOk_of (A := ⟨⟨.normal, [0, 1, 9, 94, 95, 96], [.one .ref, .one (.int .i64), .one .ref, .one .ref, .one (.int .i64), .one (.int .i64)], [], []⟩, [⟨(.exit 4), [], [], [], []⟩], L74_2 N⟩) (by kernel_rfl) (fun _ => rfl) (fun _ _ => by kernel_rfl)
theorem lv74_0 (N : Nat) : ∀ A, (e74 N).lp (lid (loopAt Tryz.f74 0)) = some A → LoopOk (e74 N) N (loopAt Tryz.f74 0) A := fun A h => by
 rw [show (e74 N).lp (lid (loopAt Tryz.f74 0)) = none by kernel_rfl] at h; cases h
theorem fine74 (N : Nat) : FineL (e74 N) N 74 Tryz.f74 ks74 :=
  ⟨Tryz.func74, by kernel_rfl, by kernel_rfl, by kernel_rfl, loops_of ⟨lv74_0 N, ⟨l74_0 N, ⟨l74_1 N, trivial⟩⟩⟩, by kernel_rfl, by kernel_rfl⟩
theorem good74 (N : Nat) : Go.L.Good (e74 N) := good_of ⟨gd147 N, ⟨gl148 N, ⟨gd149 N, ⟨gl150 N, ⟨gd151 N, ⟨gd152 N, trivial⟩⟩⟩⟩⟩⟩
theorem gd74 (N : Nat) : CalOk Tryz.prog 74 (.full (mkFun ks74 rs74 (allF (e74 N) N Tryz.f74 ks74 rs74))) := allF_good (fine74 N) (good74 N)
theorem gl74 (N : Nat) : CalOk Tryz.prog 74 (.full (mkFun ks74 rs74 (locF false ks74 rs74 (allF (e74 N) N Tryz.f74 ks74 rs74)))) := loc_full (gd74 N)


end
end Go.Proofs.YtkhnngghmlpbeaaGreat
