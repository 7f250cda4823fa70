/-
sort.SliceStable at one element, at the program; the laying of it (sl8) was written by lay-plain.mjs.
-/
import Derived.Shelf.GgSortMore.Stable
import Derived.Ground.GgtProg
import Derived.Deep.DeepMust
import Derived.Outline
import Derived.Test.YtlpmjmanmncmnaaR1XH
set_option linter.unusedSimpArgs false
set_option linter.unusedVariables false
namespace Go.Proofs.Ytlpmjmanmncmnaa.Tab
open Go.RowKit Go.Shelf Go.Lib Go.Sort Go.Proofs.YtlpmjmanmncmnaaW.PrintWords Go.Proofs.Ytlpmjmanmncmnaa.Fr
def sl8_ren : Go.Shelf.Ren := ⟨fun | 8 => 56 | 13 => 71 | 14 => 72 | 16 => 74 | 15 => 73 | 29 => 88 | 30 => 89 | 42 => 90 | 49 => 91 | n => n, fun | 20 => 20 | 26 => 118 | 36 => 147 | 0 => 0 | 38 => 137 | 42 => 152 | 3 => 3 | 4 => 4 | 47 => 122 | 17 => 17 | 33 => 144 | 34 => 145 | 89 => 176 | 12 => 12 | 56 => 168 | 82 => 169 | 5 => 5 | 83 => 170 | 84 => 171 | 85 => 172 | 86 => 173 | 87 => 174 | n => n, fun | n => n⟩
theorem sl8 : Go.Proofs.LaysGt.n8 Try.prog sl8_ren := {
  mixed := by kernel_rfl
  f8 := Try.func56.trans (congrArg some (by kernel_rfl))
  f13 := Try.func71.trans (congrArg some (by kernel_rfl))
  f14 := Try.func72.trans (congrArg some (by kernel_rfl))
  f15 := Try.func73.trans (congrArg some (by kernel_rfl))
  f16 := Try.func74.trans (congrArg some (by kernel_rfl))
  f29 := Try.func88.trans (congrArg some (by kernel_rfl))
  f30 := Try.func89.trans (congrArg some (by kernel_rfl))
  f42 := Try.func90.trans (congrArg some (by kernel_rfl))
  f49 := Try.func91.trans (congrArg some (by kernel_rfl))
  t0 := Try.underlying0
  a0 := Try.isAgg0
  z0 := Try.sizeOf0
  v0 := Try.zeroValue0
  i0 := by kernel_rfl
  t3 := Try.underlying3
  a3 := Try.isAgg3
  z3 := Try.sizeOf3
  v3 := Try.zeroValue3
  i3 := by kernel_rfl
  t4 := Try.underlying4
  a4 := Try.isAgg4
  z4 := Try.sizeOf4
  v4 := Try.zeroValue4
  i4 := by kernel_rfl
  t5 := Try.underlying5
  a5 := Try.isAgg5
  z5 := Try.sizeOf5
  v5 := Try.zeroValue5
  i5 := by kernel_rfl
  t12 := Try.underlying12
  a12 := Try.isAgg12
  z12 := Try.sizeOf12
  v12 := Try.zeroValue12
  i12 := by kernel_rfl
  t17 := Try.underlying17
  a17 := Try.isAgg17
  z17 := Try.sizeOf17
  v17 := Try.zeroValue17
  i17 := by kernel_rfl
  t20 := Try.underlying20
  a20 := Try.isAgg20
  z20 := Try.sizeOf20
  v20 := Try.zeroValue20
  i20 := by kernel_rfl
  t26 := Try.underlying118
  a26 := Try.isAgg118
  z26 := Try.sizeOf118
  v26 := Try.zeroValue118
  i26 := by kernel_rfl
  t33 := Try.underlying144
  a33 := Try.isAgg144
  z33 := Try.sizeOf144
  v33 := Try.zeroValue144
  i33 := by kernel_rfl
  t34 := Try.underlying145
  a34 := Try.isAgg145
  z34 := Try.sizeOf145
  v34 := Try.zeroValue145
  i34 := by kernel_rfl
  t36 := Try.underlying147
  a36 := Try.isAgg147
  z36 := Try.sizeOf147
  v36 := Try.zeroValue147
  i36 := by kernel_rfl
  t38 := Try.underlying137
  a38 := Try.isAgg137
  z38 := Try.sizeOf137
  v38 := Try.zeroValue137
  i38 := by kernel_rfl
  t42 := Try.underlying152
  a42 := Try.isAgg152
  z42 := Try.sizeOf152
  v42 := Try.zeroValue152
  i42 := by kernel_rfl
  t47 := Try.underlying122
  a47 := Try.isAgg122
  z47 := Try.sizeOf122
  v47 := Try.zeroValue122
  i47 := by kernel_rfl
  t56 := Try.underlying168
  a56 := Try.isAgg168
  z56 := Try.sizeOf168
  v56 := Try.zeroValue168
  i56 := by kernel_rfl
  t82 := Try.underlying169
  a82 := Try.isAgg169
  z82 := Try.sizeOf169
  v82 := Try.zeroValue169
  i82 := by kernel_rfl
  t83 := Try.underlying170
  a83 := Try.isAgg170
  z83 := Try.sizeOf170
  v83 := Try.zeroValue170
  i83 := by kernel_rfl
  t84 := Try.underlying171
  a84 := Try.isAgg171
  z84 := Try.sizeOf171
  v84 := Try.zeroValue171
  i84 := by kernel_rfl
  t85 := Try.underlying172
  a85 := Try.isAgg172
  z85 := Try.sizeOf172
  v85 := Try.zeroValue172
  i85 := by kernel_rfl
  t86 := Try.underlying173
  a86 := Try.isAgg173
  z86 := Try.sizeOf173
  v86 := Try.zeroValue173
  i86 := by kernel_rfl
  t87 := Try.underlying174
  a87 := Try.isAgg174
  z87 := Try.sizeOf174
  v87 := Try.zeroValue174
  i87 := by kernel_rfl
  t89 := Try.underlying176
  a89 := Try.isAgg176
  z89 := Try.sizeOf176
  v89 := Try.zeroValue176
  i89 := by kernel_rfl }
noncomputable def siT : TypeInfo := (Try.prog.info? 39).get (by kernel_rfl)
noncomputable def siE : TypeInfo := (Try.prog.info? 3).get (by kernel_rfl)
theorem siK1 : swapperK 1 siE 2 = 2 := by rfl
/-- What it leaves: the world, and blocks behind it. -/
theorem sort_one (p : Option Addr) (c : Nat) (lf : Fn) (la lb : Array Value) (w : World) :
    Calls Try.prog 56 #[.iface 39 (.slice p 1 c), .func lf la lb] w fun e w' => e = .returned (.tuple #[]) ∧ ∃ os, w' = grow w os :=
  Any.sort_SliceStable_tiny sl8 39 3 siT siE (by kernel_rfl) (by kernel_rfl) (by kernel_rfl) (by kernel_rfl) 2 (fun _ => by kernel_rfl) p 1 c (by omega) ((Try.prog.funcs.findIdx? (·.name == "internal/reflectlite" ++ ".Swapper$" ++ toString 2)).getD 0) (by rw [siK1]; kernel_rfl) lf la lb w
theorem grow_fr (w : World) (os : Array Obj) : Fr (fun _ => False) w (grow w os) :=
  ⟨rfl, rfl, rfl, by rw [size_grow]; omega, fun i hi _ => by show (w.heap ++ os)[i]? = _; rw [Array.getElem?_append_left hi]⟩
end Go.Proofs.Ytlpmjmanmncmnaa.Tab
