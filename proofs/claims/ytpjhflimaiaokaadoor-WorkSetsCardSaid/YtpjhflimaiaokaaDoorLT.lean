/-
The library's tables that the rows of this seat list: what the rows' condition gives, and a world that holds them.
-/
import Derived.Test.YtpjhflimaiaokaaDoorCards
import Derived.Test.YtpjhflimaiaokaaDoorTie
import Derived.Test.YtpjhflimaiaokaaDoorOp
import Derived.Test.YtpjhflimaiaokaaDoorKB
import Derived.Deep.DeepHandedRow
import Derived.Lib.LaidTab
namespace Go.Proofs.YtpjhflimaiaokaaDoor.Tables
open Go.ChangeShapes Go.WideShapes Go.ChangeAt Go.RowKit Go.Proofs.YtpjhflimaiaokaaDoorW.PrintWords Go.Proofs.YtpjhflimaiaokaaDoorW.PrintLast Go.Proofs.YtpjhflimaiaokaaDoorW.PrintMore Go.Proofs.YtpjhflimaiaokaaDoor.SetW Go.Proofs.YtpjhflimaiaokaaDoor.Op

theorem gTab : Tryd.prog.globalNamed "internal/strconv.uint64pow10" = some 0 := by kernel_rfl
theorem gTabType : (Tryd.prog.globals[0]?).map (·.type) = some 123 := by kernel_rfl
theorem cellsTab : Tryd.prog.cellsOf 123 = 20 := by kernel_rfl
theorem cellsU : Tryd.prog.cellsOf 117 = 1 := by kernel_rfl
theorem laid_tail {P : Program} {w : World} {x : String × DataW Unit} {l : List (String × DataW Unit)} (h : laidMet P (x :: l) w) : laidMet P l w := by
  obtain ⟨ps, ⟨g, t, cs, fuel, p, q, _, _, _, _, hr, rfl⟩, hnd, hall⟩ := h
  exact ⟨q, hr, (List.nodup_append.1 hnd).2.1, fun b off hm => hall b off (List.mem_append_right _ hm)⟩
def laidList : List (String × DataW Unit) := [("math/bits.deBruijn32tab", Rows.laid_math_bits_deBruijn32tab), ("math/bits.deBruijn64tab", Rows.laid_math_bits_deBruijn64tab), ("internal/strconv.uint64pow10", Rows.laid_internal_strconv_uint64pow10)]
theorem powData : (Rows.laid_internal_strconv_uint64pow10 : DataW Unit) = Lib.tabData .u64 Lib.pow10Tab := by kernel_rfl
theorem tab {W : World} (h : laidMetH Tryd.prog laidList W) : SetW.Tab W := by
  have h1 : laidMet Tryd.prog laidList W := h
  have h2 := laid_tail (laid_tail h1)
  rw [powData] at h2
  exact Lib.tabIs_of_head gTab gTabType Tryd.underlying123 Tryd.underlying117 cellsU cellsTab h2
/-- The cells that a datum of integers names. -/
def cellsIn : DataW Unit → Array Value
  | .agg ds => (ds.map fun | .lit (.int k z) => Value.int k z | _ => Value.bool false).toArray
  | _ => #[]
def lay (d : DataW Unit) : Obj → Obj
  | .cells _ t frozen => .cells (cellsIn d) t frozen
  | o => o
/-- A world whose tables are laid. -/
noncomputable def world (os : Os) : World :=
  { World.holding Tryd.prog os ⟨#[], #[], []⟩ with heap := (((World.holding Tryd.prog os ⟨#[], #[], []⟩).heap.modify 0 (lay Rows.laid_internal_strconv_uint64pow10)).modify 1 (lay Rows.laid_math_bits_deBruijn32tab)).modify 2 (lay Rows.laid_math_bits_deBruijn64tab) }
theorem first_lt {W : World} {A : Option Addr} {ys : List Int} (h : kI.C W A ys.length ys) : ∀ ad, A = some ad → 0 < ys.length → ad.block < W.heap.size := by
  intro ad e hp
  obtain ⟨ad', e', hc⟩ := Kd.at_int h 0 (by omega) (by omega)
  rw [e] at e'
  injection e' with e'
  subst e'
  have := World.block_lt_of_cell? W _ hc
  rwa [Fr.add_block] at this
end Go.Proofs.YtpjhflimaiaokaaDoor.Tables
