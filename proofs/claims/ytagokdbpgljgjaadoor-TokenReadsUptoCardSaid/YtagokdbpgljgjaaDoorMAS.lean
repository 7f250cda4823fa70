/-
What strconv.Itoa answers, from a world on that holds its table.
-/
import Derived.Lib.AppendIntMem
import Derived.Lib.ItoaLen
import Derived.Test.YtagokdbpgljgjaaDoorMAR
import Derived.Test.YtagokdbpgljgjaaDoorMAK
import Derived.Test.YtagokdbpgljgjaaDoorMAL
set_option linter.unusedSimpArgs false
set_option linter.unusedVariables false
namespace Go.Proofs.YtagokdbpgljgjaaDoor.Tok
open Go.RowKit Go.Proofs.YtagokdbpgljgjaaDoorW.PrintWords Go.Proofs.YtagokdbpgljgjaaDoorW.PrintLast Go.Proofs.YtagokdbpgljgjaaDoorW.PrintMore Go.Proofs.YtagokdbpgljgjaaDoor.Fr Go.Proofs.YtagokdbpgljgjaaDoor.PGramFirsts Go.Proofs.YtagokdbpgljgjaaDoor.TextSet Go.Proofs.YtagokdbpgljgjaaDoor.Bld Go.Proofs.YtagokdbpgljgjaaDoor.Utf
theorem grew_fr (w : World) (k : Nat) (os : Array Obj) : Fr (fun _ => False) w (Go.Sort.grow (w.drewN k) os) :=
  ⟨rfl, rfl, rfl, Lib.size_grow w k os, fun i hi _ => by show (w.heap ++ os)[i]? = _; rw [Array.getElem?_append_left hi]⟩
/-- The table of powers of ten stands. -/
def Pow (w : World) : Prop := Lib.TabIs Tryd.prog w "internal/strconv.uint64pow10" .u64 Lib.pow10Tab
theorem Pow.go {w W : World} (h : Pow w) (hF : Fr (fun _ => False) w W) : Pow W := Lib.tabBelow_of_tabIs h W hF.to_below
theorem itc_of {w : World} (h : Pow w) : ItC w := by
  intro W hF n hn
  refine (Tryd.strconv_Itoa (n : Int) (by omega) (by omega) W (h.go hF)).mono ?_
  rintro e w' ⟨rfl, k, os, rfl⟩
  exact ⟨rfl, grew_fr W k os⟩
theorem itB_size {n : Nat} (h : n ≤ 9223372036854775807) : (itB n).size ≤ 21 := by
  have := Lib.itoa_length_le (n : Int) (by omega) (by omega)
  show ((Lib.itoa (n : Int)).toArray).size ≤ 21
  simpa using this
end Go.Proofs.YtagokdbpgljgjaaDoor.Tok
/-
A row's lines in general, by the document: quoinref07.Lines, walked where the row may be.
-/
set_option linter.unusedSimpArgs false
set_option linter.unusedVariables false
namespace Go.Proofs.YtagokdbpgljgjaaDoor.Tok
open Go.RowKit Go.Proofs.YtagokdbpgljgjaaDoorW.PrintWords Go.Proofs.YtagokdbpgljgjaaDoorW.PrintLast Go.Proofs.YtagokdbpgljgjaaDoorW.PrintMore Go.Proofs.YtagokdbpgljgjaaDoor.Fr Go.Proofs.YtagokdbpgljgjaaDoor.PGramFirsts Go.Proofs.YtagokdbpgljgjaaDoor.TextSet Go.Proofs.YtagokdbpgljgjaaDoor.Bld Go.Proofs.YtagokdbpgljgjaaDoor.Utf
/-- Is a token's text short enough to be quoted? -/
def fitT (t : S55) : Bool := decide (t.f2 - t.f1 ≤ 4096)
end Go.Proofs.YtagokdbpgljgjaaDoor.Tok
/-
A number in its one form: token.number, walked at a small number's digits.
-/
set_option linter.unusedSimpArgs false
set_option linter.unusedVariables false
namespace Go.Proofs.YtagokdbpgljgjaaDoor.Tok
open Go.RowKit Go.Proofs.YtagokdbpgljgjaaDoorW.PrintWords Go.Proofs.YtagokdbpgljgjaaDoorW.PrintLast Go.Proofs.YtagokdbpgljgjaaDoorW.PrintMore Go.Proofs.YtagokdbpgljgjaaDoor.Fr Go.Proofs.YtagokdbpgljgjaaDoor.PGramFirsts Go.Proofs.YtagokdbpgljgjaaDoor.TextSet Go.Proofs.YtagokdbpgljgjaaDoor.Bld
theorem atoi_dec (n : Nat) (h : n < 100) : Lib.atoi (dec n).data.toList = some (n : Int) := by
  have : ∀ k : Fin 100, Lib.atoi (dec k.val).data.toList = some (k.val : Int) := by decide +kernel
  exact this ⟨n, h⟩
set_option maxRecDepth 100000 in
theorem number_calls (w : World) (n : Nat) (h : n < 100) :
    Calls Tryd.prog 42 #[.string (dec n)] w fun e w' => e = .returned (.tuple #[.int .i64 n, .bool true]) ∧ Fr (fun _ => False) w w' := by
  have hd := dec_size n h
  have ha := Aside0.mk (atoi_dec n h)
  have hi := Aside0.mk (fun W => Tryd.strconv_Itoa_small n h W)
  have hX : (⟨(Lib.decDigits n).toArray⟩ : ByteArray) = dec n := rfl
  rw [hX] at hi
  clear hX
  generalize dec n = x at hd ha hi ⊢
  go_enter Tryd.func42, Tryd.ntmps42
  go_wp2_with (fail)
  refine (Tryd.strconv_Atoi x n (by omega) ha.out w).mono ?_
  rintro e W1 ⟨rfl, t, hW⟩
  have HF := Aside0.mk (show Fr (fun _ => False) w W1 from by rw [hW]; exact Fr.of_below (Lib.bytesWorld_below w 5 t))
  clear hW
  go_wp2_with (fail)
  refine (hi.out W1).mono ?_
  rintro e W2 ⟨rfl, rfl⟩
  go_wp2_with (fail)
  go_ret2
  exact ⟨rfl, HF.out⟩
end Go.Proofs.YtagokdbpgljgjaaDoor.Tok
