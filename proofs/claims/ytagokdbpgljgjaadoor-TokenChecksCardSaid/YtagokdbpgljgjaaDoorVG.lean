/-
A number in its one form: token.number, walked at a small number's digits.
-/
import Derived.Test.YtagokdbpgljgjaaDoorVF
namespace Go.Proofs.YtagokdbpgljgjaaDoor.Tok
open Go.RowKit Go.Proofs.YtagokdbpgljgjaaDoorW.PrintWords Go.Proofs.YtagokdbpgljgjaaDoorW.PrintLast Go.Proofs.YtagokdbpgljgjaaDoorW.PrintMore Go.Proofs.YtagokdbpgljgjaaDoor.Fr Go.Proofs.YtagokdbpgljgjaaDoor.PGramFirsts Go.Proofs.YtagokdbpgljgjaaDoor.TextSet Go.Proofs.YtagokdbpgljgjaaDoor.Bld

theorem atoi_dec (n : Nat) (h : n < 100) : Lib.atoi (dec n).data.toList = some (n : Int) := by
  have : ∀ k : Fin 100, Lib.atoi (dec k.val).data.toList = some (k.val : Int) := by decide +kernel
  exact this ⟨n, h⟩
set_option maxRecDepth 100000 in
theorem number_calls (w : World) (n : Nat) (h : n < 100) :
    Calls Tryd.prog 42 #[.string (dec n)] w fun e w' => e = .returned (.tuple #[.int .i64 n, .bool true]) ∧ Fr (fun _ => False) w w' := by
  have hd := dec_size n h
  have ha := Aside0.mk (atoi_dec n h)
  have hi := Aside0.mk (fun W => Tryd.strconv_Itoa_small n h W)
  have hX : (⟨(Lib.decDigits n).toArray⟩ : ByteArray) = dec n := rfl
  rw [hX] at hi
  clear hX
  generalize dec n = x at hd ha hi ⊢
  go_enter Tryd.func42, Tryd.ntmps42
  go_wp2_with (fail)
  refine (Tryd.strconv_Atoi x n (by omega) ha.out w).mono ?_
  rintro e W1 ⟨rfl, t, hW⟩
  have HF := Aside0.mk (show Fr (fun _ => False) w W1 from by rw [hW]; exact Fr.of_below (Lib.bytesWorld_below w 5 t))
  clear hW
  go_wp2_with (fail)
  refine (hi.out W1).mono ?_
  rintro e W2 ⟨rfl, rfl⟩
  go_wp2_with (fail)
  go_ret2
  exact ⟨rfl, HF.out⟩
end Go.Proofs.YtagokdbpgljgjaaDoor.Tok
