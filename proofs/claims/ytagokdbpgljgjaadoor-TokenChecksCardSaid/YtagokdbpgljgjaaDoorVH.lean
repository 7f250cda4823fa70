/-
The plain facts of alive's row.
-/
import Derived.Test.YtagokdbpgljgjaaDoorVG
import Derived.Test.YtagokdbpgljgjaaDoorPTC
namespace Go.Proofs.YtagokdbpgljgjaaDoor.Tok
open Go.RowKit Go.Proofs.YtagokdbpgljgjaaDoorW.PrintWords Go.Proofs.YtagokdbpgljgjaaDoorW.PrintLast Go.Proofs.YtagokdbpgljgjaaDoorW.PrintMore Go.Proofs.YtagokdbpgljgjaaDoor.Fr Go.Proofs.YtagokdbpgljgjaaDoor.PGramFirsts Go.Proofs.YtagokdbpgljgjaaDoor.TextSet Go.Proofs.YtagokdbpgljgjaaDoor.Bld

def names3 : List ByteArray := [⟨#[101, 110, 100]⟩, ⟨#[101, 114, 114, 111, 114]⟩, ⟨#[110, 117, 109]⟩]
def src12 : ByteArray := ⟨#[49, 50]⟩
def line12 : ByteArray := ⟨#[110, 117, 109, 32, 48, 32, 50, 32, 34, 49, 50, 34, 10]⟩
def lineCut : ByteArray := ⟨#[110, 117, 109, 32, 48, 32, 50, 32, 34, 49, 50, 34]⟩
def tok12 : S55 := ⟨2, 0, 2⟩
theorem kinds3 : KindsOk names3 := by
  refine ⟨by decide, by decide, by decide +kernel, by decide +kernel, ?_, by decide +kernel⟩
  intro s hs
  have : ∀ s, s ∈ names3 → named s = true := by
    have h : names3.all named = true := by decide +kernel
    exact List.all_eq_true.1 h
  exact this s hs
theorem sizes3 : ∀ s, s ∈ names3 → s.size ≤ maxLen := by
  intro s hs
  have h : names3.all (fun s => decide (s.size ≤ 5)) = true := by decide +kernel
  have := of_decide_eq_true (List.all_eq_true.1 h s hs)
  have : maxLen = 9223372036854775807 := by decide
  omega
theorem check12 : checkF 3 2 0 0 [tok12] = (0, 0) := by decide +kernel
theorem cut12 : Lib.cut line12.data.toList [10] = (lineCut.data.toList, [], true) := by decide +kernel
theorem split12 : Lib.splitB ⟨#[32]⟩ 0 (min 4 (lineCut.size + 1) - 1) lineCut = [⟨#[110, 117, 109]⟩, ⟨#[48]⟩, ⟨#[50]⟩, ⟨#[34, 49, 50, 34]⟩] := by decide +kernel
theorem find12 : token_Find.f 10 names3 ⟨#[110, 117, 109]⟩ = some (2, true) := by decide +kernel
theorem line12_eq : lineB ⟨#[110, 117, 109]⟩ 0 2 src12 = line12 := by decide +kernel
theorem plain12 : ∀ i (h : i < src12.size), Plain (src12[i]'h) := by
  intro i h
  have h2 : i < 2 := h
  rcases (by omega : i = 0 ∨ i = 1) with rfl | rfl
  · exact (by unfold Plain; decide : Plain 49)
  · exact (by unfold Plain; decide : Plain 50)
end Go.Proofs.YtagokdbpgljgjaaDoor.Tok
