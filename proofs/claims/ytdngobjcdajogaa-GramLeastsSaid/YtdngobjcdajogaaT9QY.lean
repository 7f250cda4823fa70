/-
A row of texts and a row of precedences copied: slices.Clone, walked.
-/
import Derived.Test.YtdngobjcdajogaaT9QS
import Derived.Test.YtdngobjcdajogaaT9PGramFirstsx0
import Derived.Test.YtdngobjcdajogaaT9QJ
namespace Go.Proofs.Ytdngobjcdajogaa.Gram
open Go.RowKit Go.Proofs.YtdngobjcdajogaaW.PrintWords Go.Proofs.YtdngobjcdajogaaW.PrintLast Go.Proofs.YtdngobjcdajogaaW.PrintMore Go.Proofs.Ytdngobjcdajogaa.Fr Go.Proofs.Ytdngobjcdajogaa.PGramFirsts Go.Proofs.Ytdngobjcdajogaa.TextSet
end Go.Proofs.Ytdngobjcdajogaa.Gram
namespace Go.Proofs.Ytdngobjcdajogaa.Gram
open Go.RowKit Go.Proofs.YtdngobjcdajogaaW.PrintWords Go.Proofs.YtdngobjcdajogaaW.PrintLast Go.Proofs.YtdngobjcdajogaaW.PrintMore Go.Proofs.Ytdngobjcdajogaa.Fr Go.Proofs.Ytdngobjcdajogaa.PGramFirsts Go.Proofs.Ytdngobjcdajogaa.TextSet
theorem parts_ge (syms : Int) : ∀ (N : Nat) (a : S55), SizeOf.sizeOf a < N → ∀ n : Int, n + 1 ≤ (partsF syms a n).2
  | 0, _, h, _ => absurd h (Nat.not_lt_zero _)
  | N + 1, a, h, n => by
    have key : ∀ (l : List S55), (∀ k, k ∈ l → SizeOf.sizeOf k < N) → ∀ (ok : Bool) (n : Int), n ≤ (kidsF syms l ok n).2 := by
      intro l
      induction l with
      | nil => intro _ ok n; simp [kidsF]
      | cons k ks ih =>
        intro hk ok n
        simp only [kidsF]
        split
        · have h1 := parts_ge syms N k (hk k (List.mem_cons_self ..)) n
          have h2 := ih (fun x hx => hk x (List.mem_cons_of_mem _ hx)) (partsF syms k n).1 (partsF syms k n).2
          omega
        · exact ih (fun x hx => hk x (List.mem_cons_of_mem _ hx)) _ _
    rw [partsF_eq]
    refine key a.f3 (fun k hk => ?_) _ _
    have h2 := List.sizeOf_lt_of_mem hk
    have h3 : SizeOf.sizeOf a.f3 < SizeOf.sizeOf a := by
      cases a
      simp
      omega
    omega
theorem kids_false (syms : Int) : ∀ (l : List S55) (n : Int), (kidsF syms l false n).1 = false
  | [], n => by simp [kidsF]
  | k :: ks, n => by
    simp only [kidsF]
    rw [if_neg (by simp)]
    exact kids_false syms ks n
theorem drop_T55 {l : List S55} {i : Nat} (h : i < l.length) : l.drop i = rd_T55 l i :: l.drop (i + 1) := by
  rw [List.drop_eq_getElem_cons h]
  simp [rd_T55, List.getD_eq_getElem?_getD, h]
theorem mem_T55 {l : List S55} {i : Nat} (h : i < l.length) : rd_T55 l i ∈ l := by
  simp [rd_T55, List.getD_eq_getElem?_getD, h]
end Go.Proofs.Ytdngobjcdajogaa.Gram
namespace Go.Proofs.Ytdngobjcdajogaa.Gram
open Go.RowKit Go.Proofs.YtdngobjcdajogaaW.PrintWords Go.Proofs.YtdngobjcdajogaaW.PrintLast Go.Proofs.YtdngobjcdajogaaW.PrintMore Go.Proofs.Ytdngobjcdajogaa.Fr Go.Proofs.Ytdngobjcdajogaa.PGramFirsts Go.Proofs.Ytdngobjcdajogaa.TextSet
end Go.Proofs.Ytdngobjcdajogaa.Gram
