/-
The marked numbers: gram.list, gram.lists.
-/
import Derived.Test.YtdngobjcdajogaaT9QE
import Derived.Test.YtdngobjcdajogaaT9PB
import Derived.Test.YtdngobjcdajogaaT9QF
namespace Go.Proofs.Ytdngobjcdajogaa.Gram
open Go.RowKit Go.Proofs.YtdngobjcdajogaaW.PrintWords Go.Proofs.YtdngobjcdajogaaW.PrintLast Go.Proofs.YtdngobjcdajogaaW.PrintMore Go.Proofs.Ytdngobjcdajogaa.Fr Go.Proofs.Ytdngobjcdajogaa.PGramFirsts Go.Proofs.Ytdngobjcdajogaa.TextSet
/-- The marked numbers, from i on. -/
def listI : Nat → List Bool → List Int
  | _, [] => []
  | i, b :: l => if b then (i : Int) :: listI (i + 1) l else listI (i + 1) l
theorem list_l (l : List Bool) (hl : l.length ≤ 4611686018427387904) : ∀ (n i : Nat) (x : List Int), i + n = l.length → x.length + n ≤ 17592186044416 → gram_list.l0 (n + 1) x l (l.length : Int) (i : Int) = some (x ++ listI i (l.drop i))
  | 0, i, x, h, _ => by
    obtain rfl : i = l.length := by omega
    simp [gram_list.l0, listI]
  | n + 1, i, x, h, hx => by
    have hi : i < l.length := by omega
    have e : l.drop i = rdOf false l (i : Int) :: l.drop (i + 1) := by
      rw [List.drop_eq_getElem_cons hi]
      simp [rdOf, List.getD_eq_getElem?_getD, hi]
    have hw : wrap64 ((i : Int) + 1) = ((i + 1 : Nat) : Int) := by simp only [wrap64]; omega
    rw [gram_list.l0, if_pos (by omega), if_pos (by omega), if_pos (by omega), e, hw]
    have ih := fun x hx => list_l l hl n (i + 1) x (by omega) hx
    cases hb : rdOf false l (i : Int) with
    | true =>
      rw [if_pos rfl, if_pos (by omega), ih _ (by simp only [List.length_append, List.length_cons, List.length_nil]; omega)]
      simp [listI]
    | false =>
      rw [if_neg (by decide), ih _ (by omega)]
      simp [listI]
theorem list_some (l : List Bool) (hl : l.length ≤ 1000000) : gram_list.f (l.length + 1) l = some (listI 0 l) := by
  have := list_l l (by omega) l.length 0 [] (by omega) (by simp only [List.length_nil]; omega)
  simpa [gram_list.f] using this
theorem list_mono {l : List Bool} {r : List Int} {k m : Nat} (h : gram_list.f k l = some r) (hm : k ≤ m) : gram_list.f m l = some r := by
  induction hm with
  | refl => exact h
  | step _ ih => exact gram_list.mono _ _ _ ih
theorem lists_l (s : List (List Bool)) (K : Nat) (hK : ∀ m, m ∈ s → m.length = K) (hK2 : K ≤ 1000000) (hs : s.length ≤ 1000000) : ∀ (n i : Nat) (x : List (List Int)), i + n = s.length → x.length + n ≤ 1000000 → gram_lists.l0 (n + K + 2) x s (s.length : Int) (i : Int) = some (x ++ (s.drop i).map (listI 0))
  | 0, i, x, h, _ => by
    obtain rfl : i = s.length := by omega
    rw [show 0 + K + 2 = (K + 1) + 1 by omega]
    simp [gram_lists.l0]
  | n + 1, i, x, h, hx => by
    have hi : i < s.length := by omega
    have e : s.drop i = rd_L7 s (i : Int) :: s.drop (i + 1) := by
      rw [List.drop_eq_getElem_cons hi]
      simp [rd_L7, List.getD_eq_getElem?_getD, hi]
    have hm : rd_L7 s (i : Int) ∈ s := by
      simp [rd_L7, List.getD_eq_getElem?_getD, hi]
    have hw : wrap64 ((i : Int) + 1) = ((i + 1 : Nat) : Int) := by simp only [wrap64]; omega
    rw [show n + 1 + K + 2 = (n + K + 2) + 1 by omega, gram_lists.l0, if_pos (by omega), if_pos (by omega), if_pos (by omega), list_mono (list_some _ (by rw [hK _ hm]; exact hK2)) (by rw [hK _ hm]; omega), Option.bind_some, if_pos (by omega), hw, lists_l s K hK hK2 hs n (i + 1) _ (by omega) (by simp only [List.length_append, List.length_cons, List.length_nil]; omega), e]
    simp
theorem lists_some (s : List (List Bool)) (K : Nat) (hK : ∀ m, m ∈ s → m.length = K) (hK2 : K ≤ 1000000) (hs : s.length ≤ 1000000) : gram_lists.f (s.length + K + 2) s = some (s.map (listI 0)) := by
  have := lists_l s K hK hK2 hs s.length 0 [] (by omega) (by simp only [List.length_nil]; omega)
  simpa [gram_lists.f] using this
theorem lists_calls (w : World) (A : Option Addr) (c K : Nat) (s : List (List Bool)) (h : Kd.C kR w A s.length s) (hc : s.length ≤ c) (hK : ∀ m, m ∈ s → m.length = K) (hK2 : K ≤ 1000000) (hs : s.length ≤ 1000000) :
    Calls Try.prog 41 #[.slice A s.length c] w fun e w' => ∃ v, e = .returned v ∧ Kd.S (Kd.slice 3 kI) 27 w' w.heap.size (fun _ => True) v (s.map (listI 0)) ∧ Fr (fun _ => False) w w' := by
  refine (gram_lists.calls _ A c s _ w h hc (lists_some s K hK hK2 hs)).mono ?_
  rintro e w' ⟨v, rfl, hR, hB⟩
  exact ⟨v, rfl, hR, Fr.of_below hB⟩
end Go.Proofs.Ytdngobjcdajogaa.Gram
namespace Go.Proofs.Ytdngobjcdajogaa.Gram
open Go.RowKit Go.Proofs.YtdngobjcdajogaaW.PrintWords Go.Proofs.YtdngobjcdajogaaW.PrintLast Go.Proofs.YtdngobjcdajogaaW.PrintMore Go.Proofs.Ytdngobjcdajogaa.Fr Go.Proofs.Ytdngobjcdajogaa.PGramFirsts Go.Proofs.Ytdngobjcdajogaa.TextSet
end Go.Proofs.Ytdngobjcdajogaa.Gram
