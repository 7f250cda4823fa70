/-
The law TokenWrites, walked: what both Lines answer of any row is the same.
-/
import Derived.Test.YtagokdbpgljgjaaDoorMAS
import Derived.Test.YtagokdbpgljgjaaDoorMAU
set_option linter.unusedSimpArgs false
set_option linter.unusedVariables false
namespace Go.Proofs.YtagokdbpgljgjaaDoor.Tok
open Go.RowKit Go.Proofs.YtagokdbpgljgjaaDoorW.PrintWords Go.Proofs.YtagokdbpgljgjaaDoorW.PrintLast Go.Proofs.YtagokdbpgljgjaaDoorW.PrintMore Go.Proofs.YtagokdbpgljgjaaDoor.Fr Go.Proofs.YtagokdbpgljgjaaDoor.PGramFirsts Go.Proofs.YtagokdbpgljgjaaDoor.TextSet Go.Proofs.YtagokdbpgljgjaaDoor.Bld Go.Proofs.YtagokdbpgljgjaaDoor.Utf
theorem named_l64 : ∀ (k : Nat) (s : ByteArray) (i : Int), token_named.l0 k s i = some true → s.size ≤ 64
  | 0, _, _, h => by simp [token_named.l0] at h
  | k + 1, s, i, h => by
    unfold token_named.l0 at h
    repeat' split at h
    all_goals first | exact named_l64 k s _ h | (simp at h; omega) | (simp at h; done)
theorem named_64 {s : ByteArray} (h : named s = true) : s.size ≤ 64 := by
  unfold named at h
  cases hf : token_named.f (s.size + 1) s with
  | none => rw [hf] at h; cases h
  | some b =>
    rw [hf] at h
    have hb : b = true := h
    subst hb
    exact named_l64 _ _ _ hf
/-- A token's line, by the token. -/
def lineS (ns : List ByteArray) (src : ByteArray) (t : S55) : ByteArray := lineG (rdOf ByteArray.empty ns t.f0) t.f1.toNat t.f2.toNat (quoteF (src.extract t.f1.toNat t.f2.toNat)).1
theorem quote_fit (src : ByteArray) (t : S55) (h0 : 0 ≤ t.f1) (h1 : t.f1 ≤ t.f2) (h2 : t.f2 ≤ src.size) : ((quoteF (src.extract t.f1.toNat t.f2.toNat)).2 == 0) = fitT t := by
  have hz : (src.extract t.f1.toNat t.f2.toNat).size = (t.f2 - t.f1).toNat := by simp; omega
  unfold quoteF fitT
  rw [hz]
  by_cases c : t.f2 - t.f1 ≤ 4096
  · rw [if_pos (by omega), decide_eq_true c]
    rfl
  · rw [if_neg (by omega), decide_eq_false c]
    rfl
theorem name_size {ns : List ByteArray} (hk : KindsOk ns) (x : Int) : (rdOf ByteArray.empty ns x).size ≤ 4096 := by
  by_cases h : x.toNat < ns.length
  · have h1 : rdOf ByteArray.empty ns x ∈ ns := by
      unfold rdOf
      rw [List.getD_eq_getElem?_getD, List.getElem?_eq_getElem h]
      exact List.getElem_mem h
    have := named_64 (hk.all _ h1)
    omega
  · unfold rdOf
    rw [List.getD_eq_getElem?_getD, List.getElem?_eq_none (by omega)]
    decide
end Go.Proofs.YtagokdbpgljgjaaDoor.Tok
