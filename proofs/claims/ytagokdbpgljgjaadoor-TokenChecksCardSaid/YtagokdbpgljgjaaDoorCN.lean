/-
What came in, opened: kinds, a text, and a row over it.
-/
import Derived.Test.YtagokdbpgljgjaaDoorVK
namespace Go.Proofs.YtagokdbpgljgjaaDoor.Tables
open Go.ChangeShapes Go.WideShapes Go.ChangeAt Go.RowKit Go.Proofs.YtagokdbpgljgjaaDoorW.PrintWords Go.Proofs.YtagokdbpgljgjaaDoorW.PrintLast Go.Proofs.YtagokdbpgljgjaaDoorW.PrintMore Go.Proofs.YtagokdbpgljgjaaDoor.Op Go.Proofs.YtagokdbpgljgjaaDoor.Fr Go.Proofs.YtagokdbpgljgjaaDoor.PGramFirsts Go.Proofs.YtagokdbpgljgjaaDoor.Tok

theorem some_of {α : Type} {n : Nat} {xs : List α} (h : xs.length = n) {i : Nat} (hi : i < n) : ∃ y, xs[i]? = some y := ⟨xs[i]'(by omega), List.getElem?_eq_getElem (by omega)⟩
set_option maxRecDepth 100000 in
/-- Kinds, a text, and a row that came in. -/
theorem row_arg {H : Type} {enc : TypeId × Value → H} {W : World} {base b0 : Nat} {sp : Nat → Bool} {hd : Bool} {r : Reach} {v : Value} {x : DataW H} {ps : List MemPlace} (hv : Value.okWide Tryd.prog W r b0 25 v) (hx : DataW.Trod enc Tryd.prog W base sp hd 25 v x ps) :
    ∃ (ns : List ByteArray) (src : ByteArray) (l : List S55) (A0 A2 : Option Addr) (c0 c2 : Nat), v = .agg #[.slice A0 ns.length c0, .string src, .slice A2 l.length c2] ∧ ns.length ≤ c0 ∧ (∀ s, s ∈ ns → s.size ≤ maxLen) ∧ src.size ≤ maxLen ∧ l.length ≤ c2 ∧ Kd.string.C W A0 ns.length ns ∧ Kd.C k55 W A2 l.length l := by
  obtain ⟨cs, rfl, _⟩ := okWide_struct Tryd.underlying25 hv
  obtain ⟨fuel, hf⟩ := hx
  have hf : DataW.trod enc Tryd.prog W base sp hd fuel 25 cs.toList = some (x, ps) := hf
  obtain ⟨xs, n, rfl, _, hl, hxs, hf⟩ := DataW.trod_struct Tryd.underlying25 hf
  have hl5 : cs.toList.length = 3 := hl.trans (by kernel_rfl)
  have hx5 : xs.length = 3 := hxs
  obtain ⟨l, hl⟩ : ∃ l, l = cs.toList := ⟨_, rfl⟩
  rw [← hl] at hf hl5
  match l, hl5 with
  | [v0, v1, v2], _ =>
    obtain ⟨y0, e0⟩ := some_of hx5 (i := 0) (by omega)
    obtain ⟨y1, e1⟩ := some_of hx5 (i := 1) (by omega)
    obtain ⟨y2, e2⟩ := some_of hx5 (i := 2) (by omega)
    have h0 : DataW.trod enc Tryd.prog W base sp hd n 22 [v0] = some y0 := (hf 0 _ rfl).trans e0
    have h1 : DataW.trod enc Tryd.prog W base sp hd n 9 [v1] = some y1 := (hf 1 _ rfl).trans e1
    have h2 : DataW.trod enc Tryd.prog W base sp hd n 23 [v2] = some y2 := (hf 2 _ rfl).trans e2
    obtain ⟨g0, ⟨_, o0⟩, A0, c0, q0, l0, C0⟩ := opens_slice (d := Kd.string) 9 Tryd.underlying22 (by kernel_rfl) (opens_string Tryd.underlying9) _ _ _ _ _ _ _ _ _ h0
    obtain ⟨src, q1, _, hsrc⟩ := DataW.trod_string Tryd.underlying9 h1
    obtain ⟨g2, ⟨_, _⟩, A2, c2, q2, l2, C2⟩ := opens_slice (d := k55) 55 Tryd.underlying23 (by kernel_rfl) opens_tok _ _ _ _ _ _ _ _ _ h2
    injection q0 with q0
    injection q1 with q1
    injection q2 with q2
    subst q0 q1 q2
    refine ⟨g0, src, g2, A0, A2, c0, c2, ?_, l0, o0, hsrc, l2, C0, C2⟩
    congr 1
    apply Array.toList_inj.1
    rw [← hl]
end Go.Proofs.YtagokdbpgljgjaaDoor.Tables
