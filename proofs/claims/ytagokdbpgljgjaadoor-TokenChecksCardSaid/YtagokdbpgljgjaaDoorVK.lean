/-
What came in, opened: a row of tokens, and how many they are.
-/
import Derived.Test.YtagokdbpgljgjaaDoorVL
import Derived.Test.YtagokdbpgljgjaaDoorVM
namespace Go.Proofs.YtagokdbpgljgjaaDoor.Tables
open Go.ChangeShapes Go.WideShapes Go.ChangeAt Go.RowKit Go.Proofs.YtagokdbpgljgjaaDoorW.PrintWords Go.Proofs.YtagokdbpgljgjaaDoorW.PrintLast Go.Proofs.YtagokdbpgljgjaaDoorW.PrintMore Go.Proofs.YtagokdbpgljgjaaDoor.Op Go.Proofs.YtagokdbpgljgjaaDoor.Fr Go.Proofs.YtagokdbpgljgjaaDoor.PGramFirsts Go.Proofs.YtagokdbpgljgjaaDoor.Tok

instance : Inhabited S55 := ⟨z55⟩
theorem opens_tok : Opens Tryd.prog k55 55 (fun _ => True) :=
  (opens_fields3 (a := Kd.int .i64) (b := Kd.int .i64) (c := Kd.int .i64) Tryd.underlying55 (by kernel_rfl) rfl (by kernel_rfl) rfl (by kernel_rfl) rfl (by kernel_rfl) (opens_int Tryd.underlying3) (opens_int Tryd.underlying3) (opens_int Tryd.underlying3)).iso (fun x => ⟨x.1, x.2.1, x.2.2⟩) (fun _ => rfl) (fun _ _ => trivial)
/-- The elements of a slice that came in are as many as it is long. -/
theorem slice_data {H : Type} {enc : TypeId × Value → H} {W : World} {base : Nat} {sp : Nat → Bool} {hd : Bool} {t e : TypeId} {A : Option Addr} {n c : Nat} {x : DataW H} {ps : List MemPlace} (ht : Tryd.prog.underlying t = some (.slice e)) (hx : DataW.Trod enc Tryd.prog W base sp hd t (.slice A n c) x ps) :
    (n = 0 ∨ ∃ elems spare, x = .slice elems spare ∧ elems.length = n) := by
  obtain ⟨fuel, hf⟩ := hx
  rcases DataW.trod_slice ht hf with ⟨h, _⟩ | ⟨a, len, cap, elems, rest, m, _, h, h2, _, _, _, hl, _⟩
  · simp [Value.cells] at h
    exact .inl h.2.1
  · simp [Value.cells] at h
    obtain ⟨_, rfl, _⟩ := h
    injection h2 with h2 _
    exact .inr ⟨_, _, h2, by rw [List.length_map]; exact hl⟩
set_option maxRecDepth 100000 in
/-- A row of tokens that came in. -/
theorem toks_arg {H : Type} {enc : TypeId × Value → H} {W : World} {base b0 : Nat} {sp : Nat → Bool} {hd : Bool} {r : Reach} {v : Value} {x : DataW H} {ps : List MemPlace} {ts : List TypeId} {ds : List (DataW H)} {j : Nat}
    (hv : Value.okWide Tryd.prog W r b0 23 v) (hx : DataW.Trod enc Tryd.prog W base sp hd 23 v x ps)
    (hs : (DataW.weightsEach Tryd.prog ts ds).all (· ≤ reachBytes) = true) (h1 : ts[j]? = some 23) (h2 : ds[j]? = some x) :
    ∃ A c xs, v = .slice A xs.length c ∧ xs.length ≤ c ∧ xs.length ≤ MaxT ∧ Kd.C k55 W A xs.length xs := by
  obtain ⟨A, c, xs, rfl, hc, _, _, hC⟩ := slice_arg Tryd.underlying23 (by kernel_rfl) opens_tok hv hx
  refine ⟨A, c, xs, rfl, hc, ?_, hC⟩
  rcases slice_data Tryd.underlying23 hx with h | ⟨elems, spare, rfl, hl⟩
  · rw [h]
    exact Nat.zero_le _
  · have h3 := sized_slice hs h1 h2 Tryd.underlying23
    have hb : Tryd.prog.bytesOf 55 = 24 := by kernel_rfl
    rw [hb] at h3
    have hr := reachBytes_lt
    have hm : MaxT = 5864062014634 := rfl
    have h4 : reachBytes = 140737488351232 := by decide
    omega
theorem mx {W : World} (h : W.ShapedOpen Tryd.prog) : Tok.Mx W := Tryd.laysM145.s1_3 W h
end Go.Proofs.YtagokdbpgljgjaaDoor.Tables
