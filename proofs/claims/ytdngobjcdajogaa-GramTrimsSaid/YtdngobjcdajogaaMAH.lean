/-
A grammar that came in, opened: out of what the argument reads as, its parts.
-/
import Derived.Test.YtdngobjcdajogaaMAD
import Derived.Test.YtdngobjcdajogaaMAG
set_option linter.unusedSimpArgs false
set_option linter.unusedVariables false
namespace Go.Proofs.Ytdngobjcdajogaa.OpPlain
open Go.ChangeShapes Go.WideShapes Go.ChangeAt Go.RowKit
open Go.Proofs.YtdngobjcdajogaaW.PrintWords Go.Proofs.Ytdngobjcdajogaa.Op Go.Proofs.Ytdngobjcdajogaa.PGramFirsts Go.Proofs.Ytdngobjcdajogaa.Gram
theorem slice_K {P : Program} {α : Type} [Inhabited α] {d : Kd α} {t e : TypeId} {ok : α → Prop} {H : Type} {enc : TypeId × Value → H} {W : World} {base : Nat} {sp : Nat → Bool} {hd : Bool} {fuel : Nat} {cs : List Value} {x : DataW H × List MemPlace}
 (ht : P.underlying t = some (.slice e)) (hc : P.cellsOf e = d.sz) (hx : DataW.trod enc P W base sp hd fuel t cs = some x)
 (h : ∀ m, m < fuel → ∀ (cs' : List Value) (y : DataW H × List MemPlace), DataW.trod enc P W base sp hd m e cs' = some y → ∃ a, ok a ∧ d.K W a cs') :
 ∃ (A : Option Addr) (c : Nat) (xs : List α), cs = [.slice A xs.length c] ∧ xs.length ≤ c ∧ xs.length ≤ maxLen ∧ (∀ y, y ∈ xs → ok y) ∧ d.C W A xs.length xs := by
 rcases DataW.trod_slice ht hx with ⟨rfl, _⟩ | ⟨a, len, cap, elems, rest, m, rfl, rfl, _, _, hl, hm, hlen, hel, _, _⟩
 · exact ⟨none, 0, [], rfl, Nat.le_refl _, Nat.zero_le _, by simp, rfl, by simp, fun hp => absurd hp (by simp)⟩
 · have key : ∀ i, i < len → ∃ y cs', ok y ∧ d.K W y cs' ∧ cs'.length = d.sz ∧ ∀ j u, cs'[j]? = some u → W.cell? (a.add (i * d.sz + j)) = some u := by
    intro i hi; have h1 := hel i hi; rw [List.getElem?_eq_getElem (by omega)] at h1; obtain ⟨cs', h1, h2⟩ := Option.bind_eq_some_iff.1 h1; rw [hc] at h1; obtain ⟨y, hy, hk⟩ := h m (Nat.lt_succ_self m) cs' _ h2; obtain ⟨_, hlen, hcell⟩ := World.cells?_some h1; refine ⟨y, cs', hy, hk, hlen, fun j u hu => ?_⟩; have hj : j < d.sz := by rw [← hlen]; exact (List.getElem?_eq_some_iff.1 hu).1
    have := hcell j hj; rw [Go.Deep.add_add] at this; rw [this, hu]
   obtain ⟨Y, hY⟩ := Go.Deep.choose_lt (p := fun i y => ∃ cs', ok y ∧ d.K W y cs' ∧ cs'.length = d.sz ∧ ∀ j u, cs'[j]? = some u → W.cell? (a.add (i * d.sz + j)) = some u) key; refine ⟨some a, cap, (List.range len).map Y, by simp, by simpa using hl, by simp; omega, ?_, by simp, ?_, fun _ => ⟨a, rfl, ?_⟩⟩
   · intro y hy
     simp only [List.mem_map, List.mem_range] at hy; obtain ⟨i, hi, rfl⟩ := hy; obtain ⟨_, h1, _⟩ := hY i hi; exact h1
   · have : maxLen ≤ 9223372036854775807 := by decide
     simp
     omega
   · intro j p hp
     simp only [List.getElem?_map, Option.map_eq_some_iff] at hp; obtain ⟨i, hi, rfl⟩ := hp; obtain ⟨hi1, hi2⟩ : j < len ∧ j = i := by
      have := List.getElem?_eq_some_iff.1 hi; obtain ⟨h1, h2⟩ := this; simp at h1 h2
      exact ⟨h1, h2⟩
     subst hi2; obtain ⟨cs', _, h2, h3, h4⟩ := hY j hi1; exact ⟨cs', h3, h2, h4⟩
instance : Inhabited S55 := ⟨z55⟩
instance : Inhabited S57 := ⟨z57⟩
instance : Inhabited S73 := ⟨z73⟩
theorem some_of {α : Type} {n : Nat} {xs : List α} (h : xs.length = n) {i : Nat} (hi : i < n) : ∃ y, xs[i]? = some y := ⟨xs[i]'(by omega), List.getElem?_eq_getElem (by omega)⟩
set_option maxRecDepth 100000 in
theorem act_K {H : Type} {enc : TypeId × Value → H} {W : World} {base : Nat} {sp : Nat → Bool} {hd : Bool} : ∀ (N fuel : Nat), fuel ≤ N → ∀ (cs : List Value) (x : DataW H × List MemPlace), DataW.trod enc Try.prog W base sp hd fuel 55 cs = some x → ∃ a : S55, True ∧ k55.K W a cs
 | N, fuel, hN, cs, x, hx => by
  obtain ⟨xs, n, rfl, _, hl, hxs, hf⟩ := DataW.trod_struct Try.underlying55 hx; have hl4 : cs.length = 4 := hl.trans (by kernel_rfl); have hx4 : xs.length = 4 := hxs; cases N with
  | zero => omega
  | succ N =>
   match cs, hl4 with
   | [v0, v1, v2, v3], _ =>
    obtain ⟨y0, e0⟩ := some_of hx4 (i := 0) (by omega); obtain ⟨y1, e1⟩ := some_of hx4 (i := 1) (by omega); obtain ⟨y2, e2⟩ := some_of hx4 (i := 2) (by omega); obtain ⟨y3, e3⟩ := some_of hx4 (i := 3) (by omega); have h0 : DataW.trod enc Try.prog W base sp hd n 3 [v0] = some y0 := (hf 0 _ rfl).trans e0; have h1 : DataW.trod enc Try.prog W base sp hd n 3 [v1] = some y1 := (hf 1 _ rfl).trans e1; have h2 : DataW.trod enc Try.prog W base sp hd n 9 [v2] = some y2 := (hf 2 _ rfl).trans e2; have h3 : DataW.trod enc Try.prog W base sp hd n 53 [v3] = some y3 := (hf 3 _ rfl).trans e3; obtain ⟨a0, q0, _⟩ := DataW.trod_int Try.underlying3 h0; obtain ⟨a1, q1, _⟩ := DataW.trod_int Try.underlying3 h1; obtain ⟨a2, q2, _⟩ := DataW.trod_string Try.underlying9 h2; obtain ⟨A, c, l, q3, hlc, _, _, hC⟩ := slice_K (d := k55) (ok := fun _ => True) Try.underlying53 (by kernel_rfl) h3 (fun m hm cs' y hy => act_K N m (by omega) cs' y hy); injection q0 with q0
    injection q1 with q1
    injection q2 with q2
    injection q3 with q3
    subst q0 q1 q2 q3; exact ⟨⟨a0, a1, a2, l⟩, trivial, k55_mk W ⟨a0, a1, a2, l⟩ hlc hC⟩
set_option maxRecDepth 100000 in
theorem opens_prod : Opens Try.prog k57 57 (fun _ => True) := by
 intro H enc W base sp hd fuel cs x hx; obtain ⟨xs, n, rfl, _, hl, hxs, hf⟩ := DataW.trod_struct Try.underlying57 hx; have hl4 : cs.length = 7 := hl.trans (by kernel_rfl); have hx4 : xs.length = 4 := hxs
 match cs, hl4 with
 | [v0, v1, v2, v3, v4, v5, v6], _ =>
  obtain ⟨y0, e0⟩ := some_of hx4 (i := 0) (by omega); obtain ⟨y1, e1⟩ := some_of hx4 (i := 1) (by omega); obtain ⟨y2, e2⟩ := some_of hx4 (i := 2) (by omega); obtain ⟨y3, e3⟩ := some_of hx4 (i := 3) (by omega); have h0 : DataW.trod enc Try.prog W base sp hd n 3 [v0] = some y0 := (hf 0 _ rfl).trans e0; have h1 : DataW.trod enc Try.prog W base sp hd n 27 [v1] = some y1 := (hf 1 _ rfl).trans e1; have h2 : DataW.trod enc Try.prog W base sp hd n 3 [v2] = some y2 := (hf 2 _ rfl).trans e2; have h3 : DataW.trod enc Try.prog W base sp hd n 55 [v3, v4, v5, v6] = some y3 := (hf 3 _ rfl).trans e3; obtain ⟨a0, q0, _⟩ := DataW.trod_int Try.underlying3 h0; obtain ⟨_, ⟨_, _⟩, A, c, q1, hlc, hC⟩ := opens_slice (d := kI) 3 Try.underlying27 (by kernel_rfl) (opens_int Try.underlying3) _ _ _ _ _ _ _ _ _ h1; obtain ⟨a2, q2, _⟩ := DataW.trod_int Try.underlying3 h2; obtain ⟨a, _, hK⟩ := act_K n n (Nat.le_refl _) _ _ h3; obtain ⟨A3, c3, q3, hl3, hC3⟩ := k55_open hK; injection q0 with q0
  injection q1 with q1
  injection q2 with q2
  injection q3 with r0 q3
  injection q3 with r1 q3
  injection q3 with r2 q3
  injection q3 with r3
  subst q0 q1 q2 r0 r1 r2 r3; exact ⟨⟨a0, _, a2, a⟩, trivial, k57_mk W ⟨a0, _, a2, a⟩ hlc hC hl3 hC3⟩
theorem opens_prec : Opens Try.prog k73 73 (fun _ => True) :=
 (opens_fields2 Try.underlying73 (by kernel_rfl) rfl (by kernel_rfl) rfl (by kernel_rfl) (opens_int Try.underlying3) (opens_int Try.underlying3)).iso (fun x => ⟨x.1, x.2⟩) (fun _ => rfl) (fun _ _ => trivial)
set_option maxRecDepth 100000 in
theorem plain_arg {H : Type} {enc : TypeId × Value → H} {W : World} {base b0 : Nat} {sp : Nat → Bool} {hd : Bool} {r : Reach} {v : Value} {x : DataW H} {ps : List MemPlace} (hv : Value.okWide Try.prog W r b0 26 v) (hx : DataW.Trod enc Try.prog W base sp hd 26 v x ps) :
 ∃ (G : Gr) (A0 A1 A2 A3 : Option Addr) (c0 c1 c2 c3 : Nat), v = .agg #[.slice A0 G.kinds.length c0, .slice A1 G.precs.length c1, .slice A2 G.rules.length c2, .slice A3 G.prods.length c3, .int .i64 G.start] ∧ GAt W G A0 A1 A2 A3 c0 c1 c2 c3 := by
 obtain ⟨cs, rfl, _⟩ := okWide_struct Try.underlying26 hv; obtain ⟨fuel, hf⟩ := hx; have hf : DataW.trod enc Try.prog W base sp hd fuel 26 cs.toList = some (x, ps) := hf; obtain ⟨xs, n, rfl, _, hl, hxs, hf⟩ := DataW.trod_struct Try.underlying26 hf; have hl5 : cs.toList.length = 5 := hl.trans (by kernel_rfl); have hx5 : xs.length = 5 := hxs; obtain ⟨l, hl⟩ : ∃ l, l = cs.toList := ⟨_, rfl⟩; rw [← hl] at hf hl5
 match l, hl5 with
 | [v0, v1, v2, v3, v4], _ =>
  obtain ⟨y0, e0⟩ := some_of hx5 (i := 0) (by omega); obtain ⟨y1, e1⟩ := some_of hx5 (i := 1) (by omega); obtain ⟨y2, e2⟩ := some_of hx5 (i := 2) (by omega); obtain ⟨y3, e3⟩ := some_of hx5 (i := 3) (by omega); obtain ⟨y4, e4⟩ := some_of hx5 (i := 4) (by omega); have h0 : DataW.trod enc Try.prog W base sp hd n 22 [v0] = some y0 := (hf 0 _ rfl).trans e0; have h1 : DataW.trod enc Try.prog W base sp hd n 23 [v1] = some y1 := (hf 1 _ rfl).trans e1; have h2 : DataW.trod enc Try.prog W base sp hd n 22 [v2] = some y2 := (hf 2 _ rfl).trans e2; have h3 : DataW.trod enc Try.prog W base sp hd n 24 [v3] = some y3 := (hf 3 _ rfl).trans e3; have h4 : DataW.trod enc Try.prog W base sp hd n 3 [v4] = some y4 := (hf 4 _ rfl).trans e4; obtain ⟨g0, ⟨_, o0⟩, A0, c0, q0, l0, C0⟩ := opens_slice (d := Kd.string) 9 Try.underlying22 (by kernel_rfl) (opens_string Try.underlying9) _ _ _ _ _ _ _ _ _ h0; obtain ⟨g1, ⟨_, _⟩, A1, c1, q1, l1, C1⟩ := opens_slice (d := k73) 73 Try.underlying23 (by kernel_rfl) opens_prec _ _ _ _ _ _ _ _ _ h1; obtain ⟨g2, ⟨_, o2⟩, A2, c2, q2, l2, C2⟩ := opens_slice (d := Kd.string) 9 Try.underlying22 (by kernel_rfl) (opens_string Try.underlying9) _ _ _ _ _ _ _ _ _ h2; obtain ⟨g3, ⟨_, _⟩, A3, c3, q3, l3, C3⟩ := opens_slice (d := k57) 57 Try.underlying24 (by kernel_rfl) opens_prod _ _ _ _ _ _ _ _ _ h3; obtain ⟨a4, q4, _⟩ := DataW.trod_int Try.underlying3 h4; injection q0 with q0
  injection q1 with q1
  injection q2 with q2
  injection q3 with q3
  injection q4 with q4
  subst q0 q1 q2 q3 q4; refine ⟨⟨g0, g1, g2, g3, a4⟩, A0, A1, A2, A3, c0, c1, c2, c3, ?_, ⟨C0, C1, C2, C3, l0, l1, l2, l3, o0, o2⟩⟩; congr 1
  apply Array.toList_inj.1
  rw [← hl]
end Go.Proofs.Ytdngobjcdajogaa.OpPlain
