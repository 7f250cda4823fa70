/-
What came in, opened with its bounds: each slice in it lies within the row's reach.
-/
import Derived.SizedLaws
import Derived.ChangeSlices
import Derived.Test.YtlpmjmanmncmnaaMAK
import Derived.Test.YtlpmjmanmncmnaaMBE
set_option linter.unusedSimpArgs false
set_option linter.unusedVariables false
namespace Go.Proofs.Ytlpmjmanmncmnaa.Tab
open Go.ChangeShapes Go.WideShapes Go.ChangeAt Go.RowKit Go.Proofs.YtlpmjmanmncmnaaW.PrintWords Go.Proofs.Ytlpmjmanmncmnaa.Op Go.Proofs.Ytlpmjmanmncmnaa.Fr Go.Proofs.Ytlpmjmanmncmnaa.PT
/-- A value of type t that came in, all of whose slices and texts are within reach, is d's. -/
def WOpens {α : Type} (P : Program) (d : Kd α) (t : TypeId) (ok : α → Prop) : Prop :=
  ∀ (H : Type) (enc : TypeId × Value → H) (W : World) (base : Nat) (sp : Nat → Bool) (hd : Bool) (fuel : Nat) (cs : List Value) (x : DataW H × List MemPlace), DataW.trod enc P W base sp hd fuel t cs = some x → (x.1.weights P t).all (· ≤ reachBytes) = true → ∃ a, ok a ∧ d.K W a cs
theorem WOpens.of {α : Type} {P : Program} {d : Kd α} {t : TypeId} {ok : α → Prop} (h : Opens P d t ok) : WOpens P d t ok := fun H enc W base sp hd fuel cs x hx _ => h H enc W base sp hd fuel cs x hx
theorem weights_mem {H : Type} {P : Program} {e : TypeId} : ∀ {L : List (DataW H)}, (DataW.weightsAll P e L).all (· ≤ reachBytes) = true → ∀ d, d ∈ L → (d.weights P e).all (· ≤ reachBytes) = true
  | [], _, d, hd => by simp at hd
  | a :: r, h, d, hd => by
    rw [DataW.weightsAll, List.all_append, Bool.and_eq_true] at h
    rcases List.mem_cons.1 hd with rfl | hd
    · exact h.1
    · exact weights_mem h.2 d hd
theorem weights_all {H : Type} {P : Program} {e : TypeId} {D : Nat → DataW H} {len : Nat} (h : (DataW.weightsAll P e ((List.range len).map D)).all (· ≤ reachBytes) = true) (i : Nat) (hi : i < len) : ((D i).weights P e).all (· ≤ reachBytes) = true :=
  weights_mem h _ (List.mem_map.2 ⟨i, List.mem_range.2 hi, rfl⟩)
theorem wopens_slice {α : Type} [Inhabited α] {P : Program} {t : TypeId} {d : Kd α} {e : TypeId} {ok : α → Prop} (q : Nat) (ht : P.underlying t = some (.slice e)) (hc : P.cellsOf e = d.sz) (h : WOpens P d e ok) :
    WOpens P (Kd.slice q d) t (fun xs => xs.length * P.bytesOf e ≤ reachBytes ∧ ∀ x ∈ xs, ok x) := by
  intro H enc W base sp hd fuel cs x hx hw
  rcases Go.Deep.open_slice ht hx with ⟨rfl, _⟩ | ⟨a, len, cap, m, n, D, Pl, rfl, _, hl, hm, hmm, hx2, hel⟩
  · exact ⟨[], ⟨by simp, by simp⟩, none, 0, rfl, Nat.le_refl _, rfl, by simp, fun hp => absurd hp (by simp)⟩
  · have hlm : len ≤ m := by rw [hmm]; split <;> omega
    subst hx2
    rw [DataW.weights, ht] at hw
    simp only [List.all_cons, Bool.and_eq_true, List.all_append] at hw
    obtain ⟨hw0, hw1, _⟩ := hw
    have hlw : len * P.bytesOf e ≤ reachBytes := by
      have h9 : len * P.bytesOf e ≤ (((List.range len).map D).length + ((List.range (m - len)).map fun j => D (len + j)).length) * P.bytesOf e := Nat.mul_le_mul_right _ (by simp)
      exact Nat.le_trans h9 (by simpa using hw0)
    have key : ∀ i, i < len → ∃ y cs', ok y ∧ d.K W y cs' ∧ cs'.length = d.sz ∧ ∀ j u, cs'[j]? = some u → W.cell? (a.add (i * d.sz + j)) = some u := by
      intro i hi
      obtain ⟨cs', h1, h2⟩ := hel i (by omega)
      rw [hc] at h1
      obtain ⟨y, hy, hk⟩ := h H enc W base sp hd n cs' _ h2 (weights_all hw1 i hi)
      obtain ⟨_, hlen, hcell⟩ := World.cells?_some h1
      refine ⟨y, cs', hy, hk, hlen, fun j u hu => ?_⟩
      have hj : j < d.sz := by rw [← hlen]; exact (List.getElem?_eq_some_iff.1 hu).1
      have := hcell j hj
      rw [Go.Deep.add_add] at this
      rw [this, hu]
    obtain ⟨Y, hY⟩ := Go.Deep.choose_lt (p := fun i y => ∃ cs', ok y ∧ d.K W y cs' ∧ cs'.length = d.sz ∧ ∀ j u, cs'[j]? = some u → W.cell? (a.add (i * d.sz + j)) = some u) key
    refine ⟨(List.range len).map Y, ⟨by simpa using hlw, ?_⟩, some a, cap, by simp, by simpa using hl, by simp, ?_, fun _ => ⟨a, rfl, ?_⟩⟩
    · intro y hy
      simp only [List.mem_map, List.mem_range] at hy
      obtain ⟨i, hi, rfl⟩ := hy
      obtain ⟨_, h1, _⟩ := hY i hi
      exact h1
    · have : maxLen ≤ 9223372036854775807 := by decide
      simp
      omega
    · intro j p hp
      simp only [List.getElem?_map, Option.map_eq_some_iff] at hp
      obtain ⟨i, hi, rfl⟩ := hp
      obtain ⟨hi1, hi2⟩ : j < len ∧ j = i := by
        have := List.getElem?_eq_some_iff.1 hi
        obtain ⟨h1, h2⟩ := this
        simp at h1 h2
        exact ⟨h1, h2⟩
      subst hi2
      obtain ⟨cs', _, h2, h3, h4⟩ := hY j hi1
      exact ⟨cs', h3, h2, h4⟩
theorem wopens_fields2 {α β : Type} {P : Program} {t : TypeId} {a : Kd α} {b : Kd β} {oa : α → Prop} {ob : β → Prop} {f0 f1 : Field} (ht : P.underlying t = some (.struct #[f0, f1])) (hT : P.cellsOf t = a.sz + b.sz)
    (e0 : f0.offset = 0) (c0 : P.cellsOf f0.type = a.sz) (e1 : f1.offset = a.sz) (c1 : P.cellsOf f1.type = b.sz) (ha : WOpens P a f0.type oa) (hb : WOpens P b f1.type ob) :
    WOpens P (Kd.pair a b) t (fun x => oa x.1 ∧ ob x.2) := by
  intro H enc W base sp hd fuel cs x hx hw
  obtain ⟨y0, y1, n, rfl, hl, h0, h1⟩ := trod_struct2 ht hx
  rw [DataW.weights, ht] at hw
  simp only [List.map_cons, List.map_nil, DataW.weightsEach, List.all_append, Bool.and_eq_true] at hw
  rw [e0, c0] at h0
  rw [e1, c1] at h1
  obtain ⟨x0, k0, r0⟩ := ha _ _ _ _ _ _ _ _ _ h0 hw.1
  obtain ⟨x1, k1, r1⟩ := hb _ _ _ _ _ _ _ _ _ h1 hw.2.1
  refine ⟨(x0, x1), ⟨k0, k1⟩, _, _, ?_, r0, r1⟩
  rw [List.drop_zero, List.take_of_length_le (l := cs.drop a.sz) (by simp; omega), List.take_append_drop]
instance : Inhabited S48 := ⟨z48⟩
theorem opens_move : Opens Try.prog k48 48 (fun x => (Lit.int .i64 x.f0).wf = true ∧ (Lit.int .i64 x.f1).wf = true) :=
  (opens_fields2 (a := Kd.int .i64) (b := Kd.int .i64) Try.underlying48 (by kernel_rfl) rfl (by kernel_rfl) rfl (by kernel_rfl) (opens_int Try.underlying3) (opens_int Try.underlying3)).iso (fun x => ⟨x.1, x.2⟩) (fun _ => rfl) (fun _ h => h)
def okM (ll : List (List S48)) : Prop := ll.length * Try.prog.bytesOf 38 ≤ reachBytes ∧ ∀ l, l ∈ ll → l.length * Try.prog.bytesOf 48 ≤ reachBytes ∧ ∀ x, x ∈ l → (Lit.int .i64 x.f0).wf = true ∧ (Lit.int .i64 x.f1).wf = true
def okG (ll : List (List Int)) : Prop := ll.length * Try.prog.bytesOf 39 ≤ reachBytes ∧ ∀ l, l ∈ ll → l.length * Try.prog.bytesOf 3 ≤ reachBytes ∧ ∀ x, x ∈ l → (Lit.int .i64 x).wf = true
theorem wopens_movess : WOpens Try.prog (Kd.slice 38 (Kd.slice 48 k48)) 22 okM :=
  wopens_slice 38 Try.underlying22 (by kernel_rfl) (wopens_slice 48 Try.underlying38 (by kernel_rfl) (WOpens.of opens_move))
theorem wopens_intss : WOpens Try.prog (Kd.slice 39 (Kd.slice 3 (Kd.int .i64))) 23 okG :=
  wopens_slice 39 Try.underlying23 (by kernel_rfl) (wopens_slice 3 Try.underlying39 (by kernel_rfl) (WOpens.of (opens_int Try.underlying3)))
theorem wopens_table : WOpens Try.prog (Kd.pair (Kd.slice 38 (Kd.slice 48 k48)) (Kd.slice 39 (Kd.slice 3 (Kd.int .i64)))) 25 (fun x => okM x.1 ∧ okG x.2) :=
  wopens_fields2 Try.underlying25 (by kernel_rfl) rfl (by kernel_rfl) rfl (by kernel_rfl) wopens_movess wopens_intss
end Go.Proofs.Ytlpmjmanmncmnaa.Tab
