/-
What came in, opened with its bulk: what the second form's bound gives of each slice in it.
-/
import Derived.JoinedCond
import Derived.Test.YtagokdbpgljgjaaDoorMAD
set_option linter.unusedSimpArgs false
set_option linter.unusedVariables false
namespace Go.Proofs.YtagokdbpgljgjaaDoor.Op
open Go.ChangeShapes Go.WideShapes Go.ChangeAt Go.RowKit
open Go.Proofs.YtagokdbpgljgjaaDoorW.PrintWords
theorem bulk_one {H : Type} (d : DataW H) : 1 ≤ Rows.uptoBulk d := by
  cases d with
  | lit l => cases l <;> simp [Rows.uptoBulk]
  | nil => simp [Rows.uptoBulk]
  | ptr d => simp [Rows.uptoBulk]
  | slice elems spare => simp [Rows.uptoBulk]
  | agg parts => simp [Rows.uptoBulk]
  | iface t d => simp [Rows.uptoBulk]
  | map entries => simp [Rows.uptoBulk]
  | held h => simp [Rows.uptoBulk]
/-- A value of type t is d's, and of bulk m at the least. -/
def BOpens {α : Type} (P : Program) (d : Kd α) (t : TypeId) (ok : α → Prop) (m : α → Nat) : Prop :=
  ∀ (H : Type) (enc : TypeId × Value → H) (W : World) (base : Nat) (sp : Nat → Bool) (hd : Bool) (fuel : Nat) (cs : List Value) (x : DataW H × List MemPlace), DataW.trod enc P W base sp hd fuel t cs = some x → ∃ a, ok a ∧ m a ≤ Rows.uptoBulk x.1 ∧ d.K W a cs
variable {P : Program} {t : TypeId}
theorem BOpens.of {α : Type} {d : Kd α} {ok : α → Prop} (h : Opens P d t ok) : BOpens P d t ok (fun _ => 1) := fun H enc W base sp hd fuel cs x hx => by
  obtain ⟨a, h1, h2⟩ := h H enc W base sp hd fuel cs x hx
  exact ⟨a, h1, bulk_one _, h2⟩
theorem bopens_string (ht : P.underlying t = some .string) : BOpens P Kd.string t (fun s => s.size ≤ maxLen) (fun s => s.size + 1) := by
  intro H enc W base sp hd fuel cs x h
  obtain ⟨s, rfl, hx, hw⟩ := DataW.trod_string ht h
  refine ⟨s, hw, ?_, rfl⟩
  subst hx
  simp [Rows.uptoBulk]
theorem bulk_sum {α H : Type} (m : α → Nat) (Y : Nat → α) (D : Nat → DataW H) : ∀ l : List Nat, (∀ i, i ∈ l → m (Y i) ≤ Rows.uptoBulk (D i)) → ((l.map Y).map m).sum ≤ Rows.uptoBulkAll (l.map D)
  | [], _ => by simp
  | i :: l, h => by
    have h1 := h i (List.mem_cons_self ..)
    have h2 := bulk_sum m Y D l (fun j hj => h j (List.mem_cons_of_mem _ hj))
    simp only [List.map_cons, List.sum_cons, Rows.uptoBulkAll]
    omega
theorem bopens_slice {α : Type} [Inhabited α] {d : Kd α} {e : TypeId} {ok : α → Prop} {m : α → Nat} (q : Nat) (ht : P.underlying t = some (.slice e)) (hc : P.cellsOf e = d.sz) (h : BOpens P d e ok m) :
    BOpens P (Kd.slice q d) t (fun xs => ∀ x ∈ xs, ok x) (fun xs => (xs.map m).sum + 1) := by
  intro H enc W base sp hd fuel cs x hx
  rcases Go.Deep.open_slice ht hx with ⟨rfl, _⟩ | ⟨a, len, cap, k, n, D, Pl, rfl, _, hl, hm, hmm, hx2, hel⟩
  · exact ⟨[], by simp, by simpa using bulk_one x.1, none, 0, rfl, Nat.le_refl _, rfl, by simp, fun hp => absurd hp (by simp)⟩
  · have hlm : len ≤ k := by rw [hmm]; split <;> omega
    subst hx2
    have key : ∀ i, i < len → ∃ y, m y ≤ Rows.uptoBulk (D i) ∧ ∃ cs', ok y ∧ d.K W y cs' ∧ cs'.length = d.sz ∧ ∀ j u, cs'[j]? = some u → W.cell? (a.add (i * d.sz + j)) = some u := by
      intro i hi
      obtain ⟨cs', h1, h2⟩ := hel i (by omega)
      rw [hc] at h1
      obtain ⟨y, hy, hb, hk⟩ := h H enc W base sp hd n cs' _ h2
      obtain ⟨_, hlen, hcell⟩ := World.cells?_some h1
      refine ⟨y, hb, cs', hy, hk, hlen, fun j u hu => ?_⟩
      have hj : j < d.sz := by rw [← hlen]; exact (List.getElem?_eq_some_iff.1 hu).1
      have := hcell j hj
      rw [Go.Deep.add_add] at this
      rw [this, hu]
    obtain ⟨Y, hY⟩ := Go.Deep.choose_lt (p := fun i y => m y ≤ Rows.uptoBulk (D i) ∧ ∃ cs', ok y ∧ d.K W y cs' ∧ cs'.length = d.sz ∧ ∀ j u, cs'[j]? = some u → W.cell? (a.add (i * d.sz + j)) = some u) key
    refine ⟨(List.range len).map Y, ?_, ?_, some a, cap, by simp, by simpa using hl, by simp, ?_, fun _ => ⟨a, rfl, ?_⟩⟩
    · intro y hy
      simp only [List.mem_map, List.mem_range] at hy
      obtain ⟨i, hi, rfl⟩ := hy
      obtain ⟨_, _, h1, _⟩ := hY i hi
      exact h1
    · have := bulk_sum m Y D (List.range len) (fun i hi => (hY i (List.mem_range.1 hi)).1)
      simp only [Rows.uptoBulk]
      omega
    · have : maxLen ≤ 9223372036854775807 := by decide
      simp
      omega
    · intro j p hp
      simp only [List.getElem?_map, Option.map_eq_some_iff] at hp
      obtain ⟨i, hi, rfl⟩ := hp
      obtain ⟨hi1, hi2⟩ : j < len ∧ j = i := by
        have := List.getElem?_eq_some_iff.1 hi
        obtain ⟨h1, h2⟩ := this
        simp at h1 h2
        exact ⟨h1, h2⟩
      subst hi2
      obtain ⟨_, cs', _, h2, h3, h4⟩ := hY j hi1
      exact ⟨cs', h3, h2, h4⟩
theorem bulk_bound {H : Type} {l : List (DataW H)} (hk : Rows.uptoSmall H l = true) : Rows.uptoBulkAll l ≤ 1048576 := of_decide_eq_true hk
/-- A slice that came in, with its bulk. -/
theorem slice_barg {α : Type} [Inhabited α] {d : Kd α} {e : TypeId} {ok : α → Prop} {m : α → Nat} (ht : P.underlying t = some (.slice e)) (hc : P.cellsOf e = d.sz) (h : BOpens P d e ok m)
    {H : Type} {enc : TypeId × Value → H} {W : World} {base b0 : Nat} {sp : Nat → Bool} {hd : Bool} {r : Reach} {v : Value} {x : DataW H} {ps : List MemPlace} (hv : Value.okWide P W r b0 t v) (hx : DataW.Trod enc P W base sp hd t v x ps) :
    ∃ A c xs, v = .slice A xs.length c ∧ xs.length ≤ c ∧ (xs.map m).sum + 1 ≤ Rows.uptoBulk x ∧ (∀ y ∈ xs, ok y) ∧ d.C W A xs.length xs := by
  obtain ⟨A, n, c, rfl⟩ := okWide_slice ht hv
  obtain ⟨fuel, hf⟩ := hx
  obtain ⟨xs, hok, hm, A', c', e, hl, hC⟩ := bopens_slice 0 ht hc h _ _ _ _ _ _ _ _ _ hf
  simp [Value.cells] at e
  obtain ⟨rfl, rfl, rfl⟩ := e
  exact ⟨_, _, xs, rfl, hl, hm, hok, hC⟩
end Go.Proofs.YtagokdbpgljgjaaDoor.Op
