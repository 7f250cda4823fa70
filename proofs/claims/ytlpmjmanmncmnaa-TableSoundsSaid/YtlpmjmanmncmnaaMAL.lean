/-
Whether every way to a state ends with a row of symbols: in plain Lean; and sets of states as maps.
-/
import Derived.Maps.RangeWalk
import Derived.Maps.OwnSet
import Derived.Maps.Views
import Derived.Test.YtlpmjmanmncmnaaMAK
set_option linter.unusedSimpArgs false
set_option linter.unusedVariables false
namespace Go.Proofs.Ytlpmjmanmncmnaa.Tab
open Go.RowKit Go.Maps Go.Proofs.YtlpmjmanmncmnaaW.PrintWords Go.Proofs.YtlpmjmanmncmnaaW.PrintLast Go.Proofs.YtlpmjmanmncmnaaW.PrintMore Go.Proofs.Ytlpmjmanmncmnaa.Fr Go.Proofs.Ytlpmjmanmncmnaa.PT
/-- Every way to one of these states ends with the symbols (the last first), behind a state that has a Goto. -/
def EndsOk (T : Tb) (nk : Nat) (left : Int) : List Int → (Nat → Prop) → Prop
  | [], S => ∀ q, S q → 0 ≤ rd (rd_L3 T.gt (q : Int)) left
  | x :: r, S => (∀ q, S q → q ≠ 0 ∧ ∀ (s : Nat) (y : Int), Rc T nk s → IsEd T nk s y q → y = x) ∧ EndsOk T nk left r (fun s => ∃ q, S q ∧ Rc T nk s ∧ ∃ y, IsEd T nk s y q)
theorem EndsOk.congr {T : Tb} {nk : Nat} {left : Int} {r : List Int} {S S1 : Nat → Prop} (h : ∀ q, S q ↔ S1 q) : EndsOk T nk left r S ↔ EndsOk T nk left r S1 := by
  rw [show S = S1 from funext fun q => propext (h q)]
/-- How the map's elements read. -/
noncomputable abbrev RB : Value → Option (DataW Unit × List MemPlace) := plainElem Try.prog 4
theorem invB (v : Value) (y : DataW Unit × List MemPlace) (h : RB v = some y) : ∃ b, v = Value.bool b := by
  cases v <;> simp [RB, plainElem, Try.underlying4] at h
  exact ⟨_, rfl⟩
section
variable {ops : Array Oper} {rest : List Oper} {o : Oper} {a : Act} {Q : Exit → Act → World → Prop}
/-- The step of a range over a map from numbers to Booleans. -/
theorem next_ib (w : World) (hg : o.guard = none) (it : Operand) (hop : o.op = Op.next it false) (b r n : Nat) (D : DataW Unit) (left : Lit → Bool) (cnt : Nat) (hit : a.eval it = .pointer (some ⟨r, 0, none⟩)) (h : w.ranges Try.prog 3 RB b r n D left cnt)
    (hDone : (∀ kl, left kl = false) → wpList Try.prog ops Q rest (a.put o.dst (.tuple #[.bool false])) w)
    (hMore : ∀ (x : Int) (u : Value) (w' : World) (cnt' : Nat), left (.int .i64 x) = true → (Lit.int .i64 x).wf = true → w'.ranges Try.prog 3 RB b r n D (fun z => left z && !z.sameKey (.int .i64 x)) cnt' → cnt' < cnt → w.grownBy w' (some r) →
      (Instr.entry (.pointer (some ⟨r, 0, none⟩))).run Try.prog w' = .ok (.tuple #[.int .i64 x, u]) w' → wpList Try.prog ops Q rest (a.put o.dst (.tuple #[.bool true, .int .i64 x, u])) w') : wpList Try.prog ops Q (o :: rest) a w := by
  refine wpList_next_ranges w hg it hop 3 law3 RB (fun x : Int => Value.int .i64 x) (fun b : Bool => Value.bool b) (fun key kl hk => (Maps.keyOf_int_inv Try.underlying3 hk).imp fun _ h => h.1) invB b r n D left cnt hit h (fun _ hl => hDone hl) ?_
  intro x c kl y w' cnt' hkey hlx _ _ hrg hlt hg1 _ hen
  obtain ⟨x', e, rfl, hwf⟩ := Maps.keyOf_int_inv Try.underlying3 hkey
  injection e with _ e
  subst e
  exact hMore x (.bool c) w' cnt' hlx hwf hrg hlt hg1 hen
/-- An entry of a map that is written out. -/
theorem insert_own (w : World) (hg : o.guard = none) (m x v : Operand) (hop : o.op = Op.insert 138 m x v) (b n : Nat) (D : DataW Unit) (hm : a.eval m = .map (some b)) (hown : w.ownsMap Try.prog 3 RB b n D) (hn : n < maxLen) (key : Value) (kl : Lit) (hx : a.eval x = key) (y : Bool) (hv : a.eval v = .bool y) (hkey : keyOf Try.prog 3 key = some kl)
    (hK : ∀ w', w'.ownsMap Try.prog 3 RB b (n + 1) (D.put kl (.lit (.bool y))) → w.grownBy w' (some b) → wpList Try.prog ops Q rest (a.put o.dst undef) w') : wpList Try.prog ops Q (o :: rest) a w := by
  refine wpList_plain hg fun K' hK' => ?_
  obtain ⟨w', hrun, r1, r2⟩ := hown.update law3 Try.underlying138 hn hkey (plainElem_bool Try.underlying4 y)
  unfold Oper.wp
  simp [execOp, hop, hm, hx, hv, hrun, Result.andThen]
  exact hK' _ _ (hK w' r1 r2)
end
theorem fr_grown {w w' : World} (h : Fr (fun _ => False) w w') : w.grownBy w' none := ⟨h.os, h.tape, h.output, h.size, fun i hi _ => h.block i hi id⟩
theorem same_int (a b : Int) : (Lit.int .i64 a).sameKey (.int .i64 b) = true ↔ a = b := by simp [Lit.sameKey]
theorem own_tight {W : World} {b n : Nat} {D : DataW Unit} (h : W.ownsMap Try.prog 3 RB b n D) : W.ownsMap Try.prog 3 RB b (Maps.size D) D := by
  obtain ⟨es, clock, hb, F, hs, rfl⟩ := h
  refine ⟨es, clock, hb, F, ?_, rfl⟩
  rw [Maps.size_eq, length_sorted]
  simp
/-- A state is in a set. -/
def Hs (D : DataW Unit) (q : Nat) : Prop := Maps.has D (.int .i64 (q : Int)) = true
/-- A set of states to which ways lead. -/
def Keys (T : Tb) (nk : Nat) (D : DataW Unit) : Prop := ∀ z, Maps.has D z = true → ∃ q : Nat, z = .int .i64 (q : Int) ∧ Rc T nk q
theorem nodup_le : ∀ (n : Nat) (l : List Nat), l.Nodup → (∀ x, x ∈ l → x < n) → l.length ≤ n
  | 0, [], _, _ => Nat.le_refl _
  | 0, x :: l, _, h => absurd (h x (List.mem_cons_self ..)) (by omega)
  | n + 1, l, hd, h => by
    by_cases e : n ∈ l
    · have h1 := nodup_le n (l.erase n) (hd.erase n) (fun x hx => by
        have h2 := (hd.mem_erase_iff).1 hx
        have h3 := h x h2.2
        have h4 := h2.1
        omega)
      have h5 := List.length_erase_of_mem e
      omega
    · have := nodup_le n l hd (fun x hx => by
        have h3 := h x hx
        have h4 : x ≠ n := fun e2 => e (e2 ▸ hx)
        omega)
      omega
/-- The number that a key says. -/
def natOf : Lit → Nat
  | .int _ i => i.toNat
  | _ => 0
theorem Keys.size {T : Tb} {nk nr np : Nat} {D : DataW Unit} (h : Keys T nk D) (hC : TChk T nk nr np) {W : World} {b n : Nat} (ht : W.ownsMap Try.prog 3 RB b n D) : Maps.size D ≤ T.mv.length := by
  obtain ⟨es, rfl, hp, hkl⟩ := ht.entries law3
  have hk : ∀ p, p ∈ es → ∃ q : Nat, p.1 = .int .i64 (q : Int) ∧ Rc T nk q := fun p hp => by
    refine h p.1 ?_
    rw [Maps.has_eq, List.any_eq_true]
    exact ⟨p, hp, WideAt.sameKey_self (hkl p hp)⟩
  have h1 := nodup_le T.mv.length (es.map fun p => natOf p.1) (by
    rw [List.nodup_iff_pairwise_ne, List.pairwise_map]
    refine hp.imp_of_mem fun ha hb hne e => hne ?_
    obtain ⟨q1, e1, _⟩ := hk _ ha
    obtain ⟨q2, e2, _⟩ := hk _ hb
    rw [e1, e2] at e ⊢
    simp only [natOf, Int.toNat_natCast] at e
    rw [e]) (fun x hx => by
    obtain ⟨p, hp, rfl⟩ := List.mem_map.1 hx
    obtain ⟨q, e, hq⟩ := hk p hp
    rw [e]
    simp only [natOf, Int.toNat_natCast]
    exact hC.rc hq)
  rw [List.length_map] at h1
  exact h1
theorem Keys.put {T : Tb} {nk : Nat} {D : DataW Unit} (h : Keys T nk D) {q : Nat} (hq : Rc T nk q) (d : DataW Unit) : Keys T nk (D.put (.int .i64 (q : Int)) d) := fun z hz => by
  by_cases e : z = .int .i64 (q : Int)
  · exact ⟨q, e, hq⟩
  · rw [Maps.has_put_other e] at hz
    exact h z hz
theorem hs_put {D : DataW Unit} (hD : IsMap D) {q p : Nat} (d : DataW Unit) : Hs (D.put (.int .i64 (q : Int)) d) p ↔ p = q ∨ Hs D p := by
  unfold Hs
  by_cases e : p = q
  · subst e
    exact ⟨fun _ => .inl rfl, fun _ => Maps.has_put_same hD (show WideAt.IsKeyLit (.int .i64 (p : Int)) from trivial) _⟩
  · rw [Maps.has_put_other (fun h => e (by injection h with _ h; omega))]
    exact ⟨.inr, fun h => h.resolve_left e⟩
theorem keys_empty (T : Tb) (nk : Nat) : Keys T nk (.map []) := fun z hz => by simp [Maps.has] at hz
theorem hs_empty (q : Nat) : ¬ Hs (.map []) q := fun h => by simp [Hs, Maps.has] at h
/-- The states ahead, of those of a set that are gone through. -/
structure Ahd (T : Tb) (nk : Nat) (IN : List (List S48)) (D : DataW Unit) (x : Int) (left : Lit → Bool) (DA : DataW Unit) : Prop where
  key : Keys T nk DA
  ins : ∀ p : Nat, Hs DA p ↔ ∃ q : Nat, Hs D q ∧ left (.int .i64 (q : Int)) = false ∧ ∃ e, e ∈ rd_L2 IN (q : Int) ∧ e.f0 = p
  ok : ∀ q : Nat, Hs D q → left (.int .i64 (q : Int)) = false → q ≠ 0 ∧ ∀ e, e ∈ rd_L2 IN (q : Int) → e.f1 = x
/-- .. and of state q0 by its first j steps. -/
structure AhdJ (T : Tb) (nk : Nat) (IN : List (List S48)) (D : DataW Unit) (x : Int) (left : Lit → Bool) (q0 j : Nat) (DA : DataW Unit) : Prop where
  key : Keys T nk DA
  ins : ∀ p : Nat, Hs DA p ↔ (∃ q : Nat, Hs D q ∧ left (.int .i64 (q : Int)) = false ∧ ∃ e, e ∈ rd_L2 IN (q : Int) ∧ e.f0 = p) ∨ ∃ i : Nat, i < j ∧ (rd_T48 (rd_L2 IN (q0 : Int)) (i : Int)).f0 = p
  ok : ∀ q : Nat, Hs D q → left (.int .i64 (q : Int)) = false → q ≠ 0 ∧ ∀ e, e ∈ rd_L2 IN (q : Int) → e.f1 = x
  okj : ∀ i : Nat, i < j → (rd_T48 (rd_L2 IN (q0 : Int)) (i : Int)).f1 = x
section
variable {T : Tb} {nk nr np : Nat} {IN : List (List S48)} {ME : List Bool} {D DA : DataW Unit} {x : Int} {left : Lit → Bool} {q0 j : Nat} {g : Int} {r : List Int}
theorem Ahd.start : Ahd T nk IN D x (Maps.has D) (.map []) :=
  ⟨keys_empty T nk, fun p => ⟨fun h => absurd h (hs_empty p), fun ⟨q, h1, h2, _⟩ => by rw [show Maps.has D (.int .i64 (q : Int)) = true from h1] at h2; cases h2⟩, fun q h1 h2 => by rw [show Maps.has D (.int .i64 (q : Int)) = true from h1] at h2; cases h2⟩
theorem Ahd.one (h : Ahd T nk IN D x left DA) (q0 : Nat) : AhdJ T nk IN D x left q0 0 DA :=
  ⟨h.key, fun p => by rw [h.ins p]; exact ⟨.inl, fun h => h.resolve_right (fun ⟨i, hi, _⟩ => by omega)⟩, h.ok, fun i hi => by omega⟩
theorem AhdJ.step (h : AhdJ T nk IN D x left q0 j DA) (hD : IsMap DA) {a : Nat} (e0 : (rd_T48 (rd_L2 IN (q0 : Int)) (j : Int)).f0 = a) (e1 : (rd_T48 (rd_L2 IN (q0 : Int)) (j : Int)).f1 = x) (ha : Rc T nk a) (d : DataW Unit) : AhdJ T nk IN D x left q0 (j + 1) (DA.put (.int .i64 (a : Int)) d) := by
  refine ⟨h.key.put ha d, fun p => ?_, h.ok, fun i hi => ?_⟩
  · rw [hs_put hD, h.ins p]
    constructor
    · rintro (rfl | h1 | ⟨i, hi, h1⟩)
      · exact .inr ⟨j, by omega, e0⟩
      · exact .inl h1
      · exact .inr ⟨i, by omega, h1⟩
    · rintro (h1 | ⟨i, hi, h1⟩)
      · exact .inr (.inl h1)
      · by_cases e : i = j
        · subst e
          exact .inl (by omega)
        · exact .inr (.inr ⟨i, by omega, h1⟩)
  · by_cases e : i = j
    · rw [e]
      exact e1
    · exact h.okj i (by omega)
theorem mem_T48 {l : List S48} {e : S48} (h : e ∈ l) : ∃ i : Nat, i < l.length ∧ rd_T48 l (i : Int) = e := by
  obtain ⟨i, hi, e⟩ := List.mem_iff_getElem.1 h
  exact ⟨i, hi, by simp [rd_T48, List.getD_eq_getElem?_getD, hi, e]⟩
theorem in_T48 {l : List S48} {i : Nat} (h : i < l.length) : rd_T48 l (i : Int) ∈ l := by
  simp [rd_T48, List.getD_eq_getElem?_getD, h]
theorem AhdJ.done (h : AhdJ T nk IN D x left q0 j DA) (hj : j = (rd_L2 IN (q0 : Int)).length) (hq : Hs D q0) (hz : q0 ≠ 0) : Ahd T nk IN D x (fun z => left z && !z.sameKey (.int .i64 (q0 : Int))) DA := by
  have hs : ∀ q : Nat, (left (.int .i64 (q : Int)) && !(Lit.int .i64 (q : Int)).sameKey (.int .i64 (q0 : Int))) = false ↔ left (.int .i64 (q : Int)) = false ∨ q = q0 := fun q => by
    have h1 : (Lit.int .i64 (q : Int)).sameKey (.int .i64 (q0 : Int)) = decide (q = q0) := by
      by_cases e : q = q0
      · rw [e, (same_int _ _).2 rfl]
        simp
      · have h2 : ¬ (Lit.int .i64 (q : Int)).sameKey (.int .i64 (q0 : Int)) = true := fun h => e (by have := (same_int _ _).1 h; omega)
        simpa [e] using h2
    rw [h1]
    by_cases e : q = q0
    · simp [e]
    · simp [e]
  refine ⟨h.key, fun p => ?_, fun q h1 h2 => ?_⟩
  · rw [h.ins p]
    constructor
    · rintro (⟨q, h1, h2, h3⟩ | ⟨i, hi, h1⟩)
      · exact ⟨q, h1, (hs q).2 (.inl h2), h3⟩
      · exact ⟨q0, hq, (hs q0).2 (.inr rfl), _, in_T48 (by omega), h1⟩
    · rintro ⟨q, h1, h2, e, h3, h4⟩
      rcases (hs q).1 h2 with h2 | rfl
      · exact .inl ⟨q, h1, h2, e, h3, h4⟩
      · obtain ⟨i, hi, rfl⟩ := mem_T48 h3
        exact .inr ⟨i, by omega, h4⟩
  · rcases (hs q).1 h2 with h2 | rfl
    · exact h.ok q h1 h2
    · refine ⟨hz, fun e he => ?_⟩
      obtain ⟨i, hi, rfl⟩ := mem_T48 he
      exact h.okj i (by omega)
/-- All of a set's states are gone through. -/
theorem Ahd.done (h : Ahd T nk IN D x left DA) (hl : ∀ z, left z = false) (hE : IsEdges T nk IN ME) (hC : TChk T nk nr np) (hk : Keys T nk D) : EndsOk T nk g (x :: r) (Hs D) ↔ EndsOk T nk g r (Hs DA) := by
  have hlt : ∀ q, Hs D q → q < T.mv.length := fun q hq => by
    obtain ⟨q1, e, hr⟩ := hk _ hq
    injection e with _ e
    obtain rfl : q = q1 := by omega
    exact hC.rc hr
  have key : EndsOk T nk g r (fun s => ∃ q, Hs D q ∧ Rc T nk s ∧ ∃ y, IsEd T nk s y q) ↔ EndsOk T nk g r (Hs DA) := EndsOk.congr fun p => by
    rw [h.ins p]
    constructor
    · rintro ⟨q, h1, h2, y, h3⟩
      exact ⟨q, h1, hl _, ⟨p, y⟩, (hE.ins q (hlt q h1) _).2 ⟨by simp, by simpa using h2, by simpa using h3⟩, rfl⟩
    · rintro ⟨q, h1, _, e, h3, h4⟩
      obtain ⟨_, h5, h6⟩ := (hE.ins q (hlt q h1) e).1 h3
      rw [h4, Int.toNat_natCast] at h5 h6
      exact ⟨q, h1, h5, _, h6⟩
  simp only [EndsOk]
  rw [key]
  constructor
  · exact fun h => h.2
  · refine fun h2 => ⟨fun q hq => ⟨(h.ok q hq (hl _)).1, fun s y hs hy => ?_⟩, h2⟩
    exact (h.ok q hq (hl _)).2 ⟨s, y⟩ ((hE.ins q (hlt q hq) _).2 ⟨by simp, by simpa using hs, by simpa using hy⟩)
theorem ends_zero (h : Hs D 0) : ¬ EndsOk T nk g (x :: r) (Hs D) := fun h1 => (h1.1 0 h).1 rfl
theorem ends_not (hE : IsEdges T nk IN ME) (hq : Hs D q0) (hl : q0 < T.mv.length) {e : S48} (he : e ∈ rd_L2 IN (q0 : Int)) (hx : e.f1 ≠ x) : ¬ EndsOk T nk g (x :: r) (Hs D) := fun h1 => by
  obtain ⟨h2, h3, h4⟩ := (hE.ins q0 hl e).1 he
  exact hx ((h1.1 q0 hq).2 _ _ h3 h4)
end
end Go.Proofs.Ytlpmjmanmncmnaa.Tab
