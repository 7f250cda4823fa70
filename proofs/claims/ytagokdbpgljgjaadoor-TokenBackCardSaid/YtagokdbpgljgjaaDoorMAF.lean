/-
Sets of texts, as maps from texts to true: what a look-up and a store do.
-/
import Derived.Test.YtagokdbpgljgjaaDoorProg
import Derived.Lib.Hide
import Derived.Outline
import Derived.IntWalk
import Derived.Carry
import Derived.Maps.OwnSet
import Derived.WalkSpells
import Derived.Test.YtagokdbpgljgjaaDoorMAD
set_option linter.unusedSimpArgs false
set_option linter.unusedVariables false
namespace Go.Proofs.YtagokdbpgljgjaaDoor.TextSet
open Go.RowKit Go.Proofs.YtagokdbpgljgjaaDoorW.PrintWords Go.Proofs.YtagokdbpgljgjaaDoorW.PrintLast Go.Proofs.YtagokdbpgljgjaaDoorW.PrintMore Go.Proofs.YtagokdbpgljgjaaDoor.Fr
theorem ba_eq {a b : ByteArray} : (a == b) = true ↔ a = b := by
  cases a with | mk a => cases b with | mk b =>
  show (a == b) = true ↔ _
  rw [beq_iff_eq]
  exact ⟨fun h => by rw [h], fun h => by injection h⟩
theorem ba_ne {a b : ByteArray} (h : a ≠ b) : (a == b) = false := by
  cases hb : a == b with
  | false => rfl
  | true => exact absurd (ba_eq.1 hb) h
/-- Whether a text is among some. -/
def inS (s : ByteArray) (ks : List ByteArray) : Bool := ks.any (fun k => s == k)
theorem inS_iff {s : ByteArray} {ks : List ByteArray} : inS s ks = true ↔ s ∈ ks := by
  simp only [inS, List.any_eq_true]
  exact ⟨fun ⟨x, hx, he⟩ => by rw [ba_eq.1 he]; exact hx, fun h => ⟨s, h, ba_eq.2 rfl⟩⟩
theorem inS_false {s : ByteArray} {ks : List ByteArray} (h : ¬ s ∈ ks) : inS s ks = false := by
  cases hb : inS s ks with
  | false => rfl
  | true => exact absurd (inS_iff.1 hb) h
/-- Block m is the set of the texts ks. -/
def SSet (w : World) (m : Nat) (ks : List ByteArray) : Prop :=
  ∃ es c, w.heap[m]? = some (.map es c) ∧ es.toList.map (fun e => (e.key, e.val)) = ks.map (fun s => (Value.string s, Value.bool true))
theorem SSet.fr {w w1 : World} {m : Nat} {ks : List ByteArray} {S : Nat → Prop} (h : SSet w m ks) (hF : Fr S w w1) (hm : ¬ S m) : SSet w1 m ks := by
  obtain ⟨es, c, hb, he⟩ := h
  exact ⟨es, c, hF.blk hb hm, he⟩
theorem SSet.lt {w : World} {m : Nat} {ks : List ByteArray} (h : SSet w m ks) : m < w.heap.size := by
  obtain ⟨es, c, hb, _⟩ := h
  exact blk_lt hb
theorem find_out {s : ByteArray} : ∀ (es : List MapEntry) (ks : List ByteArray) (i : Nat), es.map (fun e => (e.key, e.val)) = ks.map (fun s => (Value.string s, Value.bool true)) → ¬ s ∈ ks → Instr.findNow .string (.string s) es i = some none
  | [], _, _, _, _ => rfl
  | e :: es, [], _, h, _ => by simp at h
  | e :: es, k :: ks, i, h, hn => by
    simp only [List.map_cons, List.cons.injEq, Prod.mk.injEq] at h
    obtain ⟨⟨hk, _⟩, hr⟩ := h
    have hne : (s == k) = false := ba_ne (fun e => hn (by rw [e]; exact List.mem_cons_self ..))
    unfold Instr.findNow
    rw [hk]
    show (match some (s == k) with | some true => _ | some false => _ | none => _) = _
    rw [hne]
    exact find_out es ks (i + 1) hr (fun hm => hn (List.mem_cons_of_mem _ hm))
theorem find_in {s : ByteArray} : ∀ (es : List MapEntry) (ks : List ByteArray) (i : Nat), es.map (fun e => (e.key, e.val)) = ks.map (fun s => (Value.string s, Value.bool true)) → s ∈ ks →
    ∃ j e, es[j]? = some e ∧ e.key = .string s ∧ e.val = .bool true ∧ Instr.findNow .string (.string s) es i = some (some (i + j, .bool true))
  | [], ks, _, h, hm => by
    cases ks with
    | nil => cases hm
    | cons _ _ => simp at h
  | e :: es, [], _, h, _ => by simp at h
  | e :: es, k :: ks, i, h, hm => by
    simp only [List.map_cons, List.cons.injEq, Prod.mk.injEq] at h
    obtain ⟨⟨hk, hv⟩, hr⟩ := h
    by_cases hs : s = k
    · subst hs
      refine ⟨0, e, rfl, hk, hv, ?_⟩
      unfold Instr.findNow
      rw [hk, hv]
      show (match some (s == s) with | some true => _ | some false => _ | none => _) = _
      rw [ba_eq.2 rfl]
      rfl
    · have hne : (s == k) = false := ba_ne hs
      obtain ⟨j, e2, h1, h2, h3, h4⟩ := find_in es ks (i + 1) hr (by rcases List.mem_cons.1 hm with e | e; exact absurd e hs; exact e)
      refine ⟨j + 1, e2, by simpa using h1, h2, h3, ?_⟩
      unfold Instr.findNow
      rw [hk]
      show (match some (s == k) with | some true => _ | some false => _ | none => _) = _
      rw [hne]
      rw [show i + (j + 1) = i + 1 + j by omega]
      exact h4
theorem getObj_map {w : World} {m : Nat} {es : Array MapEntry} {c : Nat} (hm : w.heap[m]? = some (.map es c)) : (getObj m).run Tryd.prog w = .ok (.map es c) w := by
  simp [getObj, Sem.run, hm]
theorem checkKey_ok (b : Bool) (s : ByteArray) (w : World) : (Instr.checkKey b 10000 9 (.string s)).run Tryd.prog w = .ok () w := by kernel_rfl
theorem findKey_ok (s : ByteArray) (es : List MapEntry) (r : Option (Nat × Value)) (h : Instr.findNow .string (.string s) es 0 = some r) (w : World) : (Instr.findKey 9 (.string s) es).run Tryd.prog w = .ok r w := by
  have hu := Tryd.underlying9
  simp [Instr.findKey, run_underlying hu, h, go_sem]
theorem look (w : World) (m : Nat) (ks : List ByteArray) (h : SSet w m ks) (s : ByteArray) : (Instr.lookup 74 (.map (some m)) (.string s) false).run Tryd.prog w = .ok (.bool (inS s ks)) w := by
  obtain ⟨es, c, hb, he⟩ := h
  have hu := Tryd.underlying74
  have hz : ∀ w, (zeroValue 4).run Tryd.prog w = .ok (.bool false) w := fun w => by kernel_rfl
  by_cases hm : s ∈ ks
  · obtain ⟨j, e, _, _, _, hf⟩ := find_in es.toList ks 0 he hm
    simp [Instr.lookup, run_underlying hu, getObj_map hb, checkKey_ok, findKey_ok s es.toList _ hf, go_sem, inS_iff.2 hm]
  · have hf := find_out es.toList ks 0 he hm
    simp [Instr.lookup, run_underlying hu, getObj_map hb, checkKey_ok, findKey_ok s es.toList _ hf, hz, go_sem, inS_false hm]
def put (w : World) (m : Nat) (o : Obj) : World := { w with heap := w.heap.setIfInBounds m o }
theorem put_fr (w : World) (m : Nat) (o : Obj) : Fr (fun i => i = m) w (put w m o) := ⟨rfl, rfl, rfl, by simp [put], fun i _ hn => by simp only [put]; rw [Array.getElem?_setIfInBounds, if_neg (fun e => hn e.symm)]⟩
theorem put_at {w : World} {m : Nat} (h : m < w.heap.size) (o : Obj) : (put w m o).heap[m]? = some o := by simp [put, h]
theorem store (w : World) (m : Nat) (ks : List ByteArray) (h : SSet w m ks) (s : ByteArray) :
    ∃ w', (Instr.mapUpdate 74 (.map (some m)) (.string s) (.bool true)).run Tryd.prog w = .ok () w' ∧ SSet w' m (if inS s ks = true then ks else ks ++ [s]) ∧ Fr (fun i => i = m) w w' := by
  have hlt := h.lt
  obtain ⟨es, c, hb, he⟩ := h
  have hu := Tryd.underlying74
  by_cases hm : s ∈ ks
  · obtain ⟨j, e, hj, hk, hv, hf⟩ := find_in es.toList ks 0 he hm
    rw [Nat.zero_add] at hf
    have hs : (((es[j]?).map (·.key)).getD (.string s)) = .string s := by rw [← Array.getElem?_toList, hj]; simpa using hk
    have hst : ∀ w, (Instr.keyThatStays (.string s) (.string s)).run Tryd.prog w = .ok (.string s) w := fun w => by
      have : Instr.sameBits 10000 (.string s) (.string s) = true := by unfold Instr.sameBits; exact ba_eq.2 rfl
      simp [Instr.keyThatStays, this, go_sem]
    refine ⟨put w m (.map (es.modify j fun e => { e with key := .string s, val := .bool true }) c), ?_, ?_, put_fr _ _ _⟩
    · simp [Instr.mapUpdate, run_underlying hu, getObj_map hb, checkKey_ok, findKey_ok s es.toList _ hf, hs, hst, go_sem]
      simp [setObj, Sem.run, hb, put]
    · rw [if_pos (inS_iff.2 hm)]
      refine ⟨_, _, put_at hlt _, ?_⟩
      rw [← he]
      apply List.ext_getElem?
      intro i
      simp only [List.getElem?_map, Array.getElem?_toList, Array.getElem?_modify]
      by_cases hij : j = i
      · subst hij
        rw [Array.getElem?_toList] at hj
        simp [hj, hk, hv]
      · simp [hij]
  · have hf := find_out es.toList ks 0 he hm
    refine ⟨put w m (.map (es.push { key := .string s, val := .bool true, born := c }) (c + 1)), ?_, ?_, put_fr _ _ _⟩
    · simp [Instr.mapUpdate, run_underlying hu, getObj_map hb, checkKey_ok, findKey_ok s es.toList _ hf, go_sem]
      simp [setObj, Sem.run, hb, put]
    · rw [if_neg (by rw [inS_false hm]; decide)]
      refine ⟨_, _, put_at hlt _, ?_⟩
      simp [he]
theorem fresh (w : World) : SSet (w.alloc (.map #[] 0)) w.heap.size [] := ⟨#[], 0, blk_new _ _, rfl⟩
end Go.Proofs.YtagokdbpgljgjaaDoor.TextSet
