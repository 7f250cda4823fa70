/-
Sets of texts, as maps from texts to true: what a look-up and a store do.
-/
import Derived.Test.YtdngobjcdajogaaProg
import Derived.Lib.Hide
import Derived.Outline
import Derived.IntWalk
import Derived.Carry
import Derived.Maps.OwnSet
import Derived.WalkSpells
import Derived.Test.YtdngobjcdajogaaMAD
import Derived.Test.YtdngobjcdajogaaMAB
import Derived.Test.YtdngobjcdajogaaMAA
set_option linter.unusedSimpArgs false
set_option linter.unusedVariables false
namespace Go.Proofs.Ytdngobjcdajogaa.TextSet
open Go.RowKit Go.Proofs.YtdngobjcdajogaaW.PrintWords Go.Proofs.YtdngobjcdajogaaW.PrintLast Go.Proofs.YtdngobjcdajogaaW.PrintMore Go.Proofs.Ytdngobjcdajogaa.Fr
theorem ba_eq {a b : ByteArray} : (a == b) = true ↔ a = b := by
 cases a with | mk a => cases b with | mk b =>
 show (a == b) = true ↔ _
 rw [beq_iff_eq]; exact ⟨fun h => by rw [h], fun h => by injection h⟩
theorem ba_ne {a b : ByteArray} (h : a ≠ b) : (a == b) = false := by
 cases hb : a == b with
 | false => rfl
 | true => exact absurd (ba_eq.1 hb) h
def inS (s : ByteArray) (ks : List ByteArray) : Bool := ks.any (fun k => s == k)
theorem inS_iff {s : ByteArray} {ks : List ByteArray} : inS s ks = true ↔ s ∈ ks := by
 simp only [inS, List.any_eq_true]; exact ⟨fun ⟨x, hx, he⟩ => by rw [ba_eq.1 he]; exact hx, fun h => ⟨s, h, ba_eq.2 rfl⟩⟩
theorem inS_false {s : ByteArray} {ks : List ByteArray} (h : ¬ s ∈ ks) : inS s ks = false := by
 cases hb : inS s ks with
 | false => rfl
 | true => exact absurd (inS_iff.1 hb) h
def SSet (w : World) (m : Nat) (ks : List ByteArray) : Prop :=
 ∃ es c, w.heap[m]? = some (.map es c) ∧ es.toList.map (fun e => (e.key, e.val)) = ks.map (fun s => (Value.string s, Value.bool true))
theorem SSet.fr {w w1 : World} {m : Nat} {ks : List ByteArray} {S : Nat → Prop} (h : SSet w m ks) (hF : Fr S w w1) (hm : ¬ S m) : SSet w1 m ks := by
 obtain ⟨es, c, hb, he⟩ := h; exact ⟨es, c, hF.blk hb hm, he⟩
theorem SSet.lt {w : World} {m : Nat} {ks : List ByteArray} (h : SSet w m ks) : m < w.heap.size := by
 obtain ⟨es, c, hb, _⟩ := h; exact blk_lt hb
theorem find_out {s : ByteArray} : ∀ (es : List MapEntry) (ks : List ByteArray) (i : Nat), es.map (fun e => (e.key, e.val)) = ks.map (fun s => (Value.string s, Value.bool true)) → ¬ s ∈ ks → Instr.findNow .string (.string s) es i = some none
 | [], _, _, _, _ => rfl
 | e :: es, [], _, h, _ => by simp at h
 | e :: es, k :: ks, i, h, hn => by
  simp only [List.map_cons, List.cons.injEq, Prod.mk.injEq] at h; obtain ⟨⟨hk, _⟩, hr⟩ := h; have hne : (s == k) = false := ba_ne (fun e => hn (by rw [e]; exact List.mem_cons_self ..)); unfold Instr.findNow; rw [hk]; show (match some (s == k) with | some true => _ | some false => _ | none => _) = _
  rw [hne]; exact find_out es ks (i + 1) hr (fun hm => hn (List.mem_cons_of_mem _ hm))
theorem find_in {s : ByteArray} : ∀ (es : List MapEntry) (ks : List ByteArray) (i : Nat), es.map (fun e => (e.key, e.val)) = ks.map (fun s => (Value.string s, Value.bool true)) → s ∈ ks →
 ∃ j e, es[j]? = some e ∧ e.key = .string s ∧ e.val = .bool true ∧ Instr.findNow .string (.string s) es i = some (some (i + j, .bool true))
 | [], ks, _, h, hm => by
  cases ks with
  | nil => cases hm
  | cons _ _ => simp at h
 | e :: es, [], _, h, _ => by simp at h
 | e :: es, k :: ks, i, h, hm => by
  simp only [List.map_cons, List.cons.injEq, Prod.mk.injEq] at h; obtain ⟨⟨hk, hv⟩, hr⟩ := h; by_cases hs : s = k
  · subst hs
    refine ⟨0, e, rfl, hk, hv, ?_⟩; unfold Instr.findNow; rw [hk, hv]; show (match some (s == s) with | some true => _ | some false => _ | none => _) = _
    rw [ba_eq.2 rfl]; rfl
  · have hne : (s == k) = false := ba_ne hs
    obtain ⟨j, e2, h1, h2, h3, h4⟩ := find_in es ks (i + 1) hr (by rcases List.mem_cons.1 hm with e | e; exact absurd e hs; exact e); refine ⟨j + 1, e2, by simpa using h1, h2, h3, ?_⟩; unfold Instr.findNow; rw [hk]; show (match some (s == k) with | some true => _ | some false => _ | none => _) = _
    rw [hne]; rw [show i + (j + 1) = i + 1 + j by omega]; exact h4
theorem getObj_map {w : World} {m : Nat} {es : Array MapEntry} {c : Nat} (hm : w.heap[m]? = some (.map es c)) : (getObj m).run Try.prog w = .ok (.map es c) w := by
 simp [getObj, Sem.run, hm]
theorem checkKey_ok (b : Bool) (s : ByteArray) (w : World) : (Instr.checkKey b 10000 9 (.string s)).run Try.prog w = .ok () w := by kernel_rfl
theorem findKey_ok (s : ByteArray) (es : List MapEntry) (r : Option (Nat × Value)) (h : Instr.findNow .string (.string s) es 0 = some r) (w : World) : (Instr.findKey 9 (.string s) es).run Try.prog w = .ok r w := by
 have hu := Try.underlying9; simp [Instr.findKey, run_underlying hu, h, go_sem]
theorem look (w : World) (m : Nat) (ks : List ByteArray) (h : SSet w m ks) (s : ByteArray) : (Instr.lookup 98 (.map (some m)) (.string s) false).run Try.prog w = .ok (.bool (inS s ks)) w := by
 obtain ⟨es, c, hb, he⟩ := h; have hu := Try.underlying98; have hz : ∀ w, (zeroValue 4).run Try.prog w = .ok (.bool false) w := fun w => by kernel_rfl
 by_cases hm : s ∈ ks
 · obtain ⟨j, e, _, _, _, hf⟩ := find_in es.toList ks 0 he hm
   simp [Instr.lookup, run_underlying hu, getObj_map hb, checkKey_ok, findKey_ok s es.toList _ hf, go_sem, inS_iff.2 hm]
 · have hf := find_out es.toList ks 0 he hm
   simp [Instr.lookup, run_underlying hu, getObj_map hb, checkKey_ok, findKey_ok s es.toList _ hf, hz, go_sem, inS_false hm]
def put (w : World) (m : Nat) (o : Obj) : World := { w with heap := w.heap.setIfInBounds m o }
theorem put_fr (w : World) (m : Nat) (o : Obj) : Fr (fun i => i = m) w (put w m o) := ⟨rfl, rfl, rfl, by simp [put], fun i _ hn => by simp only [put]; rw [Array.getElem?_setIfInBounds, if_neg (fun e => hn e.symm)]⟩
theorem put_at {w : World} {m : Nat} (h : m < w.heap.size) (o : Obj) : (put w m o).heap[m]? = some o := by simp [put, h]
theorem store (w : World) (m : Nat) (ks : List ByteArray) (h : SSet w m ks) (s : ByteArray) :
 ∃ w', (Instr.mapUpdate 98 (.map (some m)) (.string s) (.bool true)).run Try.prog w = .ok () w' ∧ SSet w' m (if inS s ks = true then ks else ks ++ [s]) ∧ Fr (fun i => i = m) w w' := by
 have hlt := h.lt; obtain ⟨es, c, hb, he⟩ := h; have hu := Try.underlying98; by_cases hm : s ∈ ks
 · obtain ⟨j, e, hj, hk, hv, hf⟩ := find_in es.toList ks 0 he hm
   rw [Nat.zero_add] at hf; have hs : (((es[j]?).map (·.key)).getD (.string s)) = .string s := by rw [← Array.getElem?_toList, hj]; simpa using hk
   have hst : ∀ w, (Instr.keyThatStays (.string s) (.string s)).run Try.prog w = .ok (.string s) w := fun w => by
    have : Instr.sameBits 10000 (.string s) (.string s) = true := by unfold Instr.sameBits; exact ba_eq.2 rfl
    simp [Instr.keyThatStays, this, go_sem]
   refine ⟨put w m (.map (es.modify j fun e => { e with key := .string s, val := .bool true }) c), ?_, ?_, put_fr _ _ _⟩
   · simp [Instr.mapUpdate, run_underlying hu, getObj_map hb, checkKey_ok, findKey_ok s es.toList _ hf, hs, hst, go_sem]
     simp [setObj, Sem.run, hb, put]
   · rw [if_pos (inS_iff.2 hm)]
     refine ⟨_, _, put_at hlt _, ?_⟩; rw [← he]; apply List.ext_getElem?
     intro i; simp only [List.getElem?_map, Array.getElem?_toList, Array.getElem?_modify]; by_cases hij : j = i
     · subst hij
       rw [Array.getElem?_toList] at hj; simp [hj, hk, hv]
     · simp [hij]
 · have hf := find_out es.toList ks 0 he hm
   refine ⟨put w m (.map (es.push { key := .string s, val := .bool true, born := c }) (c + 1)), ?_, ?_, put_fr _ _ _⟩
   · simp [Instr.mapUpdate, run_underlying hu, getObj_map hb, checkKey_ok, findKey_ok s es.toList _ hf, go_sem]
     simp [setObj, Sem.run, hb, put]
   · rw [if_neg (by rw [inS_false hm]; decide)]
     refine ⟨_, _, put_at hlt _, ?_⟩; simp [he]
theorem fresh (w : World) : SSet (w.alloc (.map #[] 0)) w.heap.size [] := ⟨#[], 0, blk_new _ _, rfl⟩
end Go.Proofs.Ytdngobjcdajogaa.TextSet
namespace Go.Proofs.YtdngobjcdajogaaW.PrintLast
open Go.Proofs.YtdngobjcdajogaaW.PrintWords (Aside0)
def needsOf (md : Region.Mode) (o : Oper) : List Nat := (o.after.toList.filter (fun e => Region.binds md e)).map (fun e => e.on)
def clashOf (md : Region.Mode) (ops : Array Oper) (i : Nat) (oi : Oper) : List Nat := (List.range ops.size).filter fun j => !(j == i) && match ops[j]? with
 | some oj => !(oj.after.any (fun e => Region.binds md e && e.on == i) || oi.apart ops oj)
 | none => false
def rtab (md : Region.Mode) (ops : Array Oper) : Bool × List (List Nat × List Nat) := (Region.noSelect ops, (List.range ops.size).map fun i => match ops[i]? with
 | some o => (needsOf md o, clashOf md ops i o)
 | none => ([], []))
def readyAt (T : List (List Nat × List Nat)) (l : List Bool) (i : Nat) : Bool := !l.getD i true && match T[i]? with
 | some r => r.1.all (fun j => l.getD j false)
 | none => false
def readyT (T : List (List Nat × List Nat)) (l : List Bool) : List Nat := (List.range T.length).filter (readyAt T l)
def freeT (T : List (List Nat × List Nat)) (l : List Bool) (i : Nat) : Bool := match T[i]? with
 | some r => r.2.all (fun j => l.getD j true)
 | none => false
def closedT (T : List (List Nat × List Nat)) (l : List Bool) : Bool := (List.range T.length).all fun j => !l.getD j false || match T[j]? with
 | some r => r.1.all (fun k => l.getD k false)
 | none => true
def reachT (T : List (List Nat × List Nat)) (i : Nat) : Nat → Nat → Bool
 | 0, _ => false
 | fuel + 1, d => match T[d]? with
  | some r => r.1.any fun j => j == i || reachT T i fuel j
  | none => false
def lastT (T : List (List Nat × List Nat)) (l : List Bool) (ds : List Nat) (i : Nat) : Bool := ds.all fun d => l.getD d true || reachT T i T.length d
section
variable {md : Region.Mode} {ops : Array Oper} {T : Bool × List (List Nat × List Nat)} {l l' li lj lk : Array Bool} {ds : List Nat} {i j k : Nat}
theorem gd (l : Array Bool) (j : Nat) (b : Bool) : l.getD j b = l.toList.getD j b := by simp [Array.getD_eq_getD_getElem?, List.getD_eq_getElem?_getD]
theorem needs_all (o : Oper) (p : Nat → Bool) : o.after.all (fun e => !Region.binds md e || p e.on) = (needsOf md o).all p := by
 unfold needsOf; rw [← Array.all_toList]; induction o.after.toList with
 | nil => rfl
 | cons e r ih =>
  rw [List.all_cons, ih, List.filter_cons]; cases h : Region.binds md e <;> simp
theorem needs_any (o : Oper) (p : Nat → Bool) : o.after.any (fun e => Region.binds md e && p e.on) = (needsOf md o).any p := by
 unfold needsOf; rw [← Array.any_toList]; induction o.after.toList with
 | nil => rfl
 | cons e r ih =>
  rw [List.any_cons, ih, List.filter_cons]; cases h : Region.binds md e <;> simp
theorem rtab_length : (rtab md ops).2.length = ops.size := by simp [rtab]
theorem rtab_some {o : Oper} (h : ops[i]? = some o) : (rtab md ops).2[i]? = some (needsOf md o, clashOf md ops i o) := by
 have hi := (Array.getElem?_eq_some_iff.1 h).1; unfold rtab; rw [List.getElem?_map, List.getElem?_range hi, Option.map_some, h]
theorem rtab_none (h : ops[i]? = none) : (rtab md ops).2[i]? = none := by
 have hi : ops.size ≤ i := Array.getElem?_eq_none_iff.1 h; exact List.getElem?_eq_none (by rw [rtab_length]; exact hi)
theorem readyAt_eq : readyAt (rtab md ops).2 l.toList i = (!l.getD i true && ((ops[i]?).map (·.after.all fun e => !Region.binds md e || l.getD e.on false)).getD false) := by
 unfold readyAt; rw [gd]; cases h : ops[i]? with
 | none => rw [rtab_none h]; rfl
 | some o =>
  rw [rtab_some h]; simp only [Option.map_some, Option.getD_some]; rw [← needs_all]; simp only [gd]
theorem ready_eq : Region.ready md ops l = readyT (rtab md ops).2 l.toList := by
 unfold Region.ready readyT; rw [rtab_length]; refine List.filter_congr (fun i _ => ?_); rw [readyAt_eq]
theorem free_eq : Region.free md ops l i = freeT (rtab md ops).2 l.toList i := by
 unfold Region.free freeT; cases h : ops[i]? with
 | none => rw [rtab_none h]
 | some oi =>
  rw [rtab_some h]; simp only [clashOf]; rw [List.all_filter]; congr 1
  funext j
  rw [gd]; cases hj : ops[j]? with
  | none => cases (j == i) <;> cases (l.toList.getD j true) <;> simp
  | some oj =>
   cases (j == i) <;> cases (l.toList.getD j true) <;> cases (oj.after.any (fun e => Region.binds md e && e.on == i) || oi.apart ops oj) <;> simp_all
theorem closed_eq : Region.closedB md ops l = closedT (rtab md ops).2 l.toList := by
 unfold Region.closedB closedT; rw [rtab_length]; congr 1
 funext j
 rw [gd]; cases h : ops[j]? with
 | none => rw [rtab_none h]
 | some o =>
  rw [rtab_some h]; simp only; rw [← needs_all]; simp only [gd]
theorem reach_eq : ∀ (fuel d : Nat), Region.reachB md ops i fuel d = reachT (rtab md ops).2 i fuel d
 | 0, _ => rfl
 | fuel + 1, d => by
  unfold Region.reachB reachT; cases h : ops[d]? with
  | none => rw [rtab_none h]
  | some o =>
   rw [rtab_some h]; simp only; rw [← needs_any]; congr 1
   funext e
   rw [reach_eq fuel]
theorem last_eq : Region.lastB md ops l ds i = lastT (rtab md ops).2 l.toList ds i := by
 unfold Region.lastB lastT; rw [rtab_length]; congr 1
 funext d
 rw [gd, reach_eq]
theorem readyAt_mem (h : readyAt T.2 l.toList i = true) (hT : rtab md ops = T) : (Region.ready md ops l).contains i = true := by
 subst hT; rw [ready_eq]; unfold readyT; rw [List.contains_iff_mem, List.mem_filter, List.mem_range]; refine ⟨?_, h⟩; unfold readyAt at h; rw [Bool.and_eq_true] at h; cases hq : (rtab md ops).2[i]? with
 | none => rw [hq] at h; simp at h
 | some r => exact (List.getElem?_eq_some_iff.1 hq).1
theorem set_of (h : (l.toList.set i true == l'.toList) = true) : (l.setIfInBounds i true == l') = true := by
 rw [beq_iff_eq] at h ⊢; apply Array.ext'
 rw [Array.toList_setIfInBounds]; exact h
def anyT (T : Bool × List (List Nat × List Nat)) (l l' : List Bool) (i : Nat) : Bool := T.1 && freeT T.2 l i && readyAt T.2 l i && (l.set i true == l')
theorem any_of (hT : rtab md ops = T) (h : anyT T l.toList l'.toList i = true) : anyB md ops l l' i = true := by
 simp only [anyT, Bool.and_eq_true] at h; obtain ⟨⟨⟨h1, h2⟩, h3⟩, h4⟩ := h; have h5 := readyAt_mem h3 hT; have h6 := set_of h4; subst hT; simp only [anyB, Bool.and_eq_true]; exact ⟨⟨⟨h1, by rw [free_eq]; exact h2⟩, h5⟩, h6⟩
def takeT (T : Bool × List (List Nat × List Nat)) (ds : List Nat) (l l' : List Bool) (i : Nat) : Bool := T.1 && freeT T.2 l i && readyAt T.2 l i && closedT T.2 l && lastT T.2 l ds i && (l.set i true == l')
theorem take_of (hT : rtab md ops = T) (h : takeT T ds l.toList l'.toList i = true) : takeB md ops ds l l' i = true := by
 simp only [takeT, Bool.and_eq_true] at h; obtain ⟨⟨⟨⟨⟨h1, h2⟩, h3⟩, h4⟩, h5⟩, h6⟩ := h; have h7 := readyAt_mem h3 hT; have h8 := set_of h6; subst hT; simp only [takeB, Bool.and_eq_true]; exact ⟨⟨⟨⟨⟨h1, by rw [free_eq]; exact h2⟩, h7⟩, by rw [closed_eq]; exact h4⟩, by rw [last_eq]; exact h5⟩, h8⟩
theorem one_of (hT : rtab md ops = T) (h : (readyT T.2 l.toList == [i] && l.toList.set i true == l'.toList) = true) : readyB md ops l l' i = true := by
 simp only [Bool.and_eq_true] at h; obtain ⟨h1, h2⟩ := h; subst hT; simp only [readyB, Bool.and_eq_true]; exact ⟨by rw [ready_eq]; exact h1, set_of h2⟩
theorem done_of (hT : rtab md ops = T) (h : (readyT T.2 l.toList == []) = true) : (Region.ready md ops l == []) = true := by
 subst hT; rw [ready_eq]; exact h
def upM (B : List Nat) (d : Nat) : List Nat → Nat
 | [] => 0
 | n :: r => (2 ^ n ||| (if n < d then B.getD n 0 else 0)) ||| upM B d r
def waitsOk (T : List (List Nat × List Nat)) (B : List Nat) : Bool := (List.range T.length).all fun d => match T[d]? with
 | some r => (B.getD d 0 ||| upM B d r.1) == upM B d r.1
 | none => false
theorem upM_bit {B : List Nat} {d i : Nat} : ∀ {ns : List Nat}, (upM B d ns).testBit i = true → ∃ n ∈ ns, n = i ∨ (n < d ∧ (B.getD n 0).testBit i = true)
 | [], h => by simp [upM] at h
 | n :: r, h => by
  unfold upM at h; rw [Nat.testBit_or, Nat.testBit_or, Bool.or_eq_true, Bool.or_eq_true] at h; rcases h with (h | h) | h
  · rw [Nat.testBit_two_pow] at h
    exact ⟨n, List.mem_cons_self, .inl (by simpa using h)⟩
  · by_cases hn : n < d
    · rw [if_pos hn] at h
      exact ⟨n, List.mem_cons_self, .inr ⟨hn, h⟩⟩
    · rw [if_neg hn] at h
      simp at h
  · obtain ⟨m, hm, h2⟩ := upM_bit h
    exact ⟨m, List.mem_cons_of_mem _ hm, h2⟩
theorem reach_bit {T : List (List Nat × List Nat)} {B : List Nat} (hB : waitsOk T B = true) : ∀ (fuel d : Nat), d < fuel → d < T.length → (B.getD d 0).testBit i = true → reachT T i fuel d = true
 | 0, d, h, _, _ => by omega
 | fuel + 1, d, h, hd, hb => by
  have h1 := List.all_eq_true.1 hB d (List.mem_range.2 hd); cases hr : T[d]? with
  | none => rw [hr] at h1; simp at h1
  | some r =>
   rw [hr] at h1; simp only [beq_iff_eq] at h1; have h2 : (upM B d r.1).testBit i = true := by rw [← h1, Nat.testBit_or, hb, Bool.true_or]
   obtain ⟨n, hn, h3⟩ := upM_bit h2; unfold reachT; rw [hr]; simp only; rw [List.any_eq_true]; refine ⟨n, hn, ?_⟩; rcases h3 with rfl | ⟨h4, h5⟩
   · simp
   · rw [reach_bit hB fuel n (by omega) (by omega) h5, Bool.or_true]
def lastW (T : List (List Nat × List Nat)) (B : List Nat) (l : List Bool) (ds : List Nat) (i : Nat) : Bool := ds.all fun d => l.getD d true || (decide (d < T.length) && (B.getD d 0).testBit i)
def takeW (T : Bool × List (List Nat × List Nat)) (B : List Nat) (ds : List Nat) (l l' : List Bool) (i : Nat) : Bool := T.1 && freeT T.2 l i && readyAt T.2 l i && closedT T.2 l && lastW T.2 B l ds i && (l.set i true == l')
theorem take_ofW {B : List Nat} (hT : rtab md ops = T) (hB : waitsOk T.2 B = true) (h : takeW T B ds l.toList l'.toList i = true) : takeB md ops ds l l' i = true := by
 refine take_of hT ?_; simp only [takeW, takeT, Bool.and_eq_true] at h ⊢; obtain ⟨⟨⟨⟨⟨h1, h2⟩, h3⟩, h4⟩, h5⟩, h6⟩ := h; refine ⟨⟨⟨⟨⟨h1, h2⟩, h3⟩, h4⟩, ?_⟩, h6⟩; unfold lastW at h5; unfold lastT; rw [List.all_eq_true] at h5 ⊢; intro d hd; have h7 := h5 d hd; rw [Bool.or_eq_true, Bool.and_eq_true, decide_eq_true_eq] at h7; rcases h7 with h7 | ⟨h8, h9⟩
 · rw [h7, Bool.true_or]
 · rw [reach_bit hB _ d h8 h8 h9, Bool.or_true]
theorem with_tabW {P : Program} {Q : Exit → Act → World → Prop} {S : World → Prop} {n : Nat} {a : Act} {w : World} {B : List Nat} (hT : rtab md ops = T) (hB : waitsOk T.2 B = true) (h : Aside0 (rtab md ops = T) → Aside0 (waitsOk T.2 B = true) → wpAnyLast P md ops Q S ds n l a w) : wpAnyLast P md ops Q S ds n l a w := h ⟨hT⟩ ⟨hB⟩
end
def opsIn : Code → Nat → Option (Array Oper)
 | .region id ops _, k => if id == k then some ops else none
 | .seq a b, k => match opsIn a k with
  | some o => some o
  | none => opsIn b k
 | .cond _ a b, k => match opsIn a k with
  | some o => some o
  | none => opsIn b k
 | .block _ c, k => opsIn c k
 | .loop c, k => opsIn c k
 | .scope c, k => opsIn c k
 | .rangeFunc _ _ a b, k => match opsIn a k with
  | some o => some o
  | none => opsIn b k
 | _, _ => none
def opsOf (f : Func) (k : Nat) : Array Oper := ((f.body.bind fun c => opsIn c k)).getD #[]
end Go.Proofs.YtdngobjcdajogaaW.PrintLast
namespace Go.Proofs.YtdngobjcdajogaaW.PrintWords
theorem Reps.one {α : Type} {R : α → List Value → Prop} {ps : List α} {cs : List Value} {p : α} {v : Value} (hp : R p [v]) (h : Reps R 1 ps cs) : Reps R 1 (p :: ps) (v :: cs) := by
 refine ⟨by simp [h.1], fun j q hq => ?_⟩; cases j with
 | zero =>
  simp only [List.getElem?_cons_zero, Option.some.injEq] at hq; subst hq; simpa using hp
 | succ j =>
  simp only [List.getElem?_cons_succ] at hq; have h1 := h.2 j q hq; simpa [Nat.mul_one] using h1
theorem Reps.front {α : Type} {R : α → List Value → Prop} {size : Nat} {ps : List α} {cs c all : List Value} {p : α} (hp : R p c) (hc : c.length = size) (h : Reps R size ps cs) (ha : c ++ cs = all) : Reps R size (p :: ps) all := by
 subst ha; refine ⟨by rw [List.length_append, hc, h.1, List.length_cons, Nat.succ_mul, Nat.add_comm], fun j q hq => ?_⟩; cases j with
 | zero =>
  simp only [List.getElem?_cons_zero, Option.some.injEq] at hq; subst hq; rw [Nat.zero_mul, List.drop_zero, List.take_append_of_le_length (by omega), List.take_of_length_le (by omega)]; exact hp
 | succ j =>
  simp only [List.getElem?_cons_succ] at hq; have h1 := h.2 j q hq; rw [Nat.succ_mul, List.drop_append, List.drop_of_length_le (by rw [hc]; exact Nat.le_add_left _ _), List.nil_append, hc, Nat.add_sub_cancel]; exact h1
theorem Reps.c2 {α : Type} {R : α → List Value → Prop} {ps : List α} {cs : List Value} {p : α} {va vb : Value} (hp : R p [va, vb]) (h : Reps R 2 ps cs) : Reps R 2 (p :: ps) (va :: vb :: cs) := Reps.front hp rfl h rfl
theorem Reps.c3 {α : Type} {R : α → List Value → Prop} {ps : List α} {cs : List Value} {p : α} {va vb vc : Value} (hp : R p [va, vb, vc]) (h : Reps R 3 ps cs) : Reps R 3 (p :: ps) (va :: vb :: vc :: cs) := Reps.front hp rfl h rfl
theorem Reps.c4 {α : Type} {R : α → List Value → Prop} {ps : List α} {cs : List Value} {p : α} {va vb vc vd : Value} (hp : R p [va, vb, vc, vd]) (h : Reps R 4 ps cs) : Reps R 4 (p :: ps) (va :: vb :: vc :: vd :: cs) := Reps.front hp rfl h rfl
theorem Reps.c5 {α : Type} {R : α → List Value → Prop} {ps : List α} {cs : List Value} {p : α} {va vb vc vd ve : Value} (hp : R p [va, vb, vc, vd, ve]) (h : Reps R 5 ps cs) : Reps R 5 (p :: ps) (va :: vb :: vc :: vd :: ve :: cs) := Reps.front hp rfl h rfl
theorem Reps.c6 {α : Type} {R : α → List Value → Prop} {ps : List α} {cs : List Value} {p : α} {va vb vc vd ve vf : Value} (hp : R p [va, vb, vc, vd, ve, vf]) (h : Reps R 6 ps cs) : Reps R 6 (p :: ps) (va :: vb :: vc :: vd :: ve :: vf :: cs) := Reps.front hp rfl h rfl
theorem Reps.c7 {α : Type} {R : α → List Value → Prop} {ps : List α} {cs : List Value} {p : α} {va vb vc vd ve vf vg : Value} (hp : R p [va, vb, vc, vd, ve, vf, vg]) (h : Reps R 7 ps cs) : Reps R 7 (p :: ps) (va :: vb :: vc :: vd :: ve :: vf :: vg :: cs) := Reps.front hp rfl h rfl
theorem Reps.c8 {α : Type} {R : α → List Value → Prop} {ps : List α} {cs : List Value} {p : α} {va vb vc vd ve vf vg vh : Value} (hp : R p [va, vb, vc, vd, ve, vf, vg, vh]) (h : Reps R 8 ps cs) : Reps R 8 (p :: ps) (va :: vb :: vc :: vd :: ve :: vf :: vg :: vh :: cs) := Reps.front hp rfl h rfl
theorem Reps.c9 {α : Type} {R : α → List Value → Prop} {ps : List α} {cs : List Value} {p : α} {va vb vc vd ve vf vg vh vi : Value} (hp : R p [va, vb, vc, vd, ve, vf, vg, vh, vi]) (h : Reps R 9 ps cs) : Reps R 9 (p :: ps) (va :: vb :: vc :: vd :: ve :: vf :: vg :: vh :: vi :: cs) := Reps.front hp rfl h rfl
theorem Reps.c10 {α : Type} {R : α → List Value → Prop} {ps : List α} {cs : List Value} {p : α} {va vb vc vd ve vf vg vh vi vj : Value} (hp : R p [va, vb, vc, vd, ve, vf, vg, vh, vi, vj]) (h : Reps R 10 ps cs) : Reps R 10 (p :: ps) (va :: vb :: vc :: vd :: ve :: vf :: vg :: vh :: vi :: vj :: cs) := Reps.front hp rfl h rfl
end Go.Proofs.YtdngobjcdajogaaW.PrintWords
namespace Go.Proofs.YtdngobjcdajogaaW.PrintLast
def up (b : Nat → Bool) (i : Nat) : Nat → Bool := fun j => if j = i then true else b j
section
variable {P : Program} {ops : Array Oper} {Q : Exit → Act → World → Prop} {md : Region.Mode} {T : Bool × List (List Nat × List Nat)} {B : List Nat} {O : List Nat} {b : Nat → Bool} {i j n : Nat}
end
end Go.Proofs.YtdngobjcdajogaaW.PrintLast
namespace Go.Proofs.YtdngobjcdajogaaW.PrintWords
open Go.RowKit
section
variable {P : Program} {ops : Array Oper} {rest : List Oper} {o : Oper} {a : Act} {Q : Exit → Act → World → Prop} {W : World}
theorem gate_guard (hw : Region.wanted o (yielded ops a.tmps) = true) (h : wpList P ops Q ({ o with guard := none } :: rest) a W) : wpList P ops Q (o :: rest) a W := by
 have h1 : Region.wanted { o with guard := none } (yielded ops a.tmps) = true := rfl; unfold wpList at h ⊢; rw [if_pos h1] at h; rw [if_pos hw]; exact h
end
end Go.Proofs.YtdngobjcdajogaaW.PrintWords
