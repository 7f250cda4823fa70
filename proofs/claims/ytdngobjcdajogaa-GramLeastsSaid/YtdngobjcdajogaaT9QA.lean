/-
What a call may have turned: every block that was there, but for those of a set, is as it was.
-/
import Derived.Test.YtdngobjcdajogaaProg
import Derived.Lib.Hide
import Derived.Outline
import Derived.IntWalk
import Derived.Carry
import Derived.Maps.OwnSet
import Derived.WalkSpells
import Derived.Deep.RegionHeld3
import Derived.Test.YtdngobjcdajogaaT9WMore
import Derived.Test.YtdngobjcdajogaaT9PGramFirstsx1
namespace Go.Proofs.Ytdngobjcdajogaa.Fr
open Go.RowKit Go.Proofs.YtdngobjcdajogaaW.PrintWords Go.Proofs.YtdngobjcdajogaaW.PrintLast Go.Proofs.YtdngobjcdajogaaW.PrintMore
/-- From w to w' nothing that was there has turned but blocks of S. -/
structure Fr (S : Nat → Prop) (w w' : World) : Prop where
  os : w'.os = w.os
  tape : w'.tape = w.tape
  output : w'.output = w.output
  size : w.heap.size ≤ w'.heap.size
  block : ∀ i, i < w.heap.size → ¬ S i → w'.heap[i]? = w.heap[i]?
theorem Fr.refl (S : Nat → Prop) (w : World) : Fr S w w := ⟨rfl, rfl, rfl, Nat.le_refl _, fun _ _ _ => rfl⟩
theorem Fr.trans {S T : Nat → Prop} {a b c : World} (h : Fr S a b) (k : Fr T b c) (hT : ∀ i, i < a.heap.size → T i → S i) : Fr S a c :=
  ⟨k.os.trans h.os, k.tape.trans h.tape, k.output.trans h.output, Nat.le_trans h.size k.size, fun i hi hS =>
    (k.block i (Nat.lt_of_lt_of_le hi h.size) (fun hTi => hS (hT i hi hTi))).trans (h.block i hi hS)⟩
theorem Fr.mono {S T : Nat → Prop} {w w' : World} (h : Fr S w w') (hT : ∀ i, S i → T i) : Fr T w w' :=
  ⟨h.os, h.tape, h.output, h.size, fun i hi hS => h.block i hi (fun hs => hS (hT i hs))⟩
theorem Fr.of_below {S : Nat → Prop} {w w' : World} (h : Below w.heap.size w w') : Fr S w w' := ⟨h.os, h.tape, h.output, h.size, fun i hi _ => h.block i hi⟩
theorem Fr.to_below {w w' : World} (h : Fr (fun _ => False) w w') : Below w.heap.size w w' := ⟨h.os, h.tape, h.output, h.size, fun i hi => h.block i hi id⟩
theorem Fr.below {S : Nat → Prop} {w w' : World} (h : Fr S w w') {B : Nat} (hB : B ≤ w.heap.size) (hS : ∀ i, i < B → ¬ S i) : Below B w w' :=
  ⟨h.os, h.tape, h.output, h.size, fun i hi => h.block i (Nat.lt_of_lt_of_le hi hB) (hS i hi)⟩
theorem Fr.drawn {S : Nat → Prop} {w w' : World} (h : Drawn0 w w') : Fr S w w' := Fr.of_below h.below
theorem Fr.alloc {S : Nat → Prop} {w w1 : World} (h : Fr S w w1) (o : Obj) : Fr S w (w1.alloc o) :=
  h.trans (Fr.of_below (S := fun _ => False) (below_alloc (Below.refl _ _) o)) (fun _ _ hf => hf.elim)
theorem Fr.drewN {S : Nat → Prop} {w w1 : World} (h : Fr S w w1) (n : Nat) : Fr S w (w1.drewN n) :=
  h.trans (Fr.of_below (S := fun _ => False) (pw_below_drewN (Below.refl _ _) n)) (fun _ _ hf => hf.elim)
theorem Fr.drew {S : Nat → Prop} {w w1 : World} (h : Fr S w w1) : Fr S w w1.drew :=
  h.trans (Fr.of_below (S := fun _ => False) (below_drew (Below.refl _ _))) (fun _ _ hf => hf.elim)
theorem Fr.grown {S : Nat → Prop} {w w1 w2 : World} (h : Fr S w w1) {row : Option Nat} (hg : w1.grownBy w2 row) (hr : ∀ k, row = some k → k < w.heap.size → S k) : Fr S w w2 :=
  h.trans (T := fun i => row = some i) ⟨hg.os, hg.tape, hg.output, hg.size, fun i hi hn => hg.block i hi (fun e => hn e.symm)⟩ (fun i hi e => hr i e hi)
theorem Fr.set {S : Nat → Prop} {w w1 : World} (h : Fr S w w1) {g o : Nat} (v : Value) (hg : g < w.heap.size → S g) : Fr S w (w1.setCell ⟨g, o, none⟩ v) :=
  h.trans (T := fun i => i = g) ⟨rfl, rfl, rfl, by rw [World.size_setCell]; exact Nat.le_refl _, fun i _ hn => Below.heap_setCell w1 _ v i hn⟩ (fun i hi e => by subst e; exact hg hi)
theorem Fr.blk {S : Nat → Prop} {w w1 : World} (h : Fr S w w1) {g : Nat} {o : Obj} (hb : w.heap[g]? = some o) (hg : ¬ S g) : w1.heap[g]? = some o := (h.block g (blk_lt hb) hg).trans hb
theorem Fr.cell {S : Nat → Prop} {w w1 : World} (h : Fr S w w1) {a : Addr} {v : Value} (hc : w.cell? a = some v) (hg : ¬ S a.block) : w1.cell? a = some v :=
  (World.cell?_of_block (h.block a.block (World.block_lt_of_cell? w a hc) hg)).trans hc
theorem Fr.R {S : Nat → Prop} {w w1 : World} {α : Type} {d : Kd α} {e base : Nat} {ok : Nat → Prop} {v : Value} {xs : List α} (h : Fr S w w1) (hr : d.R e w base ok v xs) (hok : ∀ k, ok k → ¬ S k) : d.R e w1 base ok v xs :=
  Kd.R_step hr (fun k ho hk => h.block k hk (hok k ho))
theorem add_block (a : Addr) (j : Nat) : (a.add j).block = a.block := by unfold Addr.add; split <;> rfl
/-- A slice of one cell elements is read on, where its block has not turned. -/
theorem Fr.C {S : Nat → Prop} {w w1 : World} {α : Type} {enc : α → Value} {h1 : ∀ x, (enc x).oneCell' = true} (d : α) {A : Option Addr} {n : Nat} {xs : List α} (h : Fr S w w1) (hc : (Kd.scalar enc h1).C w A n xs) (hA : ∀ ad, A = some ad → 0 < n → ¬ S ad.block) : (Kd.scalar enc h1).C w1 A n xs := by
  obtain ⟨e1, e2, e3⟩ := Kd.reads_of_C (d := d) hc
  refine Kd.C_of_reads (d := d) ⟨e1, e2, fun hp => ?_⟩
  obtain ⟨ad, e, hcell⟩ := e3 hp
  exact ⟨ad, e, fun j hj => h.cell (hcell j hj) (by rw [add_block]; exact hA ad e hp)⟩
end Go.Proofs.Ytdngobjcdajogaa.Fr
namespace Go.Proofs.Ytdngobjcdajogaa.TextSet
open Go.RowKit Go.Proofs.YtdngobjcdajogaaW.PrintWords Go.Proofs.YtdngobjcdajogaaW.PrintLast Go.Proofs.YtdngobjcdajogaaW.PrintMore Go.Proofs.Ytdngobjcdajogaa.Fr
theorem ba_eq {a b : ByteArray} : (a == b) = true ↔ a = b := by
  cases a with | mk a => cases b with | mk b =>
  show (a == b) = true ↔ _
  rw [beq_iff_eq]
  exact ⟨fun h => by rw [h], fun h => by injection h⟩
theorem ba_ne {a b : ByteArray} (h : a ≠ b) : (a == b) = false := by
  cases hb : a == b with
  | false => rfl
  | true => exact absurd (ba_eq.1 hb) h
/-- Whether a text is among some. -/
def inS (s : ByteArray) (ks : List ByteArray) : Bool := ks.any (fun k => s == k)
theorem inS_iff {s : ByteArray} {ks : List ByteArray} : inS s ks = true ↔ s ∈ ks := by
  simp only [inS, List.any_eq_true]
  exact ⟨fun ⟨x, hx, he⟩ => by rw [ba_eq.1 he]; exact hx, fun h => ⟨s, h, ba_eq.2 rfl⟩⟩
theorem inS_false {s : ByteArray} {ks : List ByteArray} (h : ¬ s ∈ ks) : inS s ks = false := by
  cases hb : inS s ks with
  | false => rfl
  | true => exact absurd (inS_iff.1 hb) h
/-- Block m is the set of the texts ks. -/
def SSet (w : World) (m : Nat) (ks : List ByteArray) : Prop :=
  ∃ es c, w.heap[m]? = some (.map es c) ∧ es.toList.map (fun e => (e.key, e.val)) = ks.map (fun s => (Value.string s, Value.bool true))
theorem SSet.fr {w w1 : World} {m : Nat} {ks : List ByteArray} {S : Nat → Prop} (h : SSet w m ks) (hF : Fr S w w1) (hm : ¬ S m) : SSet w1 m ks := by
  obtain ⟨es, c, hb, he⟩ := h
  exact ⟨es, c, hF.blk hb hm, he⟩
theorem SSet.lt {w : World} {m : Nat} {ks : List ByteArray} (h : SSet w m ks) : m < w.heap.size := by
  obtain ⟨es, c, hb, _⟩ := h
  exact blk_lt hb
theorem find_out {s : ByteArray} : ∀ (es : List MapEntry) (ks : List ByteArray) (i : Nat), es.map (fun e => (e.key, e.val)) = ks.map (fun s => (Value.string s, Value.bool true)) → ¬ s ∈ ks → Instr.findNow .string (.string s) es i = some none
  | [], _, _, _, _ => rfl
  | e :: es, [], _, h, _ => by simp at h
  | e :: es, k :: ks, i, h, hn => by
    simp only [List.map_cons, List.cons.injEq, Prod.mk.injEq] at h
    obtain ⟨⟨hk, _⟩, hr⟩ := h
    have hne : (s == k) = false := ba_ne (fun e => hn (by rw [e]; exact List.mem_cons_self ..))
    unfold Instr.findNow
    rw [hk]
    show (match some (s == k) with | some true => _ | some false => _ | none => _) = _
    rw [hne]
    exact find_out es ks (i + 1) hr (fun hm => hn (List.mem_cons_of_mem _ hm))
theorem find_in {s : ByteArray} : ∀ (es : List MapEntry) (ks : List ByteArray) (i : Nat), es.map (fun e => (e.key, e.val)) = ks.map (fun s => (Value.string s, Value.bool true)) → s ∈ ks →
    ∃ j e, es[j]? = some e ∧ e.key = .string s ∧ e.val = .bool true ∧ Instr.findNow .string (.string s) es i = some (some (i + j, .bool true))
  | [], ks, _, h, hm => by
    cases ks with
    | nil => cases hm
    | cons _ _ => simp at h
  | e :: es, [], _, h, _ => by simp at h
  | e :: es, k :: ks, i, h, hm => by
    simp only [List.map_cons, List.cons.injEq, Prod.mk.injEq] at h
    obtain ⟨⟨hk, hv⟩, hr⟩ := h
    by_cases hs : s = k
    · subst hs
      refine ⟨0, e, rfl, hk, hv, ?_⟩
      unfold Instr.findNow
      rw [hk, hv]
      show (match some (s == s) with | some true => _ | some false => _ | none => _) = _
      rw [ba_eq.2 rfl]
      rfl
    · have hne : (s == k) = false := ba_ne hs
      obtain ⟨j, e2, h1, h2, h3, h4⟩ := find_in es ks (i + 1) hr (by rcases List.mem_cons.1 hm with e | e; exact absurd e hs; exact e)
      refine ⟨j + 1, e2, by simpa using h1, h2, h3, ?_⟩
      unfold Instr.findNow
      rw [hk]
      show (match some (s == k) with | some true => _ | some false => _ | none => _) = _
      rw [hne]
      rw [show i + (j + 1) = i + 1 + j by omega]
      exact h4
theorem getObj_map {w : World} {m : Nat} {es : Array MapEntry} {c : Nat} (hm : w.heap[m]? = some (.map es c)) : (getObj m).run Try.prog w = .ok (.map es c) w := by
  simp [getObj, Sem.run, hm]
theorem checkKey_ok (b : Bool) (s : ByteArray) (w : World) : (Instr.checkKey b 10000 9 (.string s)).run Try.prog w = .ok () w := by kernel_rfl
theorem findKey_ok (s : ByteArray) (es : List MapEntry) (r : Option (Nat × Value)) (h : Instr.findNow .string (.string s) es 0 = some r) (w : World) : (Instr.findKey 9 (.string s) es).run Try.prog w = .ok r w := by
  have hu := Try.underlying9
  simp [Instr.findKey, run_underlying hu, h, go_sem]
theorem look (w : World) (m : Nat) (ks : List ByteArray) (h : SSet w m ks) (s : ByteArray) : (Instr.lookup 98 (.map (some m)) (.string s) false).run Try.prog w = .ok (.bool (inS s ks)) w := by
  obtain ⟨es, c, hb, he⟩ := h
  have hu := Try.underlying98
  have hz : ∀ w, (zeroValue 4).run Try.prog w = .ok (.bool false) w := fun w => by kernel_rfl
  by_cases hm : s ∈ ks
  · obtain ⟨j, e, _, _, _, hf⟩ := find_in es.toList ks 0 he hm
    simp [Instr.lookup, run_underlying hu, getObj_map hb, checkKey_ok, findKey_ok s es.toList _ hf, go_sem, inS_iff.2 hm]
  · have hf := find_out es.toList ks 0 he hm
    simp [Instr.lookup, run_underlying hu, getObj_map hb, checkKey_ok, findKey_ok s es.toList _ hf, hz, go_sem, inS_false hm]
def put (w : World) (m : Nat) (o : Obj) : World := { w with heap := w.heap.setIfInBounds m o }
theorem put_fr (w : World) (m : Nat) (o : Obj) : Fr (fun i => i = m) w (put w m o) := ⟨rfl, rfl, rfl, by simp [put], fun i _ hn => by simp only [put]; rw [Array.getElem?_setIfInBounds, if_neg (fun e => hn e.symm)]⟩
theorem put_at {w : World} {m : Nat} (h : m < w.heap.size) (o : Obj) : (put w m o).heap[m]? = some o := by simp [put, h]
theorem store (w : World) (m : Nat) (ks : List ByteArray) (h : SSet w m ks) (s : ByteArray) :
    ∃ w', (Instr.mapUpdate 98 (.map (some m)) (.string s) (.bool true)).run Try.prog w = .ok () w' ∧ SSet w' m (if inS s ks = true then ks else ks ++ [s]) ∧ Fr (fun i => i = m) w w' := by
  have hlt := h.lt
  obtain ⟨es, c, hb, he⟩ := h
  have hu := Try.underlying98
  by_cases hm : s ∈ ks
  · obtain ⟨j, e, hj, hk, hv, hf⟩ := find_in es.toList ks 0 he hm
    rw [Nat.zero_add] at hf
    have hs : (((es[j]?).map (·.key)).getD (.string s)) = .string s := by rw [← Array.getElem?_toList, hj]; simpa using hk
    have hst : ∀ w, (Instr.keyThatStays (.string s) (.string s)).run Try.prog w = .ok (.string s) w := fun w => by
      have : Instr.sameBits 10000 (.string s) (.string s) = true := by unfold Instr.sameBits; exact ba_eq.2 rfl
      simp [Instr.keyThatStays, this, go_sem]
    refine ⟨put w m (.map (es.modify j fun e => { e with key := .string s, val := .bool true }) c), ?_, ?_, put_fr _ _ _⟩
    · simp [Instr.mapUpdate, run_underlying hu, getObj_map hb, checkKey_ok, findKey_ok s es.toList _ hf, hs, hst, go_sem]
      simp [setObj, Sem.run, hb, put]
    · rw [if_pos (inS_iff.2 hm)]
      refine ⟨_, _, put_at hlt _, ?_⟩
      rw [← he]
      apply List.ext_getElem?
      intro i
      simp only [List.getElem?_map, Array.getElem?_toList, Array.getElem?_modify]
      by_cases hij : j = i
      · subst hij
        rw [Array.getElem?_toList] at hj
        simp [hj, hk, hv]
      · simp [hij]
  · have hf := find_out es.toList ks 0 he hm
    refine ⟨put w m (.map (es.push { key := .string s, val := .bool true, born := c }) (c + 1)), ?_, ?_, put_fr _ _ _⟩
    · simp [Instr.mapUpdate, run_underlying hu, getObj_map hb, checkKey_ok, findKey_ok s es.toList _ hf, go_sem]
      simp [setObj, Sem.run, hb, put]
    · rw [if_neg (by rw [inS_false hm]; decide)]
      refine ⟨_, _, put_at hlt _, ?_⟩
      simp [he]
theorem fresh (w : World) : SSet (w.alloc (.map #[] 0)) w.heap.size [] := ⟨#[], 0, blk_new _ _, rfl⟩
end Go.Proofs.Ytdngobjcdajogaa.TextSet
namespace Go.Proofs.Ytdngobjcdajogaa.TextSet
open Go.RowKit Go.Proofs.YtdngobjcdajogaaW.PrintWords Go.Proofs.YtdngobjcdajogaaW.PrintLast Go.Proofs.YtdngobjcdajogaaW.PrintMore Go.Proofs.Ytdngobjcdajogaa.Fr Go.Proofs.Ytdngobjcdajogaa.PGramFirsts
theorem named_l (s : ByteArray) (hs : s.size ≤ maxLen) : ∀ (n i : Nat), i + n = s.size → ∃ r, token_named.l0 (n + 1) s i = some r
  | 0, i, h => by
    unfold token_named.l0
    rw [if_neg (by omega)]
    split <;> exact ⟨_, rfl⟩
  | n + 1, i, h => by
    obtain ⟨r, hr⟩ := named_l s hs n (i + 1) (by omega)
    have hm : maxLen ≤ 9223372036854775807 := by decide
    have hw : wrap64 ((i : Int) + 1) = ((i + 1 : Nat) : Int) := by simp only [wrap64]; omega
    unfold token_named.l0
    rw [hw, hr]
    rw [if_pos (by omega), if_pos (by omega)]
    repeat' split
    all_goals exact ⟨_, rfl⟩
/-- Whether a text can be a kind's name. -/
def named (s : ByteArray) : Bool := (token_named.f (s.size + 1) s).getD false
theorem named_some (s : ByteArray) (hs : s.size ≤ maxLen) : token_named.f (s.size + 1) s = some (named s) := by
  obtain ⟨r, hr⟩ := named_l s hs s.size 0 (by omega)
  have h : token_named.f (s.size + 1) s = some r := hr
  unfold named
  rw [h]
  rfl
theorem named_calls (s : ByteArray) (hs : s.size ≤ maxLen) (w : World) : Calls Try.prog 82 #[.string s] w fun e w' => e = .returned (.bool (named s)) ∧ Drawn0 w w' :=
  token_named.calls (s.size + 1) s (named s) w (named_some s hs)
def rdS (ns : List ByteArray) (i : Nat) : ByteArray := rdOf ByteArray.empty ns i
theorem rdS_mem {ns : List ByteArray} {i : Nat} (h : i < ns.length) : rdS ns i ∈ ns := by
  simp only [rdS, rdOf, Int.toNat_natCast, List.getD_eq_getElem?_getD, List.getElem?_eq_getElem h, Option.getD_some]
  exact List.getElem_mem h
theorem take_rdS {ns : List ByteArray} {i : Nat} (h : i < ns.length) : ns.take (i + 1) = ns.take i ++ [rdS ns i] := by
  rw [List.take_add_one]
  simp [rdS, rdOf, List.getD_eq_getElem?_getD, h]
/-- The names are kinds. -/
structure KindsOk (ns : List ByteArray) : Prop where
  two : 2 ≤ ns.length
  max : ns.length ≤ 1024
  fst : (rdS ns 0).toList = [101, 110, 100]
  snd : (rdS ns 1).toList = [101, 114, 114, 111, 114]
  all : ∀ s, s ∈ ns → named s = true
  nodup : ns.Nodup
set_option maxRecDepth 100000 in
theorem kinds_calls (w : World) (ns : List ByteArray) (A : Option Addr) (c : Nat) (hA : Kd.string.C w A ns.length ns) (hs : ∀ s, s ∈ ns → s.size ≤ maxLen) :
    Calls Try.prog 64 #[.slice A ns.length c] w fun e w' => (∃ r, e = .returned (.int .i64 r) ∧ (r = 0 ↔ KindsOk ns)) ∧ Fr (fun _ => False) w w' := by
  have hm := Kd.C_max hA
  go_enter Try.func64, Try.ntmps64
  have HA := Aside0.mk hA
  have HS := Aside0.mk hs
  clear hA hs
  by_cases h2 : ns.length < 2
  · go_wp2_with (fail)
    go_ret
    exact ⟨⟨70, rfl, ⟨fun h => absurd h (by decide), fun h => by have := h.two; omega⟩⟩, Fr.refl _ _⟩
  by_cases h3 : 1024 < ns.length
  · go_wp2_with (fail)
    go_ret
    exact ⟨⟨70, rfl, ⟨fun h => absurd h (by decide), fun h => by have := h.max; omega⟩⟩, Fr.refl _ _⟩
  obtain ⟨ad, rfl, hx0⟩ := Kd.at_string HA.out 0 (by omega) (by omega)
  obtain ⟨ad', e, hx1⟩ := Kd.at_string HA.out 1 (by omega) (by omega)
  injection e with e
  subst e
  have hx0 : w.cell? ad = some (.string (rdOf ByteArray.empty ns 0)) := by
    have e0 : ad.add 0 = ad := by unfold Addr.add; split <;> simp_all
    have : w.cell? (ad.add 0) = some (.string (rdOf ByteArray.empty ns 0)) := hx0
    rwa [e0] at this
  have hx1 : w.cell? ⟨ad.block, ad.off + 1, none⟩ = some (.string (rdOf ByteArray.empty ns 1)) := by
    have e0 : ad.add 0 = ad := by unfold Addr.add; split <;> simp_all
    have : w.cell? (ad.add (0 + 1)) = some (.string (rdOf ByteArray.empty ns 1)) := hx1
    rw [add_field _ _ 1 (by omega), e0] at this
    exact this
  by_cases e0 : (rdOf ByteArray.empty ns 0).toList = [101, 110, 100]
  case neg =>
    have HE := Aside0.mk e0
    go_wp2_with (fail)
    go_ret
    exact ⟨⟨70, rfl, ⟨fun h => absurd h (by decide), fun h => absurd h.fst HE.out⟩⟩, Fr.refl _ _⟩
  have HE0 := Aside0.mk e0
  by_cases e1 : (rdOf ByteArray.empty ns 1).toList = [101, 114, 114, 111, 114]
  case neg =>
    have HE := Aside0.mk e1
    have hb1 : ((rdOf ByteArray.empty ns 1).toList == [101, 114, 114, 111, 114]) = false := beq_eq_false_iff_ne.2 e1
    go_wp2_with (fail)
    go_ret
    exact ⟨⟨70, rfl, ⟨fun h => absurd h (by decide), fun h => absurd h.snd HE.out⟩⟩, Fr.refl _ _⟩
  have HE1 := Aside0.mk e1
  have hb1 : ((rdOf ByteArray.empty ns 1).toList == [101, 114, 114, 111, 114]) = true := beq_iff_eq.2 e1
  have hmm := @run_makeMap Try.prog
  have HM := Aside0.mk (fresh w)
  have HF := Aside0.mk ((Fr.refl (fun _ => False) w).alloc (.map #[] 0))
  go_wp2_with (fail)
  go_loopw [29] (fun a W => ∃ i : Nat, a = .int .i64 i ∧ i ≤ ns.length ∧ Aside0 ((ns.take i).Nodup ∧ ∀ s, s ∈ ns.take i → named s = true) ∧ Aside0 (SSet W w.heap.size (ns.take i)) ∧ Aside0 (Fr (fun _ => False) w W)) (fun a _ => ns.length - (intOf a).toNat)
  case atStart => exact ⟨0, rfl, Nat.zero_le _, ⟨by simp, by simp⟩, HM, HF⟩
  case round =>
    clear HM HF hx0 hx1 e0 e1 hb1
    obtain ⟨i, rfl, hi, HK, HM, HF⟩ := hrel
    by_cases hlt : i < ns.length
    · obtain ⟨ad', e, hx⟩ := Kd.at_string (HF.out.C (S := fun _ => False) ByteArray.empty HA.out (fun _ _ _ => id)) (i : Int) (by omega) (by omega)
      injection e with e
      subst e
      simp only [Int.toNat_natCast] at hx
      have HX := Aside0.mk (show rdS ns i = rdOf ByteArray.empty ns i from rfl)
      have HSZ := Aside0.mk (HS.out _ (rdS_mem hlt))
      have HIN := Aside0.mk (rdS_mem hlt)
      have HT := Aside0.mk (take_rdS hlt)
      generalize rdOf ByteArray.empty ns i = x at hx HX
      rw [HX.out] at HSZ HIN HT
      go_wp2_with (fail)
      refine (named_calls x HSZ.out _).mono ?_
      rintro e W1 ⟨rfl, hd⟩
      have hF1 : Fr (fun _ => False) wr W1 := Fr.drawn hd
      have HM1 := Aside0.mk (HM.out.fr hF1 id)
      have HF1 := Aside0.mk (HF.out.trans hF1 (fun _ _ hf => hf))
      have hl := look W1 _ _ HM1.out x
      clear hd hF1 hx
      cases hn : named x with
      | false =>
        go_wp2_with (fail)
        go_ret
        exact ⟨⟨70, rfl, ⟨fun h => absurd h (by decide), fun h => by have := h.all x HIN.out; rw [hn] at this; cases this⟩⟩, HF1.out⟩
      | true =>
        cases hin : inS x (ns.take i) with
        | true =>
          rw [hin] at hl
          go_wp2_with (fail)
          go_ret
          exact ⟨⟨70, rfl, ⟨fun h => absurd h (by decide), fun h => by
            have h1 : (ns.take (i + 1)).Nodup := (List.take_sublist _ _).nodup h.nodup
            rw [HT.out] at h1
            exact absurd (inS_iff.1 hin) (fun hm => (List.nodup_append.1 h1).2.2 x hm x (List.mem_singleton.2 rfl) rfl)⟩⟩, HF1.out⟩
        | false =>
          rw [hin] at hl
          obtain ⟨W2, hup, hS2, hF2⟩ := store W1 _ _ HM1.out x
          rw [if_neg (by rw [hin]; decide), ← HT.out] at hS2
          have HM2 := Aside0.mk hS2
          have HF2 := Aside0.mk (HF1.out.trans hF2 (fun k hk e => by omega))
          have HK2 := Aside0.mk (show (ns.take (i + 1)).Nodup ∧ ∀ s, s ∈ ns.take (i + 1) → named s = true by
            rw [HT.out]
            refine ⟨List.nodup_append.2 ⟨HK.out.1, by simp, fun a ha b hb e => ?_⟩, fun s hs => ?_⟩
            · rw [List.mem_singleton.1 hb] at e
              rw [e] at ha
              rw [inS_iff.2 ha] at hin
              cases hin
            · rcases List.mem_append.1 hs with h | h
              · exact HK.out.2 s h
              · rw [List.mem_singleton.1 h]; exact hn)
          clear hS2 hF2
          go_wp2_with (fail)
          exact ⟨⟨i + 1, by go_num, by omega, HK2, HM2, HF2⟩, by simp [intOf]; omega⟩
    · obtain rfl : i = ns.length := by omega
      have HOK := Aside0.mk (show KindsOk ns from ⟨by omega, by omega, HE0.out, HE1.out, by have := HK.out.2; rwa [List.take_length] at this, by have := HK.out.1; rwa [List.take_length] at this⟩)
      go_wp2_with (fail)
      go_ret
      exact ⟨⟨0, rfl, ⟨fun _ => HOK.out, fun _ => rfl⟩⟩, HF.out⟩
end Go.Proofs.Ytdngobjcdajogaa.TextSet
