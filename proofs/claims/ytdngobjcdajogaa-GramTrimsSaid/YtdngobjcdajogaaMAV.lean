/-
A grammar without what is of no use: by definition, and what stands while gram.Trim makes it.
-/
import Derived.Test.YtdngobjcdajogaaMAR
import Derived.Test.YtdngobjcdajogaaMAS
import Derived.Test.YtdngobjcdajogaaMAU
import Derived.Laws.Cover3
import Derived.Test.YtdngobjcdajogaaMAO
import Derived.Test.YtdngobjcdajogaaMAL
import Derived.Test.YtdngobjcdajogaaMAF
import Derived.Test.YtdngobjcdajogaaMAK
set_option linter.unusedSimpArgs false
set_option linter.unusedVariables false
namespace Go.Proofs.Ytdngobjcdajogaa.Gram
open Go.RowKit Go.Proofs.YtdngobjcdajogaaW.PrintWords Go.Proofs.YtdngobjcdajogaaW.PrintLast Go.Proofs.YtdngobjcdajogaaW.PrintMore Go.Proofs.Ytdngobjcdajogaa.Fr Go.Proofs.Ytdngobjcdajogaa.PGramFirsts Go.Proofs.Ytdngobjcdajogaa.TextSet
def numF (kp : Nat → Bool) (a : Nat) : Nat := ((List.range a).filter kp).length
def numL (kp : Nat → Bool) (R k : Nat) : List Int := (List.range R).map fun a => if a < k ∧ kp a = true then (numF kp a : Int) else 0
def rulesL (kp : Nat → Bool) (rules : List ByteArray) (k : Nat) : List ByteArray := ((List.range k).filter kp).map fun a => rdS rules a
def symT (K : Nat) (num : List Int) (x : Int) : Int := if x < K then x else K + rd num (x - K)
def prodT (K : Nat) (num : List Int) (p : S57) : S57 := ⟨rd num p.f0, p.f1.map (symT K num), p.f2, p.f3⟩
def prodsL (K : Nat) (stays : S57 → Bool) (num : List Int) (ps : List S57) : List S57 := (ps.filter stays).map (prodT K num)
noncomputable def proL (G : Gr) : List Bool := closedL G true
noncomputable def mayT (G : Gr) (i : Nat) : Bool := goodB G.kinds.length (proL G) (rd_T57 G.prods i)
noncomputable def keepL (G : Gr) : List Bool := reachL G (mayT G)
noncomputable def kpT (G : Gr) (a : Nat) : Bool := rdOf false (keepL G) a && rdOf false (proL G) a
noncomputable def staysT (G : Gr) (p : S57) : Bool := goodB G.kinds.length (proL G) p && rdOf false (keepL G) p.f0
noncomputable def numT (G : Gr) : List Int := numL (kpT G) G.rules.length G.rules.length
noncomputable def trimG (G : Gr) : Gr where
 kinds := G.kinds
 precs := G.precs
 rules := rulesL (kpT G) G.rules G.rules.length
 prods := prodsL G.kinds.length (staysT G) (numT G) G.prods
 start := rd (numT G) G.start
theorem numL_zero (kp : Nat → Bool) (R : Nat) : numL kp R 0 = List.replicate R 0 := by
 apply List.ext_getElem (by simp [numL])
 intro a h1 h2; simp [numL]
theorem numL_true {kp : Nat → Bool} {R k : Nat} (h : kp k = true) : numL kp R (k + 1) = (numL kp R k).set k (numF kp k) := by
 apply List.ext_getElem (by simp [numL])
 intro a h1 h2; simp only [numL, List.getElem_map, List.getElem_range, List.getElem_set]; by_cases e : k = a
 · subst e
   simp [h]
 · have : a < k + 1 ↔ a < k := by omega
   simp [e, this]
theorem numL_false {kp : Nat → Bool} {R k : Nat} (h : kp k = false) : numL kp R (k + 1) = numL kp R k := by
 apply List.ext_getElem (by simp [numL])
 intro a h1 h2; simp only [numL, List.getElem_map, List.getElem_range]; by_cases e : a = k
 · subst e
   simp [h]
 · have : a < k + 1 ↔ a < k := by omega
   simp [this]
theorem rulesL_true {kp : Nat → Bool} {rules : List ByteArray} {k : Nat} (h : kp k = true) : rulesL kp rules (k + 1) = rulesL kp rules k ++ [rdS rules k] := by
 simp [rulesL, List.range_succ, h]
theorem rulesL_false {kp : Nat → Bool} {rules : List ByteArray} {k : Nat} (h : kp k = false) : rulesL kp rules (k + 1) = rulesL kp rules k := by
 simp [rulesL, List.range_succ, h]
theorem rulesL_len (kp : Nat → Bool) (rules : List ByteArray) (k : Nat) : (rulesL kp rules k).length = numF kp k := by simp [rulesL, numF]
theorem numF_le (kp : Nat → Bool) (k : Nat) : numF kp k ≤ k := by
 have := List.length_filter_le kp (List.range k); simpa [numF] using this
theorem take_T57 {l : List S57} {k : Nat} (h : k < l.length) : l.take (k + 1) = l.take k ++ [rd_T57 l k] := by
 rw [List.take_add_one]; simp [rd_T57, List.getD_eq_getElem?_getD, h]
theorem prodsL_true {K : Nat} {stays : S57 → Bool} {num : List Int} {l : List S57} {k : Nat} (h : k < l.length) (hs : stays (rd_T57 l k) = true) : prodsL K stays num (l.take (k + 1)) = prodsL K stays num (l.take k) ++ [prodT K num (rd_T57 l k)] := by
 simp [prodsL, take_T57 h, hs]
theorem prodsL_false {K : Nat} {stays : S57 → Bool} {num : List Int} {l : List S57} {k : Nat} (h : k < l.length) (hs : stays (rd_T57 l k) = false) : prodsL K stays num (l.take (k + 1)) = prodsL K stays num (l.take k) := by
 simp [prodsL, take_T57 h, hs]
theorem prodsL_len (K : Nat) (stays : S57 → Bool) (num : List Int) (l : List S57) : (prodsL K stays num l).length ≤ l.length := by
 simp only [prodsL, List.length_map]; exact List.length_filter_le _ _
abbrev zP : Array Value := #[.slice none 0 0, .slice none 0 0, .slice none 0 0, .slice none 0 0, .int .i64 0]
structure TL (Wk W : World) (G : Gr) (o kc pc : Nat) (KA PA : Option Addr) : Prop where
 fr : Fr (fun _ => False) Wk W
 lo : Wk.heap.size ≤ o
 box : W.heap[o]? = some (.cells #[.slice KA G.kinds.length kc, .slice PA G.precs.length pc, .slice none 0 0, .slice none 0 0, .int .i64 0] 26 (0, 0))
 kin : Kd.string.R 9 W Wk.heap.size (fun _ => True) (.slice KA G.kinds.length kc) G.kinds
 pre : k73.R 73 W Wk.heap.size (fun _ => True) (.slice PA G.precs.length pc) G.precs
def TLPost (Wk : World) (G : Gr) (s : Value) (W : World) : Prop := ∃ o kc pc KA PA, s = .pointer (some ⟨o, 0, none⟩) ∧ TL Wk W G o kc pc KA PA
theorem R_rowP {α : Type} {d : Kd α} {e : Nat} {W : World} {B q : Nat} {ok : Nat → Prop} {v : Value} {l : List α} {old : Array Value} (h : d.R e W B ok v l) (hq : W.heap[q]? = some (.cells old 26 (0, 0))) (ht : ∀ t, t ∈ e :: d.E → t ≠ 26) (cs : Array Value) : d.R e (W.setRow q cs) B ok v l := by
 have h2 := Kd.R_types h hq ht; exact Kd.R_mono (Kd.R_step h2 (fun k hk _ => setRow_other W q k cs hk.2)) (fun _ hk => hk.1)
theorem TLPost.of {Wk W : World} {G : Gr} {o kc pc : Nat} {KA PA : Option Addr} (hF : Fr (fun _ => False) Wk W) (hlo : Wk.heap.size ≤ o) (hb : W.heap[o]? = some (.cells zP 26 (0, 0))) (hK : Kd.string.R 9 W Wk.heap.size (fun _ => True) (.slice KA G.kinds.length kc) G.kinds) (hP : k73.R 73 W Wk.heap.size (fun _ => True) (.slice PA G.precs.length pc) G.precs) :
 TLPost Wk G (.pointer (some ⟨o, 0, none⟩)) (W.setRow o #[.slice KA G.kinds.length kc, .slice PA G.precs.length pc, .slice none 0 0, .slice none 0 0, .int .i64 0]) :=
 ⟨o, kc, pc, KA, PA, rfl, fr_row hF _ (fun h => by omega), hlo, setRow_heap _ _ _ _ _ _ hb, R_rowP hK hb (by decide) _, R_rowP hP hb (by decide) _⟩
structure T1 (W2 W : World) (o gn cn R st : Nat) (KV PV RV DV SV : Value) (B : Nat) (N : List Int) (L : List ByteArray) : Prop where
 fr : Fr (fun i => i = o ∨ i = gn) W2 W
 box : W.heap[o]? = some (.cells #[KV, PV, RV, DV, SV] 26 (0, 0))
 num : kI.R 3 W B (fun _ => True) (.slice (some ⟨gn, 0, none⟩) R cn) N
 rul : Kd.string.R 9 W W2.heap.size (fun _ => True) RV L
theorem T1.go {W2 W W1 : World} {o gn cn R st : Nat} {KV PV RV DV SV : Value} {B : Nat} {N : List Int} {L : List ByteArray} (h : T1 W2 W o gn cn R st KV PV RV DV SV B N L) (hF : Fr (fun _ => False) W W1) : T1 W2 W1 o gn cn R st KV PV RV DV SV B N L :=
 ⟨h.fr.trans hF (fun _ _ hf => hf.elim), hF.blk h.box id, Kd.R_below h.num hF.to_below, Kd.R_below h.rul hF.to_below⟩
theorem T1.put {W2 W : World} {o gn cn R st : Nat} {KV PV RV DV SV : Value} {B : Nat} {N : List Int} {L : List ByteArray} (h : T1 W2 W o gn cn R st KV PV RV DV SV B N L) (i : Int) (x : Int) : T1 W2 (W.setCell ⟨gn, i.toNat, none⟩ (.int .i64 x)) o gn cn R st KV PV RV DV SV B (N.set i.toNat x) L := by
 obtain ⟨cc, hc⟩ := Kd.R_typed h.num gn rfl; have hne : o ≠ gn := typed_ne h.box hc (by decide); exact ⟨h.fr.set (g := gn) (o := i.toNat) _ (fun _ => .inr rfl), ((Fr.refl (fun k => k = gn) W).set (g := gn) (o := i.toNat) _ (fun _ => rfl)).blk h.box hne, Kd.R_putn h.num i x, Kd.R_set h.rul hc (by decide) i.toNat _⟩
theorem T1.app {W2 W W1 : World} {o gn cn R st : Nat} {KV PV RV DV SV v1 : Value} {B : Nat} {N : List Int} {L L1 : List ByteArray} (h : T1 W2 W o gn cn R st KV PV RV DV SV B N L) (h1 : Kd.string.R 9 W1 W2.heap.size (fun _ => True) v1 L1) (hg : W.grownBy W1 RV.ownBlock) : T1 W2 (W1.setCell ⟨o, 2, none⟩ v1) o gn cn R st KV PV v1 DV SV B N L1 := by
 have hF : Fr (fun k => RV.ownBlock = some k) W W1 := ⟨hg.os, hg.tape, hg.output, hg.size, fun i hi hn => hg.block i hi (fun e => hn e.symm)⟩; have hb : ∀ k, RV.ownBlock = some k → W2.heap.size ≤ k := fun k hk => Kd.R_base h.rul k hk
 have hno : RV.ownBlock ≠ some o := fun e => by
  obtain ⟨cc, hc⟩ := Kd.R_typed h.rul o e; exact typed_ne h.box hc (by decide) rfl
 have hbox := hF.blk h.box hno; have hnum : kI.R 3 W1 B (fun _ => True) (.slice (some ⟨gn, 0, none⟩) R cn) N := Kd.R_over h.num h.rul (by decide) hg; refine ⟨(h.fr.trans hF (fun k hk e => by have := hb k e; omega)).set (g := o) (o := 2) _ (fun _ => .inl rfl), blk_set (j := 2) hbox v1, Kd.R_set hnum hbox (by decide) 2 v1, Kd.R_set h1 hbox (by decide) 2 v1⟩
theorem T1.boxg {W2 W W1 : World} {o gn cn R st : Nat} {KV PV RV DV SV : Value} {B : Nat} {N : List Int} {L : List ByteArray} (h : T1 W2 W o gn cn R st KV PV RV DV SV B N L) (hg : W.grownBy W1 RV.ownBlock) : W1.heap[o]? = some (.cells #[KV, PV, RV, DV, SV] 26 (0, 0)) :=
 (hg.block o (blk_lt h.box) (fun e => by
  obtain ⟨cc, hc⟩ := Kd.R_typed h.rul o e.symm; exact typed_ne h.box hc (by decide) rfl)).trans h.box
structure T2 (W3 W : World) (o : Nat) (KV PV RV DV SV : Value) (L : List S57) : Prop where
 fr : Fr (fun i => i = o) W3 W
 box : W.heap[o]? = some (.cells #[KV, PV, RV, DV, SV] 26 (0, 0))
 prd : k57.R 57 W W3.heap.size (fun _ => True) DV L
theorem T2.go {W3 W W1 : World} {o : Nat} {KV PV RV DV SV : Value} {L : List S57} (h : T2 W3 W o KV PV RV DV SV L) (hF : Fr (fun _ => False) W W1) : T2 W3 W1 o KV PV RV DV SV L :=
 ⟨h.fr.trans hF (fun _ _ hf => hf.elim), hF.blk h.box id, Kd.R_below h.prd hF.to_below⟩
theorem T2.app {W3 W W1 : World} {o : Nat} {KV PV RV DV SV v1 : Value} {L L1 : List S57} (h : T2 W3 W o KV PV RV DV SV L) (hlt : o < W3.heap.size) (h1 : k57.R 57 W1 W3.heap.size (fun _ => True) v1 L1) (hg : W.grownBy W1 DV.ownBlock) : T2 W3 (W1.setCell ⟨o, 3, none⟩ v1) o KV PV RV v1 SV L1 := by
 have hF : Fr (fun k => DV.ownBlock = some k) W W1 := ⟨hg.os, hg.tape, hg.output, hg.size, fun i hi hn => hg.block i hi (fun e => hn e.symm)⟩; have hb : ∀ k, DV.ownBlock = some k → W3.heap.size ≤ k := fun k hk => Kd.R_base h.prd k hk
 have hbox := hF.blk h.box (fun e => by have := hb _ e; omega); refine ⟨(h.fr.trans hF (fun k hk e => by have := hb k e; omega)).set (g := o) (o := 3) _ (fun _ => rfl), blk_set (j := 3) hbox v1, Kd.R_set h1 hbox (by decide) 3 v1⟩
theorem T2.boxg {W3 W W1 : World} {o : Nat} {KV PV RV DV SV : Value} {L : List S57} (h : T2 W3 W o KV PV RV DV SV L) (hlt : o < W3.heap.size) (hg : W.grownBy W1 DV.ownBlock) : W1.heap[o]? = some (.cells #[KV, PV, RV, DV, SV] 26 (0, 0)) :=
 (hg.block o (blk_lt h.box) (fun e => by have := Kd.R_base h.prd o e.symm; omega)).trans h.box
structure T3 (W6 W : World) (q : Nat) (a0 a2 a3 a4 : Int) (a5 : ByteArray) (QV KV : Value) (L : List Int) : Prop where
 fr : Fr (fun i => i = q) W6 W
 box : W.heap[q]? = some (.cells #[.int .i64 a0, QV, .int .i64 a2, .int .i64 a3, .int .i64 a4, .string a5, KV] 57 (0, 0))
 row : kI.R 3 W W6.heap.size (fun _ => True) QV L
theorem T3.go {W6 W W1 : World} {q : Nat} {a0 a2 a3 a4 : Int} {a5 : ByteArray} {QV KV : Value} {L : List Int} (h : T3 W6 W q a0 a2 a3 a4 a5 QV KV L) (hF : Fr (fun _ => False) W W1) : T3 W6 W1 q a0 a2 a3 a4 a5 QV KV L :=
 ⟨h.fr.trans hF (fun _ _ hf => hf.elim), hF.blk h.box id, Kd.R_below h.row hF.to_below⟩
theorem T3.app {W6 W W1 : World} {q : Nat} {a0 a2 a3 a4 : Int} {a5 : ByteArray} {QV KV v1 : Value} {L L1 : List Int} (h : T3 W6 W q a0 a2 a3 a4 a5 QV KV L) (hlt : q < W6.heap.size) (h1 : kI.R 3 W1 W6.heap.size (fun _ => True) v1 L1) (hg : W.grownBy W1 QV.ownBlock) : T3 W6 (W1.setCell ⟨q, 1, none⟩ v1) q a0 a2 a3 a4 a5 v1 KV L1 := by
 have hF : Fr (fun k => QV.ownBlock = some k) W W1 := ⟨hg.os, hg.tape, hg.output, hg.size, fun i hi hn => hg.block i hi (fun e => hn e.symm)⟩; have hb : ∀ k, QV.ownBlock = some k → W6.heap.size ≤ k := fun k hk => Kd.R_base h.row k hk
 have hbox := hF.blk h.box (fun e => by have := hb _ e; omega); refine ⟨(h.fr.trans hF (fun k hk e => by have := hb k e; omega)).set (g := q) (o := 1) _ (fun _ => rfl), blk_set (j := 1) hbox v1, Kd.R_set h1 hbox (by decide) 1 v1⟩
theorem T3.boxg {W6 W W1 : World} {q : Nat} {a0 a2 a3 a4 : Int} {a5 : ByteArray} {QV KV : Value} {L : List Int} (h : T3 W6 W q a0 a2 a3 a4 a5 QV KV L) (hlt : q < W6.heap.size) (hg : W.grownBy W1 QV.ownBlock) : W1.heap[q]? = some (.cells #[.int .i64 a0, QV, .int .i64 a2, .int .i64 a3, .int .i64 a4, .string a5, KV] 57 (0, 0)) :=
 (hg.block q (blk_lt h.box) (fun e => by have := Kd.R_base h.row q e.symm; omega)).trans h.box
theorem R_rowT {α : Type} {d : Kd α} {e t : Nat} {W : World} {B q : Nat} {ok : Nat → Prop} {v : Value} {l : List α} {old : Array Value} (h : d.R e W B ok v l) (hq : W.heap[q]? = some (.cells old t (0, 0))) (ht : ∀ s, s ∈ e :: d.E → s ≠ t) (cs : Array Value) : d.R e (W.setRow q cs) B ok v l := by
 have h2 := Kd.R_types h hq ht; exact Kd.R_mono (Kd.R_step h2 (fun k hk _ => setRow_other W q k cs hk.2)) (fun _ hk => hk.1)
abbrev z7 : Array Value := #[.int .i64 0, .slice none 0 0, .int .i64 0, .int .i64 0, .int .i64 0, .string ⟨#[]⟩, .slice none 0 0]
def QPost (Wk : World) (left lvl : Int) (a : S55) (s : Value) (W : World) : Prop := ∃ q CA cc, s = .pointer (some ⟨q, 0, none⟩) ∧ Fr (fun _ => False) Wk W ∧ Wk.heap.size ≤ q ∧ W.heap[q]? = some (.cells #[.int .i64 left, .slice none 0 0, .int .i64 lvl, .int .i64 a.f0, .int .i64 a.f1, .string a.f2, .slice CA a.f3.length cc] 57 (0, 0)) ∧
 k55.R 55 W Wk.heap.size (fun _ => True) (.slice CA a.f3.length cc) a.f3
theorem QPost.of {Wk W : World} {left lvl : Int} {a : S55} {q cc : Nat} {CA : Option Addr} (hF : Fr (fun _ => False) Wk W) (hlo : Wk.heap.size ≤ q) (hb : W.heap[q]? = some (.cells z7 57 (0, 0))) (hR : k55.R 55 W Wk.heap.size (fun _ => True) (.slice CA a.f3.length cc) a.f3) :
 QPost Wk left lvl a (.pointer (some ⟨q, 0, none⟩)) (W.setRow q #[.int .i64 left, .slice none 0 0, .int .i64 lvl, .int .i64 a.f0, .int .i64 a.f1, .string a.f2, .slice CA a.f3.length cc]) :=
 ⟨q, CA, cc, rfl, fr_row hF _ (fun h => by omega), hlo, setRow_heap _ _ _ _ _ _ hb, R_rowT hR hb (by decide) _⟩
theorem numL_bound (kp : Nat → Bool) (R k : Nat) (i : Int) : 0 ≤ rd (numL kp R k) i ∧ rd (numL kp R k) i ≤ R := by
 simp only [rd, numL, List.getD_eq_getElem?_getD, List.getElem?_map]; by_cases h : i.toNat < R
 · rw [List.getElem?_range h]
   simp only [Option.map_some, Option.getD_some]; split
   · have := numF_le kp i.toNat
     omega
   · omega
 · rw [List.getElem?_eq_none (by simp; omega)]
   simp
theorem mapT_succ {f : Int → Int} {l : List Int} {t : Nat} (h : t < l.length) : (l.take (t + 1)).map f = (l.take t).map f ++ [f (rd l (t : Int))] := by
 rw [List.take_add_one, List.map_append, List.getElem?_eq_getElem h]; simp only [Option.toList_some, List.map_cons, List.map_nil, rd, Int.toNat_natCast, List.getD_eq_getElem?_getD, List.getElem?_eq_getElem h, Option.getD_some]
theorem numF_succ {kp : Nat → Bool} {k : Nat} (h : kp k = true) : numF kp (k + 1) = numF kp k + 1 := by simp [numF, List.range_succ, h]
theorem numF_same {kp : Nat → Bool} {k : Nat} (h : kp k = false) : numF kp (k + 1) = numF kp k := by simp [numF, List.range_succ, h]
theorem LeastOk.closed {G : Gr} {L : List Int} (h : LeastOk G L) (hP : ProdsOk G) {i : Nat} (hi : i < G.prods.length) : ClosedL G L i := fun h0 => by
 have hp := hP i hi; obtain ⟨n, hn, e⟩ := size_sound h.sound _ 0 hp.2.2.2.syms h0; change sizeF G.kinds.length L 0 _ = _ at e
 rw [Nat.zero_add] at e; obtain ⟨a, ha⟩ := Int.eq_ofNat_of_zero_le hp.1; have hz : Siz G [(G.kinds.length + a : Int)] n := by
  have := Siz.rule (G := G) (x := (G.kinds.length : Int) + a) (by omega) hi (by omega) hn .nil; simpa using this
 have h3 := h.least a n hz; rw [ha, e]; exact h3
def lenOf (K : Nat) (L : List Int) (x : Int) : Int := if x < K then 1 else rd L (x - K)
theorem siz_zero {G : Gr} {l : List Int} {n : Nat} (h : Siz G l n) : n = 0 → ∀ x, x ∈ l → ¬ x < G.kinds.length ∧ Der G false (x - G.kinds.length).toNat := by
 induction h with
 | nil => exact fun _ x hx => by cases hx
 | kind _ _ _ => exact fun e => by omega
 | @rule x l i m n hk hi hf _ _ ih1 ih2 =>
  intro e y hy; rcases List.mem_cons.1 hy with rfl | hy
  · refine ⟨hk, ?_⟩
    rw [← hf]; exact .mk i hi (fun j hj hlt => absurd hlt (ih1 (by omega) _ (rd_mem hj)).1) (fun j hj _ => (ih1 (by omega) _ (rd_mem hj)).2)
  · exact ih2 (by omega) y hy
def a0 : S55 := ⟨0, 0, (⟨#[]⟩ : ByteArray), []⟩
def smallG : Gr where
 kinds := [(⟨#[101, 110, 100]⟩ : ByteArray), (⟨#[101, 114, 114, 111, 114]⟩ : ByteArray), (⟨#[97]⟩ : ByteArray), (⟨#[98]⟩ : ByteArray)]
 precs := List.replicate 4 z73
 rules := [(⟨#[83]⟩ : ByteArray), (⟨#[65]⟩ : ByteArray)]
 prods := [⟨0, [5, 3], 0, a0⟩, ⟨1, [2, 5], 0, a0⟩, ⟨1, [], 0, a0⟩]
 start := 0
theorem sm_p0 : rd_T57 smallG.prods ((0 : Nat) : Int) = ⟨0, [5, 3], 0, a0⟩ := rfl
theorem sm_p1 : rd_T57 smallG.prods ((1 : Nat) : Int) = ⟨1, [2, 5], 0, a0⟩ := rfl
theorem sm_p2 : rd_T57 smallG.prods ((2 : Nat) : Int) = ⟨1, [], 0, a0⟩ := rfl
theorem sm_k : smallG.kinds.length = 4 := rfl
theorem sm_r : smallG.rules.length = 2 := rfl
theorem sm_q : smallG.prods.length = 3 := rfl
theorem three {P : Nat → Prop} (h0 : P 0) (h1 : P 1) (h2 : P 2) : ∀ i : Nat, i < 3 → P i
 | 0, _ => h0
 | 1, _ => h1
 | 2, _ => h2
 | n + 3, h => by omega
theorem a0_ok (n : Int) : (partsF n a0 0).1 = true := by
 rw [partsF_eq]; simp [a0, kidsF, ownF]
theorem small_ok : CheckOk smallG where
 kinds := ⟨by decide, by decide, by kernel_rfl, by kernel_rfl, fun s hs => by
  simp only [smallG, List.mem_cons, List.not_mem_nil, or_false] at hs; rcases hs with rfl | rfl | rfl | rfl <;> kernel_rfl, by decide⟩
 base := by kernel_rfl
 prods := by
  rw [sm_q, sm_k, sm_r]; refine three ?_ ?_ ?_
  · rw [sm_p0]
    exact ⟨by decide, by decide, by decide, by decide, fun j hj => by
     match j, hj with
     | 0, _ => exact ⟨by decide, by decide⟩
     | 1, _ => exact ⟨by decide, by decide⟩
     | n + 2, h => exact absurd (show n + 2 < 2 from h) (by omega), a0_ok _⟩
  · rw [sm_p1]
    exact ⟨by decide, by decide, by decide, by decide, fun j hj => by
     match j, hj with
     | 0, _ => exact ⟨by decide, by decide⟩
     | 1, _ => exact ⟨by decide, by decide⟩
     | n + 2, h => exact absurd (show n + 2 < 2 from h) (by omega), a0_ok _⟩
  · rw [sm_p2]
    exact ⟨by decide, by decide, by decide, by decide, fun j hj => by simp at hj, a0_ok _⟩
theorem small_null : closedL smallG false = [false, true] := by
 have hP := small_ok.prodsOk; refine (closed_eq (marks := [false, true]) rfl ?_).symm; have hc : ∀ i : Nat, i < smallG.prods.length → wholeF smallG.kinds.length [false, true] false (rd_T57 smallG.prods i).f1 = true → rdOf false [false, true] (rd_T57 smallG.prods i).f0 = true := by
  rw [sm_q]; refine three ?_ ?_ ?_
  · intro h; exact absurd h (by decide)
  · intro h; exact absurd h (by decide)
  · intro _; rfl
 intro a ha; refine ⟨fun h => ?_, fun h => der_done hP hc h⟩
 match a, ha with
 | 0, _ => exact absurd h (by decide)
 | 1, _ => exact Der.mk (G := smallG) (kinds := false) 2 (by decide) (fun j hj => by rw [sm_p2] at hj; simp at hj) (fun j hj => by rw [sm_p2] at hj; simp at hj)
 | n + 2, h2 => rw [sm_r] at h2; omega
theorem small_first : firstL smallG = [[false, false, true, true], [false, false, true, false]] := by
 have hP := small_ok.prodsOk; have hD : Der smallG false 1 := (closedL_at (a := 1) (by decide)).1 (by rw [small_null]; rfl); have f12 : Fst smallG [2, 5] 2 := .kind 2 [5] (by decide); have fr1 : FstR smallG 1 2 := ⟨1, by decide, rfl, f12⟩; have f02 : Fst smallG [5, 3] 2 := .rule 5 [3] 1 2 (by decide) (by decide) rfl f12; have f03 : Fst smallG [5, 3] 3 := .skip 5 [3] 3 (by decide) hD (.kind 3 [] (by decide)); refine (first_eq (F := [[false, false, true, true], [false, false, true, false]]) hP ⟨rfl, fun i hi => ?_⟩ (fun a t h => ?_) ?_).symm
 · match i, hi with
   | 0, _ => rfl
   | 1, _ => rfl
   | n + 2, h => rw [sm_r] at h; omega
 · match a with
   | 0 =>
    match t with
    | 0 => exact absurd h (by decide)
    | 1 => exact absurd h (by decide)
    | 2 => exact ⟨0, by decide, rfl, f02⟩
    | 3 => exact ⟨0, by decide, rfl, f03⟩
    | n + 4 => exact absurd (show false = true from h) (by decide)
   | 1 =>
    match t with
    | 0 => exact absurd h (by decide)
    | 1 => exact absurd h (by decide)
    | 2 => exact fr1
    | 3 => exact absurd h (by decide)
    | n + 4 => exact absurd (show false = true from h) (by decide)
   | n + 2 => exact absurd (show false = true from h) (by decide)
 · rw [sm_q]
   refine three ?_ ?_ ?_
   · intro t h
     rw [small_null, sm_p0] at h
     match t with
     | 0 => exact absurd h (by decide)
     | 1 => exact absurd h (by decide)
     | 2 => rfl
     | 3 => rfl
     | n + 4 => exact absurd (show false = true from h) (by decide)
   · intro t h
     rw [small_null, sm_p1] at h
     match t with
     | 0 => exact absurd h (by decide)
     | 1 => exact absurd h (by decide)
     | 2 => rfl
     | 3 => exact absurd h (by decide)
     | n + 4 => exact absurd (show false = true from h) (by decide)
   · intro t h
     rw [sm_p2] at h; simp [begB] at h
theorem siz_one {G : Gr} {l : List Int} {n : Nat} (h : Siz G l n) : ∀ x, x ∈ l → x < G.kinds.length → 1 ≤ n := by
 induction h with
 | nil => intro x hx; cases hx
 | kind _ _ _ => intro x _ _; omega
 | rule hk _ _ _ _ _ ih =>
  intro x hx hlt; rcases List.mem_cons.1 hx with rfl | hx
  · exact absurd hlt hk
  · have := ih x hx hlt
    omega
theorem small_least {L : List Int} (h : LeastOk smallG L) : rd L 0 = 1 := by
 have h4 : Siz smallG [(4 : Int)] 1 := by
  have hA : Siz smallG [5, 3] (0 + (0 + 1)) := .rule (i := 2) (by decide) (by decide) rfl (by rw [sm_p2]; exact .nil) (.kind (by decide) .nil); have := Siz.rule (G := smallG) (x := 4) (l := []) (i := 0) (by decide) (by decide) rfl hA .nil; exact this
 obtain ⟨h1, h2⟩ := h.least 0 1 (by rw [sm_k]; exact h4); have h2 : rd L 0 ≤ 1 := h2; have h1 : 0 ≤ rd L 0 := h1; obtain ⟨n, hn, e⟩ := h.sound 0 (by decide) h1; rw [sm_k] at hn; obtain ⟨i, hi, hf, hr⟩ := hn.one (by decide); have e : rd L 0 = minF n := e; rw [sm_q] at hi; have h5 : 1 ≤ n := by
  match i, hi with
  | 0, _ => exact siz_one hr 3 (by rw [sm_p0]; decide) (by decide)
  | 1, _ => exact absurd hf (by decide)
  | 2, _ => exact absurd hf (by decide)
  | k + 3, h => omega
 have : minF n = n ∨ minF n = 65537 := by unfold minF; split <;> simp
 omega
theorem small_some : quoinlaw12_small.f = some (smallG.kinds, smallG.precs, smallG.rules, smallG.prods, smallG.start) := by
 unfold quoinlaw12_small.f; rw [if_pos (by decide)]; rfl
structure SmFacts (G : Gr) : Prop where
 ok : CheckOk G
 two : G.rules.length = 2
 nul : closedL G false = [false, true]
 fst : firstL G = [[false, false, true, true], [false, false, true, false]]
 least : ∀ L, LeastOk G L → rd L 0 = 1
theorem small_facts : SmFacts smallG := ⟨small_ok, rfl, small_null, small_first, fun _ h => small_least h⟩
set_option maxHeartbeats 4000000 in
set_option maxRecDepth 100000 in
theorem awake_calls (w : World) : Calls Try.prog 10 #[] w fun e w' => e = .returned (.bool true) ∧ Fr (fun _ => False) w w' := by
 have hu := Try.underlying26; have hu3 := Try.underlying39; go_enter Try.func10, Try.ntmps10
 go_wp2_with (fail)
 refine (quoinlaw12_small.calls smallG.kinds smallG.precs smallG.rules smallG.prods smallG.start w small_some).mono ?_; rintro e W1 ⟨v0, v1, v2, v3, rfl, h0, h1, h2, h3, hB⟩; obtain ⟨A0, c0, rfl, l0, g0⟩ := Kd.R_reads h0; obtain ⟨A1, c1, rfl, l1, g1⟩ := Kd.R_reads h1; obtain ⟨A2, c2, rfl, l2, g2⟩ := Kd.R_reads h2; obtain ⟨A3, c3, rfl, l3, g3⟩ := Kd.N_reads h3; have HG := Aside0.mk (show GAt W1 smallG A0 A1 A2 A3 c0 c1 c2 c3 from ⟨g0, g1, g2, g3, l0, l1, l2, l3, fun s hs => by
  simp only [smallG, List.mem_cons, List.not_mem_nil, or_false] at hs; rcases hs with rfl | rfl | rfl | rfl <;> decide, fun s hs => by
  simp only [smallG, List.mem_cons, List.not_mem_nil, or_false] at hs; rcases hs with rfl | rfl <;> decide⟩)
 have HF1 := Aside0.mk (Fr.of_below (S := fun _ => False) hB); have HS := Aside0.mk small_facts; clear h0 h1 h2 h3 g0 g1 g2 g3 l0 l1 l2 l3 hB; generalize smallG = G at HG HS ⊢; go_upto_region 2 with fail
 have HBX := Aside0.mk (blk_new W1 (.cells #[.slice A0 G.kinds.length c0, .slice A1 G.precs.length c1, .slice A2 G.rules.length c2, .slice A3 G.prods.length c3, .int .i64 G.start] 26)); have HF2 := Aside0.mk ((Fr.refl (fun _ => False) W1).alloc (.cells #[.slice A0 G.kinds.length c0, .slice A1 G.precs.length c1, .slice A2 G.rules.length c2, .slice A3 G.prods.length c3, .int .i64 G.start] 26)); generalize W1.alloc (.cells #[.slice A0 G.kinds.length c0, .slice A1 G.precs.length c1, .slice A2 G.rules.length c2, .slice A3 G.prods.length c3, .int .i64 G.start] 26) = W2 at HBX HF2 ⊢; generalize W1.heap.size = b1 at HBX ⊢; have HG2 := Aside0.mk (HG.out.go HF2.out); have HF2 := Aside0.mk (HF1.out.trans HF2.out (fun _ _ h => h)); have e0 := (blk_cell HBX.out 0).trans (show _ = some (Value.slice A0 G.kinds.length c0) from rfl); have e1 := (blk_cell HBX.out 1).trans (show _ = some (Value.slice A1 G.precs.length c1) from rfl); have e2 := (blk_cell HBX.out 2).trans (show _ = some (Value.slice A2 G.rules.length c2) from rfl); have e3 := (blk_cell HBX.out 3).trans (show _ = some (Value.slice A3 G.prods.length c3) from rfl); have e4 := (blk_cell HBX.out 4).trans (show _ = some (Value.int .i64 G.start) from rfl); clear HG HF1; go_wp2_with (fail)
 refine (look_calls W2 G A0 A1 A2 A3 c0 c1 c2 c3 HG2.out).mono ?_; rintro e W3 ⟨hL, hF3⟩; rcases hL with ⟨hn, _⟩ | ⟨_, NA, nc, PA, pc, RA, rc, CA, cc, FV, WV, cl, Fo, rfl, hN, _, _, _, _, hFS, hWS, _⟩
 · exact absurd HS.out.ok hn
 obtain ⟨VA, va, rfl⟩ := Kd.S_slice hFS; obtain ⟨UA, ua, rfl⟩ := Kd.S_slice hWS; have HN := Aside0.mk hN; have HFS := Aside0.mk hFS; have HF3 := Aside0.mk hF3; clear hN hFS hWS hF3 e0 e1 e2 e3 e4; generalize hu1 : (Fo.map (listI 0)).length = ul; generalize hv1 : ((firstL G).map (listI 0)).length = vl; have HVL := Aside0.mk hv1; clear hu1 hv1; go_upto_region 3 with fail
 have HR := Aside0.mk (blk_new W3 (.cells #[.slice NA G.rules.length nc, .slice PA G.rules.length pc, .slice RA G.rules.length rc, .slice CA G.rules.length cc, .slice VA vl va, .slice UA ul ua] 39)); have HF4 := Aside0.mk ((Fr.refl (fun _ => False) W3).alloc (.cells #[.slice NA G.rules.length nc, .slice PA G.rules.length pc, .slice RA G.rules.length rc, .slice CA G.rules.length cc, .slice VA vl va, .slice UA ul ua] 39)); generalize W3.alloc (.cells #[.slice NA G.rules.length nc, .slice PA G.rules.length pc, .slice RA G.rules.length rc, .slice CA G.rules.length cc, .slice VA vl va, .slice UA ul ua] 39) = W4 at HR HF4 ⊢; generalize W3.heap.size = b2 at HR ⊢; have HF34 := Aside0.mk (HF3.out.trans HF4.out (fun _ _ h => h)); have HB4 := Aside0.mk (HF34.out.blk HBX.out id); have e0 := (blk_cell HB4.out 0).trans (show _ = some (Value.slice A0 G.kinds.length c0) from rfl); have e1 := (blk_cell HB4.out 1).trans (show _ = some (Value.slice A1 G.precs.length c1) from rfl); have e2 := (blk_cell HB4.out 2).trans (show _ = some (Value.slice A2 G.rules.length c2) from rfl); have e3 := (blk_cell HB4.out 3).trans (show _ = some (Value.slice A3 G.prods.length c3) from rfl); have e4 := (blk_cell HB4.out 4).trans (show _ = some (Value.int .i64 G.start) from rfl); go_wp2_with (fail)
 refine (least_calls W4 G A0 A1 A2 A3 c0 c1 c2 c3 (HG2.out.go HF34.out) 0).mono ?_; rintro e W5 ⟨⟨n, sm, r, rfl, h1, _, h3⟩, hF5⟩; obtain rfl : r = 0 := h1.2 ⟨HS.out.ok, Int.le_refl _, by have := HS.out.two; omega⟩; obtain ⟨L, hL, hn, hs⟩ := h3 rfl; rw [HS.out.least L hL] at hn hs; obtain rfl : n = 1 := by rw [hn]; rfl
 obtain rfl : sm = true := by rw [hs]; rfl
 clear h1 h3 hL hn hs e0 e1 e2 e3 e4; have HFE := Aside0.mk (HF2.out.trans (HF34.out.trans hF5 (fun _ _ h => h)) (fun _ _ h => h)); have HN5 := Aside0.mk (Kd.R_below HN.out (HF4.out.trans hF5 (fun _ _ h => h)).to_below); have HS5 := Aside0.mk (Kd.S_below HFS.out (HF4.out.trans hF5 (fun _ _ h => h)).to_below); have HR5 := Aside0.mk (hF5.blk HR.out id); clear HN HFS HR HF4 HF34 HB4 HBX HF2 HF3 hF5 HG2; have hr2 := HS.out.two; have hfl := (firstL_sized G).fl; obtain ⟨gn, kn, en⟩ := marks_form HN5.out (by rw [closedL_length]; omega); injection en with en1 en2 en3
 subst en1; obtain ⟨m1, _⟩ := marks_at HN5.out (i := 1) (by decide) (by omega); obtain ⟨m0, _⟩ := marks_at HN5.out (i := 0) (by decide) (by omega); rw [HS.out.nul] at m1 m0; have m1 : W5.cell? ⟨gn, 1, none⟩ = some (.bool true) := m1; have m0 : W5.cell? ⟨gn, 0, none⟩ = some (.bool false) := m0; have hvl := HVL.out; rw [List.length_map, hfl, hr2] at hvl; subst hvl; have hX : (firstL G).map (listI 0) = [[2, 3], [2]] := by rw [HS.out.fst]; rfl
 have hS5 := HS5.out; rw [hX] at hS5; obtain ⟨adv, Av, cv, rfl, hcv, _, _⟩ := at_L3 (Kd.S_reads' hS5).2.2 0 (by decide) (by decide); have hcv : W5.cell? (adv.add 0) = some (.slice Av 2 cv) := hcv; rw [show adv.add 0 = adv by unfold Addr.add; rfl] at hcv; have hR5 := HR5.out; rw [hr2] at hR5; have q0 := (blk_cell hR5 0).trans (show _ = some (Value.slice (some ⟨gn, 0, none⟩) 2 nc) from rfl); have q4 := (blk_cell hR5 4).trans (show _ = some (Value.slice (some adv) 2 va) from rfl); clear hS5 hX HS5 hR5 HR5 HVL hfl en2 en3 HN5 HS hr2; go_wp2_with (fail)
 go_ret
 exact ⟨rfl, HFE.out⟩
set_option maxHeartbeats 2000000 in
set_option maxRecDepth 100000 in
theorem same_calls (w : World) (A B : Option Addr) (n m ca cb : Nat) (l : List Int) (hA : kI.C w A l.length l) (hB : kI.C w B l.length l) (hn : n = l.length) (hm : m = l.length) (hl : l.length ≤ 1000000) :
 Calls Try.prog 19 #[.slice A n ca, .slice B m cb] w fun e w' => e = .returned (.bool true) ∧ Fr (fun _ => False) w w' := by
 subst hn hm; have HA := Aside0.mk hA; have HB := Aside0.mk hB; clear hA hB; go_enter Try.func19, Try.ntmps19
 go_wp2_with (fail)
 go_loopw [5] (fun a W => ∃ i : Nat, a = .int .i64 i ∧ i ≤ l.length ∧ Aside0 (Fr (fun _ => False) w W)) (fun a _ => l.length - (intOf a).toNat)
 case atStart => exact ⟨0, rfl, Nat.zero_le _, ⟨Fr.refl _ _⟩⟩
 case round =>
  obtain ⟨i, rfl, hi, HF⟩ := hrel; by_cases hlt : i < l.length
  · have HLT := Aside0.mk hlt
    obtain ⟨aa, rfl, hxa⟩ := Kd.at_int (Kd.C_below HA.out HF.out.to_below) (i : Int) (by omega) (by omega); obtain ⟨ab, rfl, hxb⟩ := Kd.at_int (Kd.C_below HB.out HF.out.to_below) (i : Int) (by omega) (by omega); simp only [Int.toNat_natCast] at hxa hxb; generalize rd l (i : Int) = y at hxa hxb; go_wp2_with (fail)
    go_region_held3 (fun w' => w'.cell? (aa.add i) = some (.int .i64 y) ∧ w'.cell? (ab.add i) = some (.int .i64 y)) (go_keep) (fail)
    have HF2 := Aside0.mk (HF.out.trans (Fr.refl (fun _ => False) wr).drew (fun _ _ h => h)); clear hxa hxb HF; go_wp2_with (fail)
    exact ⟨⟨i + 1, by go_num, HLT.out, HF2⟩, by have := HLT.out; simp [intOf]; omega⟩
  · obtain rfl : i = l.length := by omega
    go_wp2_with (fail)
    go_ret
    exact ⟨rfl, HF.out⟩
theorem siz_all {G : Gr} {n0 : Bool} : ∀ {l : List Int}, (∀ x, x ∈ l → (x < G.kinds.length ∧ n0 = false) ∨ (¬ x < G.kinds.length ∧ ∃ n, Siz G [x] n ∧ (n0 = true → n = 0))) → ∃ n, Siz G l n ∧ (n0 = true → n = 0)
 | [], _ => ⟨0, .nil, fun _ => rfl⟩
 | x :: l, h => by
  obtain ⟨n, h1, h2⟩ := siz_all (l := l) (fun y hy => h y (List.mem_cons_of_mem _ hy)); rcases h x List.mem_cons_self with ⟨hk, hf⟩ | ⟨hk, m, hm, hm0⟩
  · exact ⟨n + 1, .kind hk h1, fun e => by rw [hf] at e; cases e⟩
  · exact ⟨m + n, hm.cons hk h1, fun e => by rw [hm0 e, h2 e]⟩
theorem der_siz {G : Gr} (hP : ProdsOk G) {kinds : Bool} {a : Nat} (h : Der G kinds a) : ∃ n, Siz G [(G.kinds.length : Int) + a] n ∧ (kinds = false → n = 0) := by
 induction h with
 | mk i hi hk hr ih =>
  have hp := hP i hi; obtain ⟨n, h1, h2⟩ := siz_all (G := G) (n0 := !kinds) (l := (rd_T57 G.prods i).f1) (fun x hx => by
   obtain ⟨j, hj, rfl⟩ := mem_rd hx; have hro := hp.2.2.2 j hj; by_cases hlt : rd (rd_T57 G.prods i).f1 j < G.kinds.length
   · exact .inl ⟨hlt, by rw [hk j hj hlt]; rfl⟩
   · obtain ⟨n, h1, h2⟩ := ih j hj hlt
     rw [show (G.kinds.length : Int) + ((rd (rd_T57 G.prods i).f1 j - G.kinds.length).toNat : Nat) = rd (rd_T57 G.prods i).f1 j by omega] at h1; exact .inr ⟨hlt, n, h1, fun e => h2 (by simpa using e)⟩)
  refine ⟨n + 0, .rule (i := i) (by omega) hi (by omega) h1 .nil, fun e => by rw [h2 (by rw [e]; rfl)]⟩
theorem siz_der {G : Gr} {l : List Int} {n : Nat} (h : Siz G l n) : ∀ x, x ∈ l → ¬ x < G.kinds.length → Der G true (x - G.kinds.length).toNat := by
 induction h with
 | nil => exact fun x hx => by cases hx
 | kind hk _ ih =>
  intro y hy hky; rcases List.mem_cons.1 hy with rfl | hy
  · exact absurd hk hky
  · exact ih y hy hky
 | @rule x l i m n hk hi hf _ _ ih1 ih2 =>
  intro y hy hky; rcases List.mem_cons.1 hy with rfl | hy
  · rw [← hf]
    exact .mk i hi (fun _ _ _ => rfl) (fun j hj hn => ih1 _ (rd_mem hj) hn)
  · exact ih2 y hy hky
structure Told (G : Gr) (L : List Int) (a : Int) : Prop where
 nul : rdOf false (closedL G false) a = true ↔ rd L a = 0
 pro : rdOf false (closedL G true) a = true ↔ 0 ≤ rd L a
theorem told {G : Gr} {L : List Int} (hL : LeastOk G L) (hP : ProdsOk G) {a : Nat} (ha : a < G.rules.length) : Told G L (a : Int) := by
 constructor
 · rw [closedL_at ha]
   constructor
   · intro h
     obtain ⟨n, h1, h2⟩ := der_siz hP h; have h3 := hL.least a n h1; rw [h2 rfl] at h3; have : minF 0 = 0 := rfl; omega
   · intro h
     obtain ⟨n, h1, e⟩ := hL.sound a ha (by omega); have e0 : n = 0 := by
      rw [h] at e; unfold minF at e; split at e <;> omega
     have := (siz_zero h1 e0 _ (List.mem_singleton.2 rfl)).2; rwa [show ((G.kinds.length : Int) + a - G.kinds.length).toNat = a by omega] at this
 · rw [closedL_at ha]
   constructor
   · intro h
     obtain ⟨n, h1, _⟩ := der_siz hP h; exact (hL.least a n h1).1
   · intro h
     obtain ⟨n, h1, _⟩ := hL.sound a ha h; have := siz_der h1 _ (List.mem_singleton.2 rfl) (by omega); rwa [show ((G.kinds.length : Int) + a - G.kinds.length).toNat = a by omega] at this
theorem numF_lt {kp : Nat → Bool} {a b : Nat} (h : a < b) (ha : kp a = true) : numF kp a < numF kp b := by
 induction b with
 | zero => omega
 | succ b ih =>
  by_cases e : a = b
  · subst e
    rw [numF_succ ha]; omega
  · have := ih (by omega)
    cases hb : kp b with
    | true => rw [numF_succ hb]; omega
    | false => rw [numF_same hb]; exact this
theorem numF_hit {kp : Nat → Bool} : ∀ (k b : Nat), b < numF kp k → ∃ a, a < k ∧ kp a = true ∧ numF kp a = b
 | 0, b, h => by simp [numF] at h
 | k + 1, b, h => by
  cases hk : kp k with
  | false =>
   rw [numF_same hk] at h; obtain ⟨a, h1, h2⟩ := numF_hit k b h; exact ⟨a, by omega, h2⟩
  | true =>
   rw [numF_succ hk] at h; by_cases e : b = numF kp k
   · exact ⟨k, by omega, hk, e.symm⟩
   · obtain ⟨a, h1, h2⟩ := numF_hit (kp := kp) k b (by omega)
     exact ⟨a, by omega, h2⟩
theorem rd_numL {kp : Nat → Bool} {R a : Nat} (h : a < R) (hk : kp a = true) : rd (numL kp R R) (a : Int) = numF kp a := by
 simp [rd, numL, List.getD_eq_getElem?_getD, h, hk]
theorem rules_at {kp : Nat → Bool} {rules : List ByteArray} {a : Nat} (ha : kp a = true) : ∀ {k : Nat}, a < k → (rulesL kp rules k)[numF kp a]? = some (rdS rules a)
 | 0, h => by omega
 | k + 1, h => by
  cases hk : kp k with
  | false =>
   rw [rulesL_false hk]; by_cases e : a = k
   · subst e
     rw [ha] at hk; cases hk
   · exact rules_at ha (by omega)
  | true =>
   rw [rulesL_true hk]; by_cases e : a = k
   · subst e
     rw [List.getElem?_append_right (by rw [rulesL_len]; exact Nat.le_refl _), rulesL_len]; simp
   · rw [List.getElem?_append_left (by rw [rulesL_len]; exact numF_lt (by omega) ha)]
     exact rules_at ha (by omega)
theorem mem_T57 {l : List S57} {i : Nat} (h : i < l.length) : rd_T57 l i ∈ l := by
 simp [rd_T57, List.getD_eq_getElem?_getD, h]
theorem mem_T57' {l : List S57} {p : S57} (h : p ∈ l) : ∃ i : Nat, i < l.length ∧ rd_T57 l i = p := by
 obtain ⟨i, hi, e⟩ := List.getElem_of_mem h; exact ⟨i, hi, by simp [rd_T57, List.getD_eq_getElem?_getD, hi, e]⟩
theorem rd_map {f : Int → Int} {l : List Int} {t : Nat} (h : t < l.length) : rd (l.map f) (t : Int) = f (rd l (t : Int)) := by
 simp [rd, List.getD_eq_getElem?_getD, h]
theorem trim_prod {G : Gr} {i : Nat} (hi : i < (trimG G).prods.length) : ∃ j : Nat, j < G.prods.length ∧ staysT G (rd_T57 G.prods j) = true ∧ rd_T57 (trimG G).prods i = prodT G.kinds.length (numT G) (rd_T57 G.prods j) := by
 have := mem_T57 hi; obtain ⟨p, hp, e⟩ := List.mem_map.1 (show rd_T57 (trimG G).prods i ∈ (G.prods.filter (staysT G)).map (prodT G.kinds.length (numT G)) from this); obtain ⟨hp1, hp2⟩ := List.mem_filter.1 hp; obtain ⟨j, hj, rfl⟩ := mem_T57' hp1; exact ⟨j, hj, hp2, e.symm⟩
theorem trim_rules (G : Gr) : (trimG G).rules.length = numF (kpT G) G.rules.length := rulesL_len _ _ _
theorem good_iff {G : Gr} {p : S57} : goodB G.kinds.length (proL G) p = true ↔ rdOf false (proL G) p.f0 = true ∧ ∀ x, x ∈ p.f1 → ¬ x < G.kinds.length → rdOf false (proL G) (x - G.kinds.length) = true := by
 simp only [goodB, Bool.and_eq_true, wholeF, List.all_eq_true]; refine and_congr Iff.rfl ⟨fun h x hx hk => ?_, fun h x hx => ?_⟩
 · have := h x hx
   simpa [symF, hk] using this
 · by_cases hk : x < G.kinds.length
   · simp [symF, hk]
   · simpa [symF, hk] using h x hx hk
theorem stay_iff {G : Gr} {p : S57} : staysT G p = true ↔ goodB G.kinds.length (proL G) p = true ∧ rdOf false (keepL G) p.f0 = true := by
 simp only [staysT, Bool.and_eq_true]
theorem kp_iff {G : Gr} {a : Nat} : kpT G a = true ↔ rdOf false (keepL G) (a : Int) = true ∧ rdOf false (proL G) (a : Int) = true := by
 simp only [kpT, Bool.and_eq_true]
theorem row_bound {K R : Nat} {row : List Int} (h : RowOk K R row) {x : Int} (hx : x ∈ row) : 1 ≤ x ∧ x < K + R := by
 obtain ⟨t, ht, rfl⟩ := mem_rd hx; exact h t ht
theorem stay_syms {G : Gr} (hP : ProdsOk G) {j : Nat} (hj : j < G.prods.length) (hs : staysT G (rd_T57 G.prods j) = true) : kpT G (rd_T57 G.prods j).f0.toNat = true ∧ ∀ x, x ∈ (rd_T57 G.prods j).f1 → ¬ x < G.kinds.length → kpT G (x - G.kinds.length).toNat = true := by
 obtain ⟨hg, hk⟩ := stay_iff.1 hs; obtain ⟨h1, h2⟩ := good_iff.1 hg; obtain ⟨p0, p1, _, hro⟩ := hP j hj; have ef : (((rd_T57 G.prods j).f0.toNat : Nat) : Int) = (rd_T57 G.prods j).f0 := by omega
 refine ⟨kp_iff.2 (by rw [ef]; exact ⟨hk, h1⟩), fun x hx hn => ?_⟩; obtain ⟨b1, b2⟩ := row_bound hro hx; have ex : (((x - G.kinds.length).toNat : Nat) : Int) = x - G.kinds.length := by omega
 refine kp_iff.2 ⟨?_, by rw [ex]; exact h2 x hx hn⟩; refine (reachL_at (by omega)).2 ?_; refine Rch.next (a := (rd_T57 G.prods j).f0.toNat) ((reachL_at (by omega)).1 (by rw [ef]; exact hk)) hj (by omega) hg hx (by omega)
theorem symT_kind {K : Nat} {num : List Int} {x : Int} (h : x < K) : symT K num x = x := by simp [symT, h]
theorem symT_rule {G : Gr} {x : Int} (h : ¬ x < G.kinds.length) (hb : x < G.kinds.length + G.rules.length) (hk : kpT G (x - G.kinds.length).toNat = true) : symT G.kinds.length (numT G) x = G.kinds.length + (numF (kpT G) (x - G.kinds.length).toNat : Int) := by
 unfold symT; rw [if_neg h]; have := rd_numL (R := G.rules.length) (a := (x - G.kinds.length).toNat) (by omega) hk; rw [Int.toNat_of_nonneg (by omega)] at this; unfold numT; rw [this]
theorem left_T {G : Gr} (hP : ProdsOk G) {j : Nat} (hj : j < G.prods.length) (hs : staysT G (rd_T57 G.prods j) = true) : (prodT G.kinds.length (numT G) (rd_T57 G.prods j)).f0 = (numF (kpT G) (rd_T57 G.prods j).f0.toNat : Int) := by
 obtain ⟨p0, p1, _, _⟩ := hP j hj; have := rd_numL (R := G.rules.length) (a := (rd_T57 G.prods j).f0.toNat) (by omega) (stay_syms hP hj hs).1; rw [Int.toNat_of_nonneg p0] at this; exact this
theorem start_T {G : Gr} (h0 : 0 ≤ G.start) (h1 : G.start < G.rules.length) (hk : kpT G G.start.toNat = true) : (trimG G).start = (numF (kpT G) G.start.toNat : Int) := by
 have := rd_numL (R := G.rules.length) (a := G.start.toNat) (by omega) hk; rw [Int.toNat_of_nonneg h0] at this; exact this
theorem kp_start {G : Gr} (h0 : 0 ≤ G.start) (h1 : G.start < G.rules.length) (hs : rdOf false (proL G) G.start = true) : kpT G G.start.toNat = true := by
 refine kp_iff.2 ⟨(reachL_at (by omega)).2 .start, by rw [Int.toNat_of_nonneg h0]; exact hs⟩
theorem der_good {G : Gr} (hP : ProdsOk G) {j : Nat} (hj : j < G.prods.length) (hx : ∀ x, x ∈ (rd_T57 G.prods j).f1 → ¬ x < G.kinds.length → Der G true (x - G.kinds.length).toNat) : goodB G.kinds.length (proL G) (rd_T57 G.prods j) = true := by
 obtain ⟨p0, p1, _, hro⟩ := hP j hj; refine good_iff.2 ⟨?_, fun x hx2 hn => ?_⟩
 · have : Der G true (rd_T57 G.prods j).f0.toNat := .mk j hj (fun _ _ _ => rfl) (fun t ht hn => hx _ (rd_mem ht) hn)
   have := (closedL_at (by omega)).2 this; rwa [Int.toNat_of_nonneg p0] at this
 · obtain ⟨b1, b2⟩ := row_bound hro hx2
   have := (closedL_at (by omega)).2 (hx x hx2 hn); rwa [Int.toNat_of_nonneg (by omega)] at this
theorem namesF_iff {ok : Bool} {l : List ByteArray} : ∀ {k : Nat}, namesF ok l k = true ↔ ok = true ∧ ∀ j, j < k → nameF l j = true
 | 0 => ⟨fun h => ⟨h, fun j hj => by omega⟩, fun h => h.1⟩
 | k + 1 => by
  simp only [namesF, Bool.and_eq_true]; rw [namesF_iff (k := k)]; constructor
  · rintro ⟨⟨h1, h2⟩, h3⟩
    refine ⟨h1, fun j hj => ?_⟩; by_cases e : j = k
    · rw [e]; exact h3
    · exact h2 j (by omega)
  · rintro ⟨h1, h2⟩
    exact ⟨⟨h1, fun j hj => h2 j (by omega)⟩, h2 k (by omega)⟩
theorem nameF_iff {l : List ByteArray} {k : Nat} : nameF l k = true ↔ (1 ≤ (rdS l k).size ∧ (rdS l k).size ≤ 4096) ∧ ¬ rdS l k ∈ l.take k := by
 simp only [nameF, Bool.and_eq_true, decide_eq_true_eq, Bool.not_eq_true', ← inS_iff (ks := l.take k)]; constructor
 · rintro ⟨h1, h2, h3⟩
   exact ⟨⟨by omega, by omega⟩, by rw [h3]; decide⟩
 · rintro ⟨⟨h1, h2⟩, h3⟩
   exact ⟨by omega, by omega, by cases hb : inS (rdS l k) (l.take k) with
    | false => rfl
    | true => exact absurd hb h3⟩
theorem rdS_of {l : List ByteArray} {k : Nat} {s : ByteArray} (h : l[k]? = some s) : rdS l k = s := by
 simp [rdS, rdOf, List.getD_eq_getElem?_getD, h]
theorem trim_names {G : Gr} (h : ∀ j, j < G.rules.length → nameF G.rules j = true) {b : Nat} (hb : b < (trimG G).rules.length) : nameF (trimG G).rules b = true := by
 rw [trim_rules] at hb; obtain ⟨a, ha, hk, rfl⟩ := numF_hit _ _ hb; have hr : ∀ {c : Nat}, c < G.rules.length → kpT G c = true → (trimG G).rules[numF (kpT G) c]? = some (rdS G.rules c) := fun hc hkc => rules_at hkc hc
 obtain ⟨h1, h2⟩ := nameF_iff.1 (h a ha); refine nameF_iff.2 ?_; rw [rdS_of (hr ha hk)]; refine ⟨h1, fun hm => h2 ?_⟩; obtain ⟨b1, hb1, e⟩ := List.getElem_of_mem hm; rw [List.getElem_take] at e; have hlt : b1 < numF (kpT G) a := by
  rw [List.length_take] at hb1; omega
 obtain ⟨a1, ha1, hk1, rfl⟩ := numF_hit a b1 hlt; have e1 := hr (show a1 < G.rules.length by omega) hk1; rw [List.getElem?_eq_getElem (by rw [List.length_take] at hb1; omega)] at e1; injection e1 with e1
 rw [e1] at e; rw [← e]; refine List.mem_of_getElem? (i := a1) ?_; rw [List.getElem?_take, if_pos ha1]; have : a1 < G.rules.length := by omega
 simp [rdS, rdOf, List.getD_eq_getElem?_getD, this]
theorem trim_prodOk {G : Gr} (hc : CheckOk G) {i : Nat} (hi : i < (trimG G).prods.length) : ProdOk (trimG G).kinds.length (trimG G).rules.length (rd_T57 (trimG G).prods i) := by
 obtain ⟨j, hj, hs, e⟩ := trim_prod hi; have hp := hc.prods j hj; have hP := hc.prodsOk; obtain ⟨k0, kx⟩ := stay_syms hP hj hs; have hl := left_T hP hj hs; have hR : ∀ {a : Nat}, a < G.rules.length → kpT G a = true → numF (kpT G) a < (trimG G).rules.length := fun ha hk => by
  rw [trim_rules]; exact numF_lt ha hk
 rw [e]; have hl0 := hp.l0; have hl1 := hp.l1; have hK2 := hc.kinds.two; refine ⟨by rw [hl]; omega, by rw [hl]; have := hR (a := (rd_T57 G.prods j).f0.toNat) (by omega) k0; omega, by simp only [prodT, List.length_map]; exact hp.len, hp.lev, fun t ht => ?_, ?_⟩
 · have ht2 : t < (rd_T57 G.prods j).f1.length := by simpa [prodT] using ht
   have er : rd (prodT G.kinds.length (numT G) (rd_T57 G.prods j)).f1 (t : Int) = symT G.kinds.length (numT G) (rd (rd_T57 G.prods j).f1 (t : Int)) := rd_map ht2; rw [er]; change _ ∧ _ < ((G.kinds.length : Nat) : Int) + _
   obtain ⟨b1, b2⟩ := hp.syms t ht2; by_cases hk : rd (rd_T57 G.prods j).f1 (t : Int) < G.kinds.length
   · rw [symT_kind hk]
     omega
   · have hkx := kx _ (rd_mem ht2) hk
     rw [symT_rule hk b2 hkx]; have := hR (a := (rd (rd_T57 G.prods j).f1 (t : Int) - G.kinds.length).toNat) (by omega) hkx; omega
 · have := hp.act
   simpa [prodT] using this
theorem trim_check {G : Gr} (hc : CheckOk G) (hs : rdOf false (proL G) G.start = true) : CheckOk (trimG G) := by
 obtain ⟨_, hR1, hR2, h0, h1, hP2⟩ := base_true hc.base; have hk := kp_start h0 h1 hs; refine ⟨hc.kinds, ?_, fun i hi => trim_prodOk hc hi⟩; obtain ⟨hb1, hb2⟩ := namesF_iff.1 hc.base; refine namesF_iff.2 ⟨?_, fun b hb => trim_names hb2 hb⟩; have hpr : precsF (true && (((trimG G).precs.length : Int) == (trimG G).kinds.length)) (trimG G).precs (trimG G).precs.length = true := (startF_true hb1).1; unfold startF; rw [hpr]; have e1 := start_T h0 h1 hk; have e2 := trim_rules G; have e3 := numF_le (kpT G) G.rules.length; have e4 := numF_lt (kp := kpT G) (a := G.start.toNat) (b := G.rules.length) (by omega) hk; have e5 : (trimG G).prods.length ≤ G.prods.length := prodsL_len _ _ _ _; rw [e1, e2]; simp only [Bool.true_and, Bool.and_eq_true, decide_eq_true_eq]; refine ⟨by omega, by omega, by omega, by omega, by omega⟩
end Go.Proofs.Ytdngobjcdajogaa.Gram
