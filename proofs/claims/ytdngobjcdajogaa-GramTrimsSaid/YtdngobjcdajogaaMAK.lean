/-
The marks of the derived rules: gram.closed, walked.
-/
import Derived.Maps.RangeWalk
import Derived.Maps.OwnSet
import Derived.Maps.Views
import Derived.Deep.LoopGhost
import Derived.Deep.RegionHeld3
import Derived.Test.YtdngobjcdajogaaMAJ
import Derived.BigQuiet
set_option linter.unusedSimpArgs false
set_option linter.unusedVariables false
namespace Go.Proofs.Ytdngobjcdajogaa.Gram
open Go.RowKit Go.Maps Go.Proofs.YtdngobjcdajogaaW.PrintWords Go.Proofs.YtdngobjcdajogaaW.PrintLast Go.Proofs.YtdngobjcdajogaaW.PrintMore Go.Proofs.Ytdngobjcdajogaa.Fr Go.Proofs.Ytdngobjcdajogaa.PGramFirsts Go.Proofs.Ytdngobjcdajogaa.TextSet
theorem law3 : Keyed Try.prog 3 := int_keyed Try.underlying3
abbrev kB : Kd Bool := Kd.bool
noncomputable abbrev RB : Value → Option (DataW Unit × List MemPlace) := plainElem Try.prog 4
abbrev Todo (w : World) (m n : Nat) (D : DataW Unit) : Prop := w.ownsMap Try.prog 3 RB m n D
structure CW (w W : World) (G : Gr) (A0 A1 A2 A3 : Option Addr) (c0 c1 c2 c3 : Nat) (v : Value) (marks : List Bool) : Prop where
 chk : ChkW w W G A0 A1 A2 A3 c0 c1 c2 c3
 row : kB.R 4 W (w.heap.size + 1) (fun _ => True) v marks
theorem CW.go {w W W1 : World} {G : Gr} {A0 A1 A2 A3 : Option Addr} {c0 c1 c2 c3 : Nat} {v : Value} {marks : List Bool} (h : CW w W G A0 A1 A2 A3 c0 c1 c2 c3 v marks) (hF : Fr (fun _ => False) W W1) : CW w W1 G A0 A1 A2 A3 c0 c1 c2 c3 v marks := ⟨h.chk.go hF, hF.R h.row (fun _ _ => id)⟩
theorem marks_form {W : World} {B : Nat} {ok : Nat → Prop} {v : Value} {l : List Bool} (h : kB.R 4 W B ok v l) (hl : 1 ≤ l.length) : ∃ g cap, v = .slice (some ⟨g, 0, none⟩) l.length cap := by
 obtain ⟨A, c, rfl⟩ := Kd.R_slice h; obtain ⟨inner, ho⟩ := Kd.R_own h; rcases ho.2 with ⟨he, _⟩ | ⟨g, cap, cur, he, _⟩
 · injection he with h1 h2 h3
   omega
 · injection he with h1 h2 h3
   exact ⟨g, c, by rw [h1]⟩
theorem CW.map {w W W1 : World} {G : Gr} {A0 A1 A2 A3 : Option Addr} {c0 c1 c2 c3 : Nat} {v : Value} {marks : List Bool} {m : Nat} (h : CW w W G A0 A1 A2 A3 c0 c1 c2 c3 v marks) (hg : W.grownBy W1 (some m)) (hm : w.heap.size < m) (hv : v.ownBlock ≠ some m) : CW w W1 G A0 A1 A2 A3 c0 c1 c2 c3 v marks := by
 have hF : Fr (fun k => k = m) W W1 := ⟨hg.os, hg.tape, hg.output, hg.size, fun i hi hn => hg.block i hi (by simpa using hn)⟩; refine ⟨⟨hF.blk h.chk.box (by omega), h.chk.fr.trans hF (fun k hk e => by omega)⟩, ?_⟩; exact Kd.R_mono (hF.R (show kB.R 4 W (w.heap.size + 1) (fun k => v.ownBlock = some k) v marks from Kd.R_of_own (Kd.own_of_R h.row) (fun _ hk => hk)) (fun k hk e => hv (e ▸ hk))) (fun _ _ => trivial)
theorem invB (v : Value) (y : DataW Unit × List MemPlace) (h : RB v = some y) : ∃ b, v = Value.bool b := by
 cases v <;> simp [RB, plainElem, Try.underlying4] at h
 exact ⟨_, rfl⟩
section
variable {ops : Array Oper} {rest : List Oper} {o : Oper} {a : Act} {Q : Exit → Act → World → Prop}
theorem next_ib (w : World) (hg : o.guard = none) (it : Operand) (hop : o.op = Op.next it false) (b r n : Nat) (D : DataW Unit) (left : Lit → Bool) (cnt : Nat) (hit : a.eval it = .pointer (some ⟨r, 0, none⟩)) (h : w.ranges Try.prog 3 RB b r n D left cnt)
 (hDone : (∀ kl, left kl = false) → wpList Try.prog ops Q rest (a.put o.dst (.tuple #[.bool false])) w)
 (hMore : ∀ (x : Int) (u : Value) (w' : World) (cnt' : Nat), left (.int .i64 x) = true → (Lit.int .i64 x).wf = true → w'.ranges Try.prog 3 RB b r n D (fun z => left z && !z.sameKey (.int .i64 x)) cnt' → cnt' < cnt → w.grownBy w' (some r) →
  (Instr.entry (.pointer (some ⟨r, 0, none⟩))).run Try.prog w' = .ok (.tuple #[.int .i64 x, u]) w' → wpList Try.prog ops Q rest (a.put o.dst (.tuple #[.bool true, .int .i64 x, u])) w') : wpList Try.prog ops Q (o :: rest) a w := by
 refine wpList_next_ranges w hg it hop 3 law3 RB (fun x : Int => Value.int .i64 x) (fun b : Bool => Value.bool b) (fun key kl hk => (Maps.keyOf_int_inv Try.underlying3 hk).imp fun _ h => h.1) invB b r n D left cnt hit h (fun _ hl => hDone hl) ?_; intro x c kl y w' cnt' hkey hlx _ _ hrg hlt hg1 _ hen; obtain ⟨x', e, rfl, hwf⟩ := Maps.keyOf_int_inv Try.underlying3 hkey; injection e with _ e
 subst e; exact hMore x (.bool c) w' cnt' hlx hwf hrg hlt hg1 hen
end
theorem fr_grown {w w' : World} (h : Fr (fun _ => False) w w') : w.grownBy w' none := ⟨h.os, h.tape, h.output, h.size, fun i hi _ => h.block i hi id⟩
theorem same_int (a b : Int) : (Lit.int .i64 a).sameKey (.int .i64 b) = true ↔ a = b := by simp [Lit.sameKey]
theorem ne_of_same {z : Lit} {b : Int} (h : z.sameKey (.int .i64 b) = false) : z ≠ .int .i64 b := fun e => by
 rw [e, (same_int b b).2 rfl] at h; cases h
structure Pass (G : Gr) (kinds : Bool) (marks : List Bool) (D : DataW Unit) : Prop where
 len : marks.length = G.rules.length
 snd : ∀ a : Nat, rdOf false marks a = true → Der G kinds a
 key : ∀ x : Int, Maps.has D (.int .i64 x) = true → 0 ≤ x ∧ x < G.prods.length
 gone : ∀ i : Nat, i < G.prods.length → Maps.has D (.int .i64 (i : Int)) = false → rdOf false marks (rd_T57 G.prods i).f0 = true
def Still (G : Gr) (kinds : Bool) (marks : List Bool) (D : DataW Unit) (p : Lit → Bool) : Prop :=
 ∀ i : Nat, i < G.prods.length → Maps.has D (.int .i64 (i : Int)) = true → p (.int .i64 (i : Int)) = false → wholeF G.kinds.length marks kinds (rd_T57 G.prods i).f1 = false
theorem Pass.start {G : Gr} {kinds : Bool} {D : DataW Unit} (h : ∀ x : Int, Maps.has D (.int .i64 x) = true ↔ 0 ≤ x ∧ x < (G.prods.length : Nat)) : Pass G kinds (List.replicate G.rules.length false) D :=
 ⟨by simp, fun a ha => (by
  exfalso
  have : rdOf false (List.replicate G.rules.length false) (a : Int) = false := by
   simp only [rdOf, List.getD_eq_getElem?_getD, List.getElem?_replicate]; split <;> rfl
  rw [this] at ha; cases ha), fun x hx => (h x).1 hx, fun i hi hn => by rw [(h i).2 ⟨by omega, by omega⟩] at hn; cases hn⟩
theorem Pass.done {G : Gr} {kinds : Bool} {marks : List Bool} {D : DataW Unit} (h : Pass G kinds marks D) (hs : Still G kinds marks D (fun _ => false)) (hP : ProdsOk G) : marks = closedL G kinds :=
 closed_eq h.len fun a ha => ⟨h.snd a, der_done hP fun i hi hw => by
  cases hh : Maps.has D (.int .i64 (i : Int)) with
  | false => exact h.gone i hi hh
  | true => rw [hs i hi hh rfl] at hw; cases hw⟩
theorem rdOf_set {l : List Bool} {i : Nat} (hi : i < l.length) (a : Nat) : rdOf false (l.set i true) (a : Int) = if a = i then true else rdOf false l (a : Int) := by
 simp only [rdOf, Int.toNat_natCast, List.getD_eq_getElem?_getD, List.getElem?_set]; by_cases e : i = a
 · subst e; simp [hi]
 · rw [if_neg e, if_neg (fun h => e h.symm)]
theorem Pass.next {G : Gr} {kinds : Bool} {marks : List Bool} {D : DataW Unit} (h : Pass G kinds marks D) (hP : ProdsOk G) {i : Nat} (hi : i < G.prods.length) (hw : wholeF G.kinds.length marks kinds (rd_T57 G.prods i).f1 = true) :
 Pass G kinds (marks.set (rd_T57 G.prods i).f0.toNat true) (D.del (.int .i64 (i : Int))) := by
 have hp := hP i hi; have hl : (rd_T57 G.prods i).f0.toNat < marks.length := by rw [h.len]; omega
 refine ⟨by simp [h.len], fun a ha => ?_, fun x hx => ?_, fun j hj hn => ?_⟩
 · rw [rdOf_set hl] at ha
   split at ha
   · rename_i e; rw [e]; exact der_step h.snd hi hP hw
   · exact h.snd a ha
 · by_cases e : x = i
   · rw [e, Maps.has_del_same] at hx; cases hx
   · rw [Maps.has_del_other (fun h => e (by injection h))] at hx; exact h.key x hx
 · have hq := hP j hj
   have e2 : (rd_T57 G.prods j).f0 = (((rd_T57 G.prods j).f0.toNat : Nat) : Int) := by omega
   rw [e2, rdOf_set hl]; split
   · rfl
   · rename_i hne
     by_cases e : j = i
     · subst e; exact absurd rfl hne
     · rw [Maps.has_del_other (fun h => e (by injection h with _ h; omega))] at hn
       rw [← e2]; exact h.gone j hj hn
theorem CW.mark {w W : World} {G : Gr} {A0 A1 A2 A3 : Option Addr} {c0 c1 c2 c3 gb cap : Nat} {marks : List Bool} (h : CW w W G A0 A1 A2 A3 c0 c1 c2 c3 (.slice (some ⟨gb, 0, none⟩) G.rules.length cap) marks) (hl : marks.length = G.rules.length) (i : Int) :
 CW w (W.setCell ⟨gb, i.toNat, none⟩ (.bool true)) G A0 A1 A2 A3 c0 c1 c2 c3 (.slice (some ⟨gb, 0, none⟩) G.rules.length cap) (marks.set i.toNat true) ∧ W.grownBy (W.setCell ⟨gb, i.toNat, none⟩ (.bool true)) (some gb) := by
 have hb := Kd.R_base h.row gb rfl; have hr := h.row; rw [← hl] at hr; obtain ⟨h1, h2⟩ := Kd.R_put hr i true; rw [hl] at h1; have hF : Fr (fun k => k = gb) W (W.setCell ⟨gb, i.toNat, none⟩ (.bool true)) := (Fr.refl (fun k => k = gb) W).set (g := gb) (o := i.toNat) _ (fun _ => rfl); exact ⟨⟨⟨hF.blk h.chk.box (by omega), h.chk.fr.trans hF (fun k hk e => by omega)⟩, h1⟩, h2⟩
set_option maxHeartbeats 4000000 in
set_option maxRecDepth 100000 in
theorem closed_calls (w : World) (G : Gr) (A0 A1 A2 A3 : Option Addr) (c0 c1 c2 c3 : Nat) (h : GAt w G A0 A1 A2 A3 c0 c1 c2 c3) (hc : CheckOk G) (kinds : Bool) :
 Calls Try.prog 31 #[.agg #[.slice A0 G.kinds.length c0, .slice A1 G.precs.length c1, .slice A2 G.rules.length c2, .slice A3 G.prods.length c3, .int .i64 G.start], .bool kinds] w fun e w' =>
  ∃ v, e = .returned v ∧ kB.R 4 w' (w.heap.size + 1) (fun _ => True) v (closedL G kinds) ∧ Fr (fun _ => False) w w' := by
 have hu := Try.underlying26; have hu2 := Try.underlying57; have hm3 := Kd.C_max h.prods; have hR2 := (base_true hc.base).2.2.1; have hQ2 := (base_true hc.base).2.2.2.2.2; have HG := Aside0.mk h; have HC := Aside0.mk hc; have HW := Aside0.mk (show ChkW w (w.alloc (.cells #[.slice A0 G.kinds.length c0, .slice A1 G.precs.length c1, .slice A2 G.rules.length c2, .slice A3 G.prods.length c3, .int .i64 G.start] 26)) G A0 A1 A2 A3 c0 c1 c2 c3 from ⟨blk_new w _, (Fr.refl _ w).alloc _⟩); have hws : (w.alloc (.cells #[.slice A0 G.kinds.length c0, .slice A1 G.precs.length c1, .slice A2 G.rules.length c2, .slice A3 G.prods.length c3, .int .i64 G.start] 26)).heap.size = w.heap.size + 1 := by simp only [World.size_alloc]
 clear h hc; have hmm := @run_makeMap Try.prog; go_enter Try.func31, Try.ntmps31
 go_upto_region 1 with fail
 generalize w.alloc (.cells #[.slice A0 G.kinds.length c0, .slice A1 G.precs.length c1, .slice A2 G.rules.length c2, .slice A3 G.prods.length c3, .int .i64 G.start] 26) = W0 at HW hws ⊢; obtain ⟨e0, e1, e2, e3, e4⟩ := HW.out.cells; go_upto_region 2 with (at_make; refine Kd.R_make kB (w0 := W0) W0.heap.size 4 rfl (N := 13) rfl 36 _ _ rfl (G.rules.length : Int) rfl rfl Try.underlying36 (.bool false) 1 info4 rfl (by decide) (by omega) false (ok := fun _ => True) (okp := fun _ => True) rfl (fun _ hk => hk) trivial (by omega) (by omega) (Below.refl _ _) (Nat.le_refl _) ?_; intro v1 W1 h1 hB1 hg1 hb1; have HX := Aside0.mk (show CW w W1 G A0 A1 A2 A3 c0 c1 c2 c3 v1 (List.replicate G.rules.length false) from ⟨HW.out.go (Fr.of_below hB1), by simpa [hws] using h1⟩); clear h1 hB1 hg1)
 obtain ⟨gb, cap, rfl⟩ := marks_form HX.out.row (by simp; exact (base_true HC.out.base).2.1); simp only [List.length_replicate] at HX hb1 ⊢; have hv1 : (Value.slice (some ⟨gb, 0, none⟩) G.rules.length cap).ownBlock ≠ some W1.heap.size := fun e => by
  have := ((Kd.R_bound HX.out.row).1 _ e).2.2.1; omega
 have hs1 : w.heap.size < W1.heap.size := blk_lt HX.out.chk.box; have HX1 := Aside0.mk (HX.out.go ((Fr.refl (fun _ => False) W1).alloc (.map #[] 0))); have HD1 := Aside0.mk (World.ownsMap_made W1 Try.prog 3 RB); obtain ⟨f0, f1, f2, f3, f4⟩ := HX1.out.chk.cells; clear HX HW e0 e1 e2 e3 e4; go_wp2_with (fail)
 go_loopw [18] (fun a W => ∃ (i : Nat) (D : DataW Unit), a = .int .i64 i ∧ i ≤ G.prods.length ∧ Aside0 (CW w W G A0 A1 A2 A3 c0 c1 c2 c3 (.slice (some ⟨gb, 0, none⟩) G.rules.length cap) (List.replicate G.rules.length false)) ∧ Aside0 (Todo W W1.heap.size i D) ∧ Aside0 (∀ x : Int, Maps.has D (.int .i64 x) = true ↔ 0 ≤ x ∧ x < i)) (fun a _ => G.prods.length - (intOf a).toNat)
 case atStart => exact ⟨0, _, rfl, Nat.zero_le _, HX1, HD1, ⟨fun x => ⟨fun h => absurd h (by simp [Maps.has]), fun h => by omega⟩⟩⟩
 case round =>
  clear HX1 HD1 f0 f1 f2 f3 f4; obtain ⟨i, D, rfl, hi, HX, HD, HH⟩ := hrel; by_cases hlt : i < G.prods.length
  · have HLT := Aside0.mk hlt
    have hkey : keyOf Try.prog 3 (.int .i64 (i : Int)) = some (.int .i64 (i : Int)) := keyOf_int_mk Try.underlying3 (WalkArith.wf_i64 (by omega)); go_wp2_with (at_mapUpdate; refine wpList_mapUpdate_own _ rfl _ _ _ 101 rfl 3 4 law3 Try.underlying101 RB W1.heap.size i D rfl HD.out (by unfold maxLen; omega) _ _ _ rfl rfl hkey _ [] (plainElem_bool Try.underlying4 true) ?_; intro w2 hD2 hg2; have HX2 := Aside0.mk (HX.out.map hg2 hs1 hv1); have HD2 := Aside0.mk hD2; clear hD2 hg2)
    have HH2 := Aside0.mk (show ∀ x : Int, Maps.has (D.put (.int .i64 (i : Int)) (DataW.lit (.bool true))) (.int .i64 x) = true ↔ 0 ≤ x ∧ x < ((i + 1 : Nat) : Int) from fun x => by
     by_cases e : x = i
     · subst e
       exact ⟨fun _ => by omega, fun _ => Maps.has_put_same HD.out.isMap (show WideAt.IsKeyLit (.int .i64 (i : Int)) from trivial) _⟩
     · rw [Maps.has_put_other (fun h => e (by injection h)), HH.out]
       omega)
    exact ⟨⟨i + 1, _, by go_num, HLT.out, HX2, HD2, HH2⟩, by have := HLT.out; simp [intOf]; omega⟩
  · obtain rfl : i = G.prods.length := by omega
    have HP := Aside0.mk (Pass.start (kinds := kinds) HH.out); clear HH; go_wp2_with (fail)
    go_loopg [8] (2 * Maps.size D + 1) (fun k a W => ∃ (fresh : Bool) (marks : List Bool) (D : DataW Unit), a = .bool fresh ∧ 2 * Maps.size D + (if fresh = true then 1 else 0) ≤ k ∧ Aside0 (CW w W G A0 A1 A2 A3 c0 c1 c2 c3 (.slice (some ⟨gb, 0, none⟩) G.rules.length cap) marks) ∧ Aside0 (Todo W W1.heap.size G.prods.length D) ∧ Aside0 (Pass G kinds marks D) ∧ Aside0 (fresh = false → Still G kinds marks D (fun _ => false)))
    case atStart => exact ⟨true, _, D, rfl, by simp, HX, HD, HP, ⟨fun h => absurd h (by decide)⟩⟩
    case round =>
     clear HX HD HP; obtain ⟨fresh, marks, D, rfl, hk, HX, HD, HP, HS⟩ := hrel; cases fresh with
     | false =>
      have HE := Aside0.mk (HP.out.done (HS.out rfl) HC.out.prodsOk); have HRW := Aside0.mk (show kB.R 4 wr (w.heap.size + 1) (fun _ => True) (.slice (some ⟨gb, 0, none⟩) G.rules.length cap) (closedL G kinds) by have := HX.out.row; rwa [HE.out] at this); go_wp2_with (fail)
      go_ret
      exact ⟨_, rfl, HRW.out, HX.out.chk.fr⟩
     | true =>
      go_wp2_with (at_range; refine wpList_range_own _ rfl _ 101 rfl 3 4 law3 Try.underlying101 RB W1.heap.size G.prods.length D rfl HD.out ?_; intro w0 hrg0 hg0 hs0)
      have HX0 := Aside0.mk (HX.out.go ((Fr.refl (fun _ => False) wr).grown hg0 (fun k hk => nomatch hk))); have hr1 : w.heap.size < wr.heap.size := blk_lt HX.out.chk.box; have hr2 : (Value.slice (some ⟨gb, 0, none⟩) G.rules.length cap).ownBlock ≠ some wr.heap.size := fun e => by
       have := ((Kd.R_bound HX.out.row).1 _ e).2.2.1; omega
      have hr3 := HD.out.lt; have HS0 := Aside0.mk (show Still G kinds marks D (Maps.has D) from fun i hi hh hn => by rw [hh] at hn; cases hn); generalize wr.heap.size = r at hrg0 hr1 hr2 hr3 hs0 ⊢; have HR0 := Aside0.mk hrg0; clear hrg0 hg0 HX HD HS; go_loopw [8] (fun f W => ∃ (fr : Bool) (left : Lit → Bool) (cnt : Nat) (marks : List Bool) (D' : DataW Unit), f = .bool fr ∧ 2 * Maps.size D' + (if fr = true then 1 else 0) ≤ 2 * Maps.size D ∧ Aside0 (W.ranges Try.prog 3 RB W1.heap.size r G.prods.length D' left cnt) ∧ Aside0 (CW w W G A0 A1 A2 A3 c0 c1 c2 c3 (.slice (some ⟨gb, 0, none⟩) G.rules.length cap) marks) ∧ Aside0 (Pass G kinds marks D') ∧ Aside0 (∀ x, left x = true → Maps.has D' x = true) ∧ Aside0 (fr = false → Still G kinds marks D' left)) (fun _ W => W.rangeLeft W1.heap.size r)
      case atStart => exact ⟨false, _, _, marks, D, rfl, by simp, HR0, HX0, HP, ⟨fun x h => h⟩, ⟨fun _ => HS0.out⟩⟩
      case round =>
       clear HR0 HX0 HP HS0; obtain ⟨fr, left, cnt, marks, D', rfl, hb, HRG, HX, HP, HL, HS⟩ := hrel; go_wp2_with (at_next; refine next_ib _ rfl _ rfl W1.heap.size r G.prods.length D' left cnt rfl HRG.out ?_ ?_)
       · intro hl0
         have HD2 := Aside0.mk HRG.out.owns; have HS2 := Aside0.mk (show fr = false → Still G kinds marks D' (fun _ => false) from fun e i hi hh _ => HS.out e i hi hh (hl0 _)); clear HRG HS HL hl0; go_wp2_with (fail)
         go_roundg (2 * Maps.size D)
         case measure => simp only [if_pos] at hk; omega
         case rel => exact ⟨fr, marks, D', rfl, hb, HX, HD2, HP, HS2⟩
       · intro x u w1 cnt1 hlx hwf hrg1 hlt hg1 hen
         have hkx := HP.out.key x (HL.out _ hlx); obtain ⟨i, rfl⟩ := Int.eq_ofNat_of_zero_le hkx.1; have hiq : i < G.prods.length := by omega
         obtain ⟨ad, B1, d1, B6, d6, rfl, x0, x1, _, _, _, _, _, hl1, hC1, _, _⟩ := at_T57 HG.out.prods (i : Int) (by omega) (by omega); simp only [Int.toNat_natCast] at x0 x1; have HX1 := Aside0.mk (HX.out.map hg1 hr1 hr2); have y0 := HX1.out.chk.fr.cell x0 id; have y1 := HX1.out.chk.fr.cell x1 id; obtain ⟨e0, e1, e2, e3, e4⟩ := HX1.out.chk.cells; have hP := HC.out.prodsOk i hiq; have HC1 := Aside0.mk hC1; have HPI := Aside0.mk hP; have HRG1 := Aside0.mk hrg1; have HI := Aside0.mk (show rd_T57 G.prods i = rd_T57 G.prods (i : Int) from rfl); have HM := Aside0.mk (show cnt1 < wr.rangeLeft W1.heap.size r by rw [HRG.out.left_eq]; exact hlt); have HLX := Aside0.mk hlx; have HIQ := Aside0.mk hiq; clear hrg1 hC1 hP x0 x1 HRG HX hlt hg1 hlx; have HWC := Aside0.mk (show ∀ W, Fr (fun _ => False) w1 W → Calls Try.prog 33 #[.agg #[.slice A0 G.kinds.length c0, .slice A1 G.precs.length c1, .slice A2 G.rules.length c2, .slice (some ad) G.prods.length c3, .int .i64 G.start], .slice (some ⟨gb, 0, none⟩) G.rules.length cap, .slice B1 (rd_T57 G.prods (i : Int)).f1.length d1, .bool kinds] W fun e w' =>
          e = .returned (.bool (wholeF G.kinds.length marks kinds (rd_T57 G.prods (i : Int)).f1)) ∧ Fr (fun _ => False) W w' from fun W hF => by
          have HXW := HX1.out.go hF; have hg := HG.out.go HXW.chk.fr; obtain ⟨Am, cm, em, hcm, hCm⟩ := Kd.R_reads HXW.row; injection em with e1 e2 e3
          subst e1; subst e3; have hw := gram_whole.calls ((rd_T57 G.prods (i : Int)).f1.length + 1) A0 c0 G.kinds A1 c1 G.precs A2 c2 G.rules (some ad) c3 G.prods G.start (some ⟨gb, 0, none⟩) cap marks B1 d1 (rd_T57 G.prods (i : Int)).f1 kinds (wholeF G.kinds.length marks kinds (rd_T57 G.prods (i : Int)).f1) W
           hg.kinds hg.l0 hg.precs hg.l1 hg.rules hg.l2 hg.prods hg.l3 hCm hcm (Kd.C_below HC1.out HXW.chk.fr.to_below) hl1
           (whole_some G.kinds G.precs G.rules G.prods G.start marks kinds _ G.rules.length HC.out.kinds.max hR2 HP.out.len HPI.out.2.2.2 (by have := HPI.out.2.2.1; rw [← HI.out]; omega))
          rw [HP.out.len] at hw; exact hw.mono fun e w' h => ⟨h.1, Fr.of_below h.2⟩)
         go_wp2_with (fail)
         go_region_held3 (fun w' => w'.cell? ⟨w.heap.size, 0, none⟩ = some (.slice A0 G.kinds.length c0) ∧ w'.cell? ⟨w.heap.size, 1, none⟩ = some (.slice A1 G.precs.length c1) ∧ w'.cell? ⟨w.heap.size, 2, none⟩ = some (.slice A2 G.rules.length c2) ∧ w'.cell? ⟨w.heap.size, 3, none⟩ = some (.slice (some ad) G.prods.length c3) ∧ w'.cell? ⟨w.heap.size, 4, none⟩ = some (.int .i64 G.start) ∧ w'.cell? ⟨(ad.add (i * 7)).block, (ad.add (i * 7)).off + 1, none⟩ = some (.slice B1 (rd_T57 G.prods (i : Int)).f1.length d1)) (go_keep)
          (first | (go_at_call 33; refine (HWC.out _ (Fr.refl (fun _ => False) w1).drew).mono ?_; rintro e W2 ⟨rfl, hF2⟩; have HF2 := Aside0.mk (((Fr.refl (fun _ => False) w1).drew).trans hF2 (fun _ _ hf => hf)); have HX2 := Aside0.mk (HX1.out.go HF2.out); obtain ⟨g0, g1, g2, g3, g4⟩ := HX2.out.chk.cells; have z0 := HF2.out.cell y0 id; have z1 := HF2.out.cell y1 id; clear hF2))
         have HRG2 := Aside0.mk (HRG1.out.kept (fr_grown HF2.out) (by simp) (by simp)); cases hwv : wholeF G.kinds.length marks kinds (rd_T57 G.prods (i : Int)).f1 with
         | false =>
          have HL2 := Aside0.mk (show ∀ x, (left x && !x.sameKey (.int .i64 (i : Int))) = true → Maps.has D' x = true from fun x hx => HL.out x (by rw [Bool.and_eq_true] at hx; exact hx.1)); have HS2 := Aside0.mk (show fr = false → Still G kinds marks D' (fun x => left x && !x.sameKey (.int .i64 (i : Int))) from fun e j hj hh hn => by
           by_cases ej : j = i
           · rw [ej]; exact hwv
           · refine HS.out e j hj hh ?_
             have h1 : ¬ (Lit.int .i64 (j : Int)).sameKey (.int .i64 (i : Int)) = true := fun h => ej (by have := (same_int _ _).1 h; omega)
             simpa [h1] using hn)
          have HM2 := Aside0.mk (HRG2.out.left_eq); clear HRG1 HWC; go_wp2_with (fail)
          exact ⟨⟨fr, _, cnt1, marks, D', rfl, hb, HRG2, HX2, HP, HL2, HS2⟩, by rw [HM2.out]; exact HM.out⟩
         | true =>
          have hp0 := HPI.out.1; have hp1 := HPI.out.2.1; have HN := Aside0.mk (HP.out.next HC.out.prodsOk HIQ.out hwv); obtain ⟨Am, cm, em, hcm, hCm⟩ := Kd.R_reads HX2.out.row; injection em with em1 em2 em3
          subst em1; obtain ⟨adm, ea, hxm⟩ := Kd.at_bool hCm (rd_T57 G.prods (i : Int)).f0 hp0 (by rw [← em2]; exact hp1); injection ea with ea
          subst ea; rw [add_plain] at hxm; obtain ⟨_, _, _, q, _, cells, hcells⟩ := (Kd.R_bound HX2.out.row).1 gb rfl; have hfz := blk_frozen hcells (rd_T57 G.prods (i : Int)).f0.toNat; obtain ⟨hX3, hg3⟩ := HX2.out.mark HP.out.len (rd_T57 G.prods (i : Int)).f0; have HX3 := Aside0.mk hX3; have HRG3 := Aside0.mk (HRG2.out.kept hg3 (by intro e; exact hv1 e.symm) (by intro e; exact hr2 e.symm)); have hkey : keyOf Try.prog 3 (.int .i64 (i : Int)) = some (.int .i64 (i : Int)) := keyOf_int_mk Try.underlying3 hwf; have HTD := Aside0.mk (HRG2.out.owns.tidy law3); have HHAS := Aside0.mk (HL.out _ HLX.out); clear hX3 hg3 hcells HRG1 HWC hCm hcm em2 em3; generalize hfl : (rd_T57 G.prods (i : Int)).f0 = fl at hp0 hp1 hxm hfz HX3 HRG3 HN z0; go_wp2_with (at_delete; refine wpList_delete_ranges _ rfl _ _ 101 3 rfl 4 law3 Try.underlying101 RB W1.heap.size r G.prods.length D' _ cnt1 rfl HRG3.out _ _ rfl hkey ?_; intro w4 cnt2 hrg4 hle hturn; rw [Maps.strike_twice] at hrg4; have HRG4 := Aside0.mk hrg4; have HX4 := Aside0.mk (HX3.out.map hturn.grown hs1 hv1); have HLE := Aside0.mk hle; clear hrg4 hturn hle)
          have hsz := Maps.size_del (k := .int .i64 (i : Int)) HTD.out; rw [HHAS.out, if_pos rfl] at hsz; have HL4 := Aside0.mk (show ∀ x, (left x && !x.sameKey (.int .i64 (i : Int))) = true → Maps.has (D'.del (.int .i64 (i : Int))) x = true from fun x hx => by
           rw [Bool.and_eq_true] at hx; rw [Maps.has_del_other (ne_of_same (by simpa using hx.2))]; exact HL.out x hx.1)
          have HSZ := Aside0.mk (show 2 * Maps.size (D'.del (.int .i64 (i : Int))) + (if true = true then 1 else 0) ≤ 2 * Maps.size D by simp only [if_pos]; omega); go_roundw
          case rel => exact ⟨true, _, cnt2, _, _, rfl, HSZ.out, HRG4, HX4, HN, HL4, ⟨fun e => absurd e (by decide)⟩⟩
          case measure => rw [HRG4.out.left_eq]; have := HLE.out; have := HM.out; omega
end Go.Proofs.Ytdngobjcdajogaa.Gram
namespace Go.Proofs.Ytdngobjcdajogaa.Gram
open Go.RowKit Go.Proofs.YtdngobjcdajogaaW.PrintWords Go.Proofs.YtdngobjcdajogaaW.PrintLast Go.Proofs.YtdngobjcdajogaaW.PrintMore Go.Proofs.Ytdngobjcdajogaa.Fr Go.Proofs.Ytdngobjcdajogaa.PGramFirsts Go.Proofs.Ytdngobjcdajogaa.TextSet
theorem wholeB_drop {K : Nat} {T : List Bool} {row : List Int} {i : Nat} (h : i < row.length) : wholeF K T true (row.drop i) = ((if rd row (i : Int) < K then true else rdOf false T (rd row (i : Int) - K)) && wholeF K T true (row.drop (i + 1))) := by
 rw [drop_rd h]; rfl
set_option maxHeartbeats 4000000 in
set_option maxRecDepth 100000 in
theorem refwhole_calls (w : World) (G : Gr) (A0 A1 A2 A3 : Option Addr) (c0 c1 c2 c3 : Nat) (LA RA : Option Addr) (lc rc : Nat) (T : List Bool) (row : List Int) (hK : G.kinds.length ≤ 1024) (hR : G.rules.length ≤ 2048) (hL : kB.C w LA T.length T) (hr : kI.C w RA row.length row) (hln : T.length = G.rules.length) (hrow : RowOk G.kinds.length G.rules.length row) (hl : row.length ≤ 4611686018427387904) :
 Calls Try.prog 54 #[.agg #[.slice A0 G.kinds.length c0, .slice A1 G.precs.length c1, .slice A2 G.rules.length c2, .slice A3 G.prods.length c3, .int .i64 G.start], .slice LA T.length lc, .slice RA row.length rc] w fun e w' =>
  e = .returned (.bool (wholeF G.kinds.length T true row)) ∧ Fr (fun _ => False) w w' := by
 have hu := Try.underlying26; have HR := Aside0.mk hr; have HL := Aside0.mk hL; have HRO := Aside0.mk hrow; have HLN := Aside0.mk hln; have HW := Aside0.mk (show ChkW w (w.alloc (.cells #[.slice A0 G.kinds.length c0, .slice A1 G.precs.length c1, .slice A2 G.rules.length c2, .slice A3 G.prods.length c3, .int .i64 G.start] 26)) G A0 A1 A2 A3 c0 c1 c2 c3 from ⟨blk_new w _, (Fr.refl _ w).alloc _⟩); clear hL hr hrow hln; go_enter Try.func54, Try.ntmps54
 go_upto_region 1 with fail
 generalize w.alloc (.cells #[.slice A0 G.kinds.length c0, .slice A1 G.precs.length c1, .slice A2 G.rules.length c2, .slice A3 G.prods.length c3, .int .i64 G.start] 26) = W0 at HW ⊢; go_wp2_with (fail)
 go_loopw [7] (fun a W => ∃ (i : Nat), a = .int .i64 i ∧ i ≤ row.length ∧ Aside0 (ChkW w W G A0 A1 A2 A3 c0 c1 c2 c3) ∧ Aside0 (wholeF G.kinds.length T true row = wholeF G.kinds.length T true (row.drop i))) (fun a _ => row.length - (intOf a).toNat)
 case atStart => exact ⟨0, rfl, Nat.zero_le _, HW, ⟨by rw [List.drop_zero]⟩⟩
 case round =>
  clear HW; obtain ⟨i, rfl, hi, HW, HS⟩ := hrel; by_cases hlt : i < row.length
  · have HLT := Aside0.mk hlt
    obtain ⟨ax, rfl, hx⟩ := Kd.at_int (HW.out.fr.C (S := fun _ => False) (0 : Int) HR.out (fun _ _ _ => id)) (i : Int) (by omega) (by omega); simp only [Int.toNat_natCast] at hx; obtain ⟨hx1, hx2⟩ := HRO.out i hlt; have HSN := Aside0.mk (HS.out.trans (wholeB_drop hlt)); generalize rd row (i : Int) = x at hx hx1 hx2 HSN; clear HS; obtain ⟨e0, e1, e2, e3, e4⟩ := HW.out.cells; by_cases hk : x < G.kinds.length
    · have HSK := Aside0.mk (show wholeF G.kinds.length T true row = wholeF G.kinds.length T true (row.drop (i + 1)) by rw [HSN.out, if_pos hk]; rfl)
      have HWD := Aside0.mk (fun n => HW.out.go ((Fr.refl (fun _ => False) wr).drewN n)); have hd : decide ((G.kinds.length : Int) ≤ x) = false := decide_eq_false (by omega); clear HSN; go_wp2_with (fail)
      go_quiet (fail)
      go_wp2_with (fail)
      exact ⟨⟨i + 1, by go_num, HLT.out, ⟨HWD.out nq⟩, HSK⟩, by have := HLT.out; simp [intOf]; omega⟩
    · have HWD := Aside0.mk (fun n => HW.out.go ((Fr.refl (fun _ => False) wr).drewN n))
      have hk2 : (G.kinds.length : Int) ≤ x := by omega
      obtain ⟨al, rfl, hy⟩ := Kd.at_bool (Kd.C_below HL.out HW.out.fr.to_below) (x - G.kinds.length) (by omega) (by rw [HLN.out]; omega); have hwr : IntKind.i64.wrap (x - (G.kinds.length : Int)) = x - G.kinds.length := by rw [i64_w]; simp only [wrap64]; omega
      have ha0 : 0 ≤ x - (G.kinds.length : Int) := by omega
      have ha1 : x - (G.kinds.length : Int) < T.length := by rw [HLN.out]; omega
      have HSK := Aside0.mk (show wholeF G.kinds.length T true row = (rdOf false T (x - G.kinds.length) && wholeF G.kinds.length T true (row.drop (i + 1))) by rw [HSN.out, if_neg hk]); have hys := (show (x - (G.kinds.length : Int)).toNat = x.toNat - G.kinds.length by omega); rw [hys] at hy; clear HSN hys; generalize rdOf false T (x - (G.kinds.length : Int)) = z at hy HSK; cases z with
      | false =>
       have HSM := Aside0.mk (show wholeF G.kinds.length T true row = false by rw [HSK.out]; rfl); go_wp2_with (fail)
       go_quiet (fail)
       go_wp2_with (fail)
       have HFE := Aside0.mk (HWD.out nq).fr; go_ret
       exact ⟨by rw [HSM.out]; rfl, HFE.out⟩
      | true =>
       have HSM := Aside0.mk (show wholeF G.kinds.length T true row = wholeF G.kinds.length T true (row.drop (i + 1)) by rw [HSK.out]; rfl); go_wp2_with (fail)
       go_quiet (fail)
       go_wp2_with (fail)
       exact ⟨⟨i + 1, by go_num, HLT.out, ⟨HWD.out nq⟩, HSM⟩, by have := HLT.out; simp [intOf]; omega⟩
  · obtain rfl : i = row.length := by omega
    have HSE := Aside0.mk (show wholeF G.kinds.length T true row = true from by rw [HS.out, List.drop_eq_nil_of_le (Nat.le_refl _)]; rfl); have HFE := Aside0.mk HW.out.fr; clear HS; go_wp2_with (fail)
    go_ret
    exact ⟨by rw [HSE.out]; rfl, HFE.out⟩
def joinL (l f : List Bool) : Nat → List Bool
 | 0 => l
 | k + 1 => if rdOf false f (k : Int) = true then (joinL l f k).set k true else joinL l f k
def someL (l f : List Bool) : Nat → Bool
 | 0 => false
 | k + 1 => someL l f k || (rdOf false f (k : Int) && !rdOf false l (k : Int))
theorem joinL_length (l f : List Bool) : ∀ k, (joinL l f k).length = l.length
 | 0 => rfl
 | k + 1 => by
  simp only [joinL]; split
  · rw [List.length_set]; exact joinL_length l f k
  · exact joinL_length l f k
theorem joinL_at (l f : List Bool) (hl : f.length ≤ l.length) : ∀ k, k ≤ f.length → ∀ i : Nat, rdOf false (joinL l f k) (i : Int) = (rdOf false l (i : Int) || (decide (i < k) && rdOf false f (i : Int)))
 | 0, _, i => by simp [joinL]
 | k + 1, hk, i => by
  have ih := joinL_at l f hl k (by omega) i; simp only [joinL]; by_cases hf : rdOf false f (k : Int) = true
  · rw [if_pos hf, rdOf_set (by rw [joinL_length]; omega)]
    by_cases e : i = k
    · subst e; simp [hf]
    · rw [if_neg e, ih]
      have : (decide (i < k + 1)) = decide (i < k) := decide_eq_decide.2 (by omega); rw [this]
  · rw [if_neg hf, ih]
    by_cases e : i = k
    · subst e; simp [hf]
    · have : (decide (i < k + 1)) = decide (i < k) := decide_eq_decide.2 (by omega)
      rw [this]
theorem joinL_same {l f : List Bool} {k : Nat} (hk : k < l.length) (h : rdOf false (joinL l f k) (k : Int) = true) : (joinL l f k).set k true = joinL l f k := by
 have hk2 : k < (joinL l f k).length := by rw [joinL_length]; exact hk
 apply List.ext_getElem?
 intro i; rw [List.getElem?_set]; by_cases e : k = i
 · subst e
   simp only [rdOf, Int.toNat_natCast, List.getD_eq_getElem?_getD, List.getElem?_eq_getElem hk2, Option.getD_some] at h; simp [hk2, h]
 · rw [if_neg e]
set_option maxHeartbeats 2000000 in
set_option maxRecDepth 100000 in
theorem join_calls (w : World) (B gb cap : Nat) (ok : Nat → Prop) (l f : List Bool) (A : Option Addr) (c : Nat) (hr : kB.R 4 w B ok (.slice (some ⟨gb, 0, none⟩) l.length cap) l) (hf : kB.C w A f.length f) (hne : ∀ ad, A = some ad → 0 < f.length → ad.block ≠ gb) (hl : f.length ≤ l.length) :
 Calls Try.prog 67 #[.slice (some ⟨gb, 0, none⟩) l.length cap, .slice A f.length c] w fun e w' => e = .returned (.bool (someL l f f.length)) ∧ kB.R 4 w' B ok (.slice (some ⟨gb, 0, none⟩) l.length cap) (joinL l f f.length) ∧ Fr (fun k => k = gb) w w' := by
 have hm := Kd.C_max hf; have HR := Aside0.mk hr; have HF := Aside0.mk hf; have HNE := Aside0.mk hne; clear hr hf hne; go_enter Try.func67, Try.ntmps67
 go_wp2_with (fail)
 go_loopw [10, 5] (fun a b W => ∃ (i : Nat) (sm : Bool), a = .int .i64 i ∧ b = .bool sm ∧ i ≤ f.length ∧ Aside0 (sm = someL l f i) ∧ Aside0 (kB.R 4 W B ok (.slice (some ⟨gb, 0, none⟩) l.length cap) (joinL l f i)) ∧ Aside0 (Fr (fun k => k = gb) w W)) (fun a _ _ => f.length - (intOf a).toNat)
 case atStart => exact ⟨0, false, rfl, rfl, Nat.zero_le _, ⟨rfl⟩, HR, ⟨Fr.refl _ _⟩⟩
 case round =>
  clear HR; obtain ⟨i, sm, rfl, rfl, hi, HS, HR, HFR⟩ := hrel; by_cases hlt : i < f.length
  · obtain ⟨ad, rfl, hx⟩ := Kd.at_bool HF.out (i : Int) (by omega) (by omega)
    simp only [Int.toNat_natCast] at hx; have y := HFR.out.cell hx (by rw [Fr.add_block]; exact HNE.out ad rfl (by omega)); have hle := joinL_length l f i; obtain ⟨Am, cm, em, hcm, hCm⟩ := Kd.R_reads HR.out; injection em with em1 em2 em3
    subst em1; obtain ⟨adm, ea, hxm⟩ := Kd.at_bool hCm (i : Int) (by omega) (by rw [hle]; omega); injection ea with ea
    subst ea; rw [add_plain] at hxm; simp only [Int.toNat_natCast] at hxm; obtain ⟨_, _, _, q, _, cells, hcells⟩ := (Kd.R_bound HR.out).1 gb rfl; have hfz := blk_frozen hcells i; have hlen : i < l.length := by omega
    have HAT := Aside0.mk (joinL_at l f hl i (by omega) i); have hput := HR.out; rw [← hle] at hput; obtain ⟨hp1, hp2⟩ := Kd.R_put hput (i : Int) true; rw [hle] at hp1; simp only [Int.toNat_natCast] at hp1 hp2; have HP := Aside0.mk hp1; have HF2 := Aside0.mk (HFR.out.grown hp2 (fun k hk _ => by injection hk with hk; exact hk.symm)); have HLT := Aside0.mk hlt; have HLE := Aside0.mk hlen; clear em2 em3 hput hp1 hp2 hcells hCm hcm hx; cases hfi : rdOf false f (i : Int) with
    | false =>
     rw [hfi] at y; have HJ := Aside0.mk (show joinL l f (i + 1) = joinL l f i by simp [joinL, hfi]); have HR2 := Aside0.mk (show kB.R 4 wr B ok (.slice (some ⟨gb, 0, none⟩) l.length cap) (joinL l f (i + 1)) by rw [HJ.out]; exact HR.out); have HS2 := Aside0.mk (show sm = someL l f (i + 1) by rw [HS.out]; simp [someL, hfi]); go_wp2_with (fail)
     exact ⟨⟨i + 1, sm, by go_num, rfl, HLT.out, HS2, HR2, HFR⟩, by have := HLT.out; simp [intOf]; omega⟩
    | true =>
     rw [hfi] at y; have HJ := Aside0.mk (show joinL l f (i + 1) = (joinL l f i).set i true by simp [joinL, hfi]); have hat : rdOf false (joinL l f i) (i : Int) = rdOf false l (i : Int) := by rw [HAT.out]; simp
     rw [hat] at hxm; cases hli : rdOf false l (i : Int) with
     | true =>
      rw [hli] at hxm; have HR2 := Aside0.mk (show kB.R 4 wr B ok (.slice (some ⟨gb, 0, none⟩) l.length cap) (joinL l f (i + 1)) by rw [HJ.out, joinL_same HLE.out (by rw [hat, hli])]; exact HR.out); have HS2 := Aside0.mk (show sm = someL l f (i + 1) by rw [HS.out]; simp [someL, hli]); go_wp2_with (fail)
      exact ⟨⟨i + 1, sm, by go_num, rfl, HLT.out, HS2, HR2, HFR⟩, by have := HLT.out; simp [intOf]; omega⟩
     | false =>
      rw [hli] at hxm; have HR2 := Aside0.mk (show kB.R 4 (wr.setCell ⟨gb, i, none⟩ (.bool true)) B ok (.slice (some ⟨gb, 0, none⟩) l.length cap) (joinL l f (i + 1)) by rw [HJ.out]; exact HP.out); have HS2 := Aside0.mk (show true = someL l f (i + 1) by simp [someL, hfi, hli]); go_wp2_with (fail)
      exact ⟨⟨i + 1, true, by go_num, rfl, HLT.out, HS2, HR2, HF2⟩, by have := HLT.out; simp [intOf]; omega⟩
  · obtain rfl : i = f.length := by omega
    have HS2 := Aside0.mk HS.out; go_wp2_with (fail)
    go_ret
    exact ⟨congrArg (fun b => Ending.returned (Value.bool b)) HS2.out, HR.out, HFR.out⟩
end Go.Proofs.Ytdngobjcdajogaa.Gram
