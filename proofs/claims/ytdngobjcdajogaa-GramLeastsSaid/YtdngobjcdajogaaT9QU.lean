/-
The least row of a symbol, laid down: gram.spell, walked.
-/
import Derived.Test.YtdngobjcdajogaaT9QS
import Derived.Test.YtdngobjcdajogaaT9QE
import Derived.Test.YtdngobjcdajogaaT9QT
import Derived.Test.YtdngobjcdajogaaT9QG
import Derived.Test.YtdngobjcdajogaaT9PGramFirstsx0
import Derived.Test.YtdngobjcdajogaaT9QM
namespace Go.Proofs.Ytdngobjcdajogaa.Gram
open Go.RowKit Go.Proofs.YtdngobjcdajogaaW.PrintWords Go.Proofs.YtdngobjcdajogaaW.PrintLast Go.Proofs.YtdngobjcdajogaaW.PrintMore Go.Proofs.Ytdngobjcdajogaa.Fr Go.Proofs.Ytdngobjcdajogaa.PGramFirsts Go.Proofs.Ytdngobjcdajogaa.TextSet
theorem flat_succ (ws : Nat → List Int) (t : Nat) : (List.range (t + 1)).flatMap ws = (List.range t).flatMap ws ++ ws t := by
  rw [List.range_succ, List.flatMap_append]
  simp
theorem flat_le (ws : Nat → List Int) {t n : Nat} (h : t ≤ n) : ((List.range t).flatMap ws).length ≤ ((List.range n).flatMap ws).length := by
  induction h with
  | refl => exact Nat.le_refl _
  | step _ ih => rw [flat_succ, List.length_append]; omega
/-- What a call of spell leaves. -/
def SpPost (W0 W : World) (v : Value) (l : List Int) (e : Ending) (w' : World) : Prop :=
  ∃ v', e = .returned v' ∧ kI.R 3 w' W0.heap.size (fun _ => True) v' l ∧ Fr (fun k => v.ownBlock = some k) W w' ∧ ∀ k, v'.ownBlock = some k → v.ownBlock = some k ∨ W.heap.size ≤ k
theorem below_own {W0 W W1 : World} {v : Value} {l : List Int} (h : Below W0.heap.size W0 W) (hv : kI.R 3 W W0.heap.size (fun _ => True) v l) (hF : Fr (fun k => v.ownBlock = some k) W W1) : Below W0.heap.size W0 W1 :=
  h.trans (hF.below h.size (fun i hi e => by have := Kd.R_base hv i e; omega))
/-- What stands in a call of spell: the grammar's box, below it all that was. -/
structure SpW (W0 W W1 : World) (v : Value) (b : Nat) (cs : Array Value) (v' : Value) (l : List Int) : Prop where
  fr : Fr (fun k => v.ownBlock = some k) W W1
  bel : Below W0.heap.size W0 W1
  box : W1.heap[b]? = some (.cells cs 26 (0, 0))
  row : kI.R 3 W1 W0.heap.size (fun _ => True) v' l
  own : ∀ k, v'.ownBlock = some k → v.ownBlock = some k ∨ W.heap.size ≤ k
theorem SpW.go {W0 W W1 W2 : World} {v : Value} {b : Nat} {cs : Array Value} {v' : Value} {l : List Int} (h : SpW W0 W W1 v b cs v' l) (hF : Fr (fun _ => False) W1 W2) : SpW W0 W W2 v b cs v' l :=
  ⟨h.fr.trans hF (fun _ _ h => h.elim), h.bel.trans (hF.below h.bel.size (fun _ _ h => h)), hF.blk h.box id, hF.R h.row (fun _ _ => id), h.own⟩
theorem SpW.step {W0 W W1 W2 : World} {v : Value} {b : Nat} {cs : Array Value} {v' v2 : Value} {l l2 : List Int} (h : SpW W0 W W1 v b cs v' l) (hF : Fr (fun k => v'.ownBlock = some k) W1 W2) (hr : kI.R 3 W2 W0.heap.size (fun _ => True) v2 l2) (ho : ∀ k, v2.ownBlock = some k → v'.ownBlock = some k ∨ W1.heap.size ≤ k) : SpW W0 W W2 v b cs v2 l2 := by
  refine ⟨h.fr.trans hF (fun i hi e => (h.own i e).elim id (fun h2 => absurd hi (by omega))), below_own h.bel h.row hF, hF.blk h.box (fun e => ?_), hr, fun k hk => (ho k hk).elim (h.own k) (fun h2 => .inr (Nat.le_trans h.fr.size h2))⟩
  obtain ⟨c2, h2⟩ := Kd.R_typed h.row b e
  have h3 := h.box
  rw [h2] at h3
  injection h3 with h3
  injection h3 with _ h3
  exact absurd h3 (by decide)
set_option maxHeartbeats 8000000 in
set_option maxRecDepth 100000 in
theorem spell_calls (W0 : World) (G : Gr) (A0 A1 A2 A3 LA TA : Option Addr) (c0 c1 c2 c3 lc tc : Nat) (h : GAt W0 G A0 A1 A2 A3 c0 c1 c2 c3) (hK : G.kinds.length ≤ 1024) (hR : G.rules.length ≤ 2048) (L T : List Int) (hL : kI.C W0 LA L.length L) (hT : kI.C W0 TA T.length T) (hLl : L.length = G.rules.length) (hTl : T.length = G.rules.length) (hP : ProdsOk G) {x : Int} {u : List Int} (hs : SpellS G L T x u) :
    1 ≤ x → x < G.kinds.length + G.rules.length → ∀ (W : World) (v : Value) (out : List Int), Below W0.heap.size W0 W → kI.R 3 W W0.heap.size (fun _ => True) v out → out.length + u.length ≤ 1000000 →
      Calls Try.prog 48 #[.agg #[.slice A0 G.kinds.length c0, .slice A1 G.precs.length c1, .slice A2 G.rules.length c2, .slice A3 G.prods.length c3, .int .i64 G.start], .slice LA G.rules.length lc, .slice TA G.rules.length tc, .int .i64 x, v] W fun e w' => SpPost W0 W v (out ++ u) e w' := by
  have hu := Try.underlying26
  have hu2 := Try.underlying57
  have hm3 := Kd.C_max h.prods
  have HG := Aside0.mk h
  have HL := Aside0.mk hL
  have HT := Aside0.mk hT
  have HLL := Aside0.mk hLl
  have HTL := Aside0.mk hTl
  have HPR := Aside0.mk hP
  clear h hL hT hLl hTl hP
  induction hs with
  | @kind x hk =>
    intro hx1 hx2 W v out hB hv hl
    have HV := Aside0.mk hv
    have HS := Aside0.mk (show SpW W0 W (W.alloc (.cells #[.slice A0 G.kinds.length c0, .slice A1 G.precs.length c1, .slice A2 G.rules.length c2, .slice A3 G.prods.length c3, .int .i64 G.start] 26)) v W.heap.size #[.slice A0 G.kinds.length c0, .slice A1 G.precs.length c1, .slice A2 G.rules.length c2, .slice A3 G.prods.length c3, .int .i64 G.start] v out from
      ⟨(Fr.refl _ W).alloc _, hB.alloc hB.size _, blk_new W _, Kd.R_alloc hv _, fun k hk => .inl hk⟩)
    simp only [List.length_cons, List.length_nil] at hl
    clear hB hv
    go_enter Try.func48, Try.ntmps48
    go_upto_region 1 with fail
    generalize W.alloc (.cells #[.slice A0 G.kinds.length c0, .slice A1 G.precs.length c1, .slice A2 G.rules.length c2, .slice A3 G.prods.length c3, .int .i64 G.start] 26) = W1 at HS ⊢
    generalize W.heap.size = b at HS ⊢
    have e0 := (blk_cell HS.out.box 0).trans (show _ = some (Value.slice A0 G.kinds.length c0) from rfl)
    have e1 := (blk_cell HS.out.box 1).trans (show _ = some (Value.slice A1 G.precs.length c1) from rfl)
    have e2 := (blk_cell HS.out.box 2).trans (show _ = some (Value.slice A2 G.rules.length c2) from rfl)
    have e3 := (blk_cell HS.out.box 3).trans (show _ = some (Value.slice A3 G.prods.length c3) from rfl)
    have e4 := (blk_cell HS.out.box 4).trans (show _ = some (Value.int .i64 G.start) from rfl)
    go_wp2_with (fail)
    refine (isRule_calls _ G A0 A1 A2 A3 c0 c1 c2 c3 (HG.out.go (Fr.of_below HS.out.bel)) hK x hx1 (by omega)).mono ?_
    rintro e W2 ⟨rfl, hF2⟩
    rw [if_pos hk]
    have HS2 := Aside0.mk (HS.out.go hF2)
    have hbs := HS2.out.bel.size
    clear HS hF2 e0 e1 e2 e3 e4
    go_wp2_with (first | ((with_reducible refine gate_builtin (b := .append) (xs := #[.tmp 19, .tmp 21]) rfl ?_); at_builtin; refine Kd.R_append kI (w0 := W2) W0.heap.size rfl (.tmp 19) (.tmp 21) 27 3 (.int .i64 0) 8 rfl Try.underlying27 info3 rfl (by decide) (by omega) v out x [.int .i64 x] (fun _ => True) (fun _ => False) rfl rfl ?aP (fun _ hk => hk.elim) ?aF HS2.out.row ?aB hbs ?aL ?_; (case aP => exact rfl); (case aF => exact (fun _ _ => trivial)); (case aB => exact (Below.refl _ _)); (case aL => omega); intro v9 W9 h9 hb9 hg9 hat9; have HS9 := Aside0.mk (HS2.out.step ⟨hg9.os, hg9.tape, hg9.output, hg9.size, fun i hi hn => hg9.block i hi (fun e => hn e.symm)⟩ h9 (fun k hk => hat9.elim (fun e => .inl (by rw [← e]; exact hk)) (fun ⟨b, e, h⟩ => .inr (by rw [e] at hk; injection hk with hk; omega)))); clear h9 hb9 hg9 hat9))
    go_ret
    exact ⟨_, rfl, HS9.out.row, HS9.out.fr, HS9.out.own⟩
  | @zero x hk hz =>
    intro hx1 hx2 W v out hB hv hl
    have HV := Aside0.mk hv
    have HS := Aside0.mk (show SpW W0 W (W.alloc (.cells #[.slice A0 G.kinds.length c0, .slice A1 G.precs.length c1, .slice A2 G.rules.length c2, .slice A3 G.prods.length c3, .int .i64 G.start] 26)) v W.heap.size #[.slice A0 G.kinds.length c0, .slice A1 G.precs.length c1, .slice A2 G.rules.length c2, .slice A3 G.prods.length c3, .int .i64 G.start] v out from
      ⟨(Fr.refl _ W).alloc _, hB.alloc hB.size _, blk_new W _, Kd.R_alloc hv _, fun k hk => .inl hk⟩)
    clear hB hv
    have ha0 : 0 ≤ x - G.kinds.length := by omega
    have ha1 : x - G.kinds.length < G.rules.length := by omega
    go_enter Try.func48, Try.ntmps48
    go_upto_region 1 with fail
    generalize W.alloc (.cells #[.slice A0 G.kinds.length c0, .slice A1 G.precs.length c1, .slice A2 G.rules.length c2, .slice A3 G.prods.length c3, .int .i64 G.start] 26) = W1 at HS ⊢
    generalize W.heap.size = b at HS ⊢
    have e0 := (blk_cell HS.out.box 0).trans (show _ = some (Value.slice A0 G.kinds.length c0) from rfl)
    have e1 := (blk_cell HS.out.box 1).trans (show _ = some (Value.slice A1 G.precs.length c1) from rfl)
    have e2 := (blk_cell HS.out.box 2).trans (show _ = some (Value.slice A2 G.rules.length c2) from rfl)
    have e3 := (blk_cell HS.out.box 3).trans (show _ = some (Value.slice A3 G.prods.length c3) from rfl)
    have e4 := (blk_cell HS.out.box 4).trans (show _ = some (Value.int .i64 G.start) from rfl)
    go_wp2_with (fail)
    refine (isRule_calls _ G A0 A1 A2 A3 c0 c1 c2 c3 (HG.out.go (Fr.of_below HS.out.bel)) hK x hx1 (by omega)).mono ?_
    rintro e W2 ⟨rfl, hF2⟩
    rw [if_neg (by omega)]
    have HS2 := Aside0.mk (HS.out.go hF2)
    clear HS hF2 e0 e1 e2 e3 e4
    generalize x - (G.kinds.length : Int) = a at ha0 ha1 hz ⊢
    have hll := HLL.out
    obtain ⟨adl, rfl, hxl⟩ := Kd.at_int (Kd.C_below HL.out HS2.out.bel) a ha0 (by rw [hll]; exact ha1)
    rw [hz] at hxl
    clear hll
    have HRN := Aside0.mk (show kI.R 3 W2 W0.heap.size (fun _ => True) v (out ++ []) by rw [List.append_nil]; exact HS2.out.row)
    go_wp2_with (fail)
    go_ret
    exact ⟨_, rfl, HRN.out, HS2.out.fr, HS2.out.own⟩
  | @rule x i ws hk hz ht hi hf _ ih =>
    intro hx1 hx2 W v out hB hv hl
    have HV := Aside0.mk hv
    have HS := Aside0.mk (show SpW W0 W (W.alloc (.cells #[.slice A0 G.kinds.length c0, .slice A1 G.precs.length c1, .slice A2 G.rules.length c2, .slice A3 G.prods.length c3, .int .i64 G.start] 26)) v W.heap.size #[.slice A0 G.kinds.length c0, .slice A1 G.precs.length c1, .slice A2 G.rules.length c2, .slice A3 G.prods.length c3, .int .i64 G.start] v out from
      ⟨(Fr.refl _ W).alloc _, hB.alloc hB.size _, blk_new W _, Kd.R_alloc hv _, fun k hk => .inl hk⟩)
    clear hB hv
    have HL2 := Aside0.mk hl
    clear hl
    have ha0 : 0 ≤ x - G.kinds.length := by omega
    have ha1 : x - G.kinds.length < G.rules.length := by omega
    go_enter Try.func48, Try.ntmps48
    go_upto_region 1 with fail
    generalize W.alloc (.cells #[.slice A0 G.kinds.length c0, .slice A1 G.precs.length c1, .slice A2 G.rules.length c2, .slice A3 G.prods.length c3, .int .i64 G.start] 26) = W1 at HS ⊢
    generalize W.heap.size = b at HS ⊢
    have e0 := (blk_cell HS.out.box 0).trans (show _ = some (Value.slice A0 G.kinds.length c0) from rfl)
    have e1 := (blk_cell HS.out.box 1).trans (show _ = some (Value.slice A1 G.precs.length c1) from rfl)
    have e2 := (blk_cell HS.out.box 2).trans (show _ = some (Value.slice A2 G.rules.length c2) from rfl)
    have e3 := (blk_cell HS.out.box 3).trans (show _ = some (Value.slice A3 G.prods.length c3) from rfl)
    have e4 := (blk_cell HS.out.box 4).trans (show _ = some (Value.int .i64 G.start) from rfl)
    go_wp2_with (fail)
    refine (isRule_calls _ G A0 A1 A2 A3 c0 c1 c2 c3 (HG.out.go (Fr.of_below HS.out.bel)) hK x hx1 (by omega)).mono ?_
    rintro e W2 ⟨rfl, hF2⟩
    rw [if_neg (by omega)]
    have HS2 := Aside0.mk (HS.out.go hF2)
    clear HS hF2 e0 e1 e2 e3 e4
    have HRO := Aside0.mk (HPR.out i hi).2.2.2
    have hrl := (HPR.out i hi).2.2.1
    have HIH := Aside0.mk ih
    clear ih
    generalize x - (G.kinds.length : Int) = a at ha0 ha1 hz ht hf ⊢
    have hll := HLL.out
    have htl := HTL.out
    obtain ⟨adl, rfl, hxl⟩ := Kd.at_int (Kd.C_below HL.out HS2.out.bel) a ha0 (by rw [hll]; exact ha1)
    obtain ⟨adt, rfl, hxt⟩ := Kd.at_int (Kd.C_below HT.out HS2.out.bel) a ha0 (by rw [htl]; exact ha1)
    rw [ht] at hxt
    obtain ⟨ad, B1, d1, B6, d6, rfl, _, x1, _, _, _, _, _, hl1, hC1, _, _⟩ := at_T57 HG.out.prods (i : Int) (by omega) (by omega)
    simp only [Int.toNat_natCast] at x1
    have y1 := (Fr.of_below (S := fun _ => False) HS2.out.bel).cell x1 id
    have HC1 := Aside0.mk hC1
    have HI := Aside0.mk (show rd_T57 G.prods i = rd_T57 G.prods (i : Int) from rfl)
    rw [show rd_T57 G.prods i = rd_T57 G.prods (i : Int) from rfl] at HRO hrl HIH HL2 hf
    clear x1 hC1 hll htl ht hf HI
    have HL2 : Aside0 (out.length + ((List.range (rd_T57 G.prods (i : Int)).f1.length).flatMap ws).length ≤ 1000000) := HL2
    generalize hrow : (rd_T57 G.prods (i : Int)).f1 = row at y1 hl1 HC1 HRO hrl HIH HL2 ⊢
    have HROW := Aside0.mk hrow
    clear hrow
    have hzb : (rd L a == 0) = false := by simp [hz]
    generalize rd L a = lv at hxl hz hzb
    have e3 := (blk_cell HS2.out.box 3).trans (show _ = some (Value.slice (some ad) G.prods.length c3) from rfl)
    go_wp2_with (fail)
    go_region_held3 (fun w' => w'.cell? ⟨b, 3, none⟩ = some (.slice (some ad) G.prods.length c3) ∧ w'.cell? (adt.add a.toNat) = some (.int .i64 i) ∧ w'.cell? ⟨(ad.add (i * 7)).block, (ad.add (i * 7)).off + 1, none⟩ = some (.slice B1 row.length d1)) (go_keep) (fail)
    have HS3 := Aside0.mk (HS2.out.go (Fr.refl (fun _ => False) W2).drew)
    clear HS2 hxl hxt y1 e3
    go_wp2_with (fail)
    go_loopw [39, 4] (fun a q W' => ∃ (t : Nat) (o : List Int), a = .int .i64 t ∧ t ≤ row.length ∧ Aside0 (o = out ++ (List.range t).flatMap ws) ∧ Aside0 (SpW W0 W W' v b #[.slice A0 G.kinds.length c0, .slice A1 G.precs.length c1, .slice A2 G.rules.length c2, .slice (some ad) G.prods.length c3, .int .i64 G.start] q o)) (fun a _ _ => row.length - (intOf a).toNat)
    case atStart => exact ⟨0, out, rfl, Nat.zero_le _, ⟨by simp⟩, HS3⟩
    case round =>
      clear HS3
      obtain ⟨t, o, rfl, ht, HO, HS⟩ := hrel
      by_cases htl : t < row.length
      · have HTT := Aside0.mk htl
        obtain ⟨ax, rfl, hx⟩ := Kd.at_int (Kd.C_below HC1.out HS.out.bel) (t : Int) (by omega) (by omega)
        simp only [Int.toNat_natCast] at hx
        obtain ⟨hy1, hy2⟩ := HRO.out t htl
        have HCALL := Aside0.mk (HIH.out t htl hy1 hy2 wr _ o HS.out.bel HS.out.row (by
          have h1 := HL2.out
          have h2 := flat_le ws (show t + 1 ≤ row.length from htl)
          rw [flat_succ, List.length_append] at h2
          rw [HO.out, List.length_append]
          omega))
        have HO2 := Aside0.mk (show o ++ ws t = out ++ (List.range (t + 1)).flatMap ws by rw [HO.out, flat_succ, List.append_assoc])
        generalize rd row (t : Int) = y at hx hy1 hy2 HCALL
        have e0 := (blk_cell HS.out.box 0).trans (show _ = some (Value.slice A0 G.kinds.length c0) from rfl)
        have e1 := (blk_cell HS.out.box 1).trans (show _ = some (Value.slice A1 G.precs.length c1) from rfl)
        have e2 := (blk_cell HS.out.box 2).trans (show _ = some (Value.slice A2 G.rules.length c2) from rfl)
        have e3 := (blk_cell HS.out.box 3).trans (show _ = some (Value.slice (some ad) G.prods.length c3) from rfl)
        have e4 := (blk_cell HS.out.box 4).trans (show _ = some (Value.int .i64 G.start) from rfl)
        go_wp2_with (fail)
        refine HCALL.out.mono ?_
        rintro e W7 ⟨v7, rfl, hr7, hF7, ho7⟩
        have HS7 := Aside0.mk (HS.out.step hF7 hr7 ho7)
        clear hr7 hF7 ho7 HS HCALL hx e0 e1 e2 e3 e4
        go_wp2_with (fail)
        exact ⟨⟨t + 1, _, by go_num, HTT.out, HO2, HS7⟩, by have := HTT.out; simp [intOf]; omega⟩
      · obtain rfl : t = row.length := by omega
        have HR9 := Aside0.mk (show kI.R 3 wr W0.heap.size (fun _ => True) _ (out ++ (List.range row.length).flatMap ws) by rw [← HO.out]; exact HS.out.row)
        go_wp2_with (fail)
        go_ret
        exact ⟨_, rfl, by rw [HROW.out]; exact HR9.out, HS.out.fr, HS.out.own⟩
end Go.Proofs.Ytdngobjcdajogaa.Gram
namespace Go.Proofs.Ytdngobjcdajogaa.Gram
open Go.RowKit Go.Proofs.YtdngobjcdajogaaW.PrintWords Go.Proofs.YtdngobjcdajogaaW.PrintLast Go.Proofs.YtdngobjcdajogaaW.PrintMore Go.Proofs.Ytdngobjcdajogaa.Fr Go.Proofs.Ytdngobjcdajogaa.PGramFirsts Go.Proofs.Ytdngobjcdajogaa.TextSet
theorem least_same {G : Gr} {L L' : List Int} (h : LeastOk G L) (h' : LeastOk G L') {a : Nat} (ha : a < G.rules.length) : rd L a = rd L' a := by
  have b := h.bound a
  have b' := h'.bound a
  by_cases h0 : 0 ≤ rd L (a : Int)
  · obtain ⟨n, hn, e⟩ := h.sound a ha h0
    obtain ⟨q0, q1⟩ := h'.least a n hn
    obtain ⟨n', hn', e'⟩ := h'.sound a ha q0
    obtain ⟨r0, r1⟩ := h.least a n' hn'
    omega
  · by_cases h1 : 0 ≤ rd L' (a : Int)
    · obtain ⟨n', hn', e'⟩ := h'.sound a ha h1
      obtain ⟨r0, r1⟩ := h.least a n' hn'
      omega
    · omega
theorem tot_append {K : Nat} {L : List Int} : ∀ (a b : List Int), tot K L (a ++ b) = tot K L a + tot K L b
  | [], b => by simp [tot]
  | x :: a, b => by
    simp only [List.cons_append, tot, tot_append a b]
    omega
theorem flat_len {K : Nat} {L row : List Int} {ws : Nat → List Int} (h : ∀ j : Nat, j < row.length → ((ws j).length : Int) = if rd row (j : Int) < K then 1 else rd L (rd row (j : Int) - K)) : ∀ t : Nat, t ≤ row.length → (((List.range t).flatMap ws).length : Int) = tot K L (row.take t)
  | 0, _ => by simp [tot]
  | t + 1, ht => by
    have e : row.take (t + 1) = row.take t ++ [rd row (t : Int)] := by
      rw [List.take_add_one, List.getElem?_eq_getElem (by omega)]
      simp [rd, List.getD_eq_getElem?_getD, show t < row.length by omega]
    rw [flat_succ, List.length_append, e, tot_append]
    have h1 := flat_len h t (by omega)
    have h2 := h t (by omega)
    simp only [tot]
    omega
def lenOf (K : Nat) (L : List Int) (x : Int) : Int := if x < K then 1 else rd L (x - K)
/-- A spelled row is as long as told, where that wasn't bounded. -/
theorem spell_len {G : Gr} {L T : List Int} (hT : TP G L T) (hP : ProdsOk G) {x : Int} {u : List Int} (h : SpellS G L T x u) : 1 ≤ x → x < G.kinds.length + G.rules.length → lenOf G.kinds.length L x ≤ 65536 → (u.length : Int) = lenOf G.kinds.length L x := by
  induction h with
  | kind hk => intro _ _ _; simp [lenOf, hk]
  | zero hk hz => intro _ _ _; simp [lenOf, hk, hz]
  | @rule x i ws hk hz ht hi hf _ ih =>
    intro h1 h2 h3
    simp only [lenOf, if_neg hk] at h3 ⊢
    obtain ⟨a, ha⟩ := Int.eq_ofNat_of_zero_le (show 0 ≤ x - G.kinds.length by omega)
    rw [ha] at ht hf h3 ⊢
    obtain ⟨i', e1, _, _, e4, e5, _⟩ := (hT.snd a (by omega) (by omega)).ex
    have ei : i' = i := by omega
    subst ei
    obtain ⟨q1, _, q3⟩ := size_exact (K := G.kinds.length) (L := L) (rd_T57 G.prods i').f1 0 (Int.le_refl _) (by omega) (by omega)
    have hro := (hP i' hi).2.2.2
    have hl := flat_len (K := G.kinds.length) (L := L) (row := (rd_T57 G.prods i').f1) (ws := ws) (fun j hj => by
      refine ih j hj (hro j hj).1 (hro j hj).2 ?_
      unfold lenOf
      split
      · omega
      · rename_i hn
        exact (q3 _ (rd_mem hj) hn).2) _ (Nat.le_refl _)
    rw [List.take_length] at hl
    rw [hl]
    omega
theorem siz_zero {G : Gr} {l : List Int} {n : Nat} (h : Siz G l n) : n = 0 → ∀ x, x ∈ l → ¬ x < G.kinds.length ∧ Der G false (x - G.kinds.length).toNat := by
  induction h with
  | nil => exact fun _ x hx => by cases hx
  | kind _ _ _ => exact fun e => by omega
  | @rule x l i m n hk hi hf _ _ ih1 ih2 =>
    intro e y hy
    rcases List.mem_cons.1 hy with rfl | hy
    · refine ⟨hk, ?_⟩
      rw [← hf]
      exact .mk i hi (fun j hj hlt => absurd hlt (ih1 (by omega) _ (rd_mem hj)).1) (fun j hj _ => (ih1 (by omega) _ (rd_mem hj)).2)
    · exact ih2 (by omega) y hy
/-- A rule whose least row isn't bounded spells it. -/
theorem spell_row {G : Gr} {L T : List Int} (hL : LeastOk G L) (hT : TP G L T) (hP : ProdsOk G) (hS : ∀ i, i < G.prods.length → Shut0 G L T i) (hK : 2 ≤ G.kinds.length) {a : Nat} (ha : a < G.rules.length) (h0 : 0 ≤ rd L (a : Int)) (h1 : rd L (a : Int) ≤ 65536) :
    ∃ u, SpellS G L T ((G.kinds.length : Int) + a) u ∧ (u.length : Int) = rd L (a : Int) := by
  have e : (G.kinds.length : Int) + a - G.kinds.length = a := by omega
  obtain ⟨n, hn, en⟩ := hL.sound a ha h0
  have en2 : rd L (a : Int) = n := by
    rw [en] at h1 ⊢
    unfold minF at h1 ⊢
    split at h1 <;> omega
  have hsz : sizeF G.kinds.length L 0 [(G.kinds.length : Int) + a] = n := by
    simp only [sizeF]
    rw [if_neg (by omega), e, if_neg (by omega), mn_le, en2, if_pos (by omega)]
    omega
  have h2 := taken_all hP (fun i hi => hL.closed hP hi) hS hn (fun x hx => by
    rw [List.mem_singleton] at hx
    rw [hx]
    exact ⟨by omega, by omega⟩) (by omega) hsz _ (List.mem_singleton.2 rfl) (by omega)
  rw [e] at h2
  obtain ⟨u, hu⟩ := hT.spells ha h2
  refine ⟨u, hu, ?_⟩
  have h3 := spell_len hT hP hu (by omega) (by omega) (by unfold lenOf; rw [if_neg (by omega), e]; exact h1)
  rw [h3]
  unfold lenOf
  rw [if_neg (by omega), e]
end Go.Proofs.Ytdngobjcdajogaa.Gram
