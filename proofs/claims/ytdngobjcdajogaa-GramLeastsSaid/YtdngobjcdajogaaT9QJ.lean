/-
Rows of numbers, one for each rule, that grow; gram.whole by contract: what gram.cyclic wants.
-/
import Derived.Test.YtdngobjcdajogaaT9QI
import Derived.Test.YtdngobjcdajogaaT9QE
namespace Go.Proofs.Ytdngobjcdajogaa.Gram
open Go.RowKit Go.Proofs.YtdngobjcdajogaaW.PrintWords Go.Proofs.YtdngobjcdajogaaW.PrintLast Go.Proofs.YtdngobjcdajogaaW.PrintMore Go.Proofs.Ytdngobjcdajogaa.Fr Go.Proofs.Ytdngobjcdajogaa.PGramFirsts Go.Proofs.Ytdngobjcdajogaa.TextSet
theorem whole_calls (w : World) (G : Gr) (A0 A1 A2 A3 MA RA : Option Addr) (c0 c1 c2 c3 mc rc : Nat) (marks : List Bool) (row : List Int) (kinds : Bool) (h : GAt w G A0 A1 A2 A3 c0 c1 c2 c3) (hm : kB.C w MA marks.length marks) (hmc : marks.length ≤ mc) (hr : kI.C w RA row.length row) (hrc : row.length ≤ rc) (hK : G.kinds.length ≤ 1024) (hR : G.rules.length ≤ 2048) (hml : marks.length = G.rules.length) (hrow : RowOk G.kinds.length G.rules.length row) (hl : row.length ≤ 4611686018427387904) :
    Calls Try.prog 33 #[.agg #[.slice A0 G.kinds.length c0, .slice A1 G.precs.length c1, .slice A2 G.rules.length c2, .slice A3 G.prods.length c3, .int .i64 G.start], .slice MA marks.length mc, .slice RA row.length rc, .bool kinds] w fun e w' =>
      e = .returned (.bool (wholeF G.kinds.length marks kinds row)) ∧ Fr (fun _ => False) w w' :=
  (gram_whole.calls (row.length + 1) A0 c0 G.kinds A1 c1 G.precs A2 c2 G.rules A3 c3 G.prods G.start MA mc marks RA rc row kinds (wholeF G.kinds.length marks kinds row) w
    h.kinds h.l0 h.precs h.l1 h.rules h.l2 h.prods h.l3 hm hmc hr hrc (whole_some G.kinds G.precs G.rules G.prods G.start marks kinds _ G.rules.length hK hR hml hrow hl)).mono fun _ _ h => ⟨h.1, Fr.of_below h.2⟩
theorem RowOk.take {K R : Nat} {row : List Int} (h : RowOk K R row) (t : Nat) : RowOk K R (row.take t) := fun j hj => by
  rw [List.length_take] at hj
  have := h j (by omega)
  simpa [rd, List.getD_eq_getElem?_getD, List.getElem?_take, show j < t by omega] using this
theorem RowOk.drop {K R : Nat} {row : List Int} (h : RowOk K R row) (t : Nat) : RowOk K R (row.drop t) := fun j hj => by
  rw [List.length_drop] at hj
  have := h (t + j) (by omega)
  simp only [rd, Int.toNat_natCast, List.getD_eq_getElem?_getD, List.getElem?_drop] at this ⊢
  exact this
abbrev kN : Kd (List Int) := Kd.slice 3 kI
/-- Row i of rows of one's own, before and behind an append to it. -/
theorem rows_grow {W : World} {base n gb cap i : Nat} {xs : List (List Int)} (h : Kd.S kN 27 W base (fun _ => True) (.slice (some ⟨gb, 0, none⟩) n cap) xs) (hi : i < n) :
    ∃ (A : Option Addr) (c : Nat) (oki : Nat → Prop), W.cell? ⟨gb, i, none⟩ = some (.slice A (rd_L3 xs i).length c) ∧ W.frozen? ⟨gb, i, none⟩ = false ∧ kI.R 3 W base (fun k => oki k ∨ W.heap.size ≤ k) (.slice A (rd_L3 xs i).length c) (rd_L3 xs i) ∧ gb < W.heap.size ∧ (∀ k, (Value.slice A (rd_L3 xs i).length c).ownBlock = some k → k ≠ gb ∧ base ≤ k) ∧
      ∀ (W1 : World) (v1 : Value) (b : Int), kI.R 3 W1 base (fun k => oki k ∨ W.heap.size ≤ k) v1 (rd_L3 xs i ++ [b]) → W.grownBy W1 (Value.slice A (rd_L3 xs i).length c).ownBlock →
        Kd.S kN 27 (W1.setCell ⟨gb, i, none⟩ v1) base (fun _ => True) (.slice (some ⟨gb, 0, none⟩) n cap) (xs.set i (rd_L3 xs i ++ [b])) := by
  have hlt : gb < W.heap.size := Kd.S_lt h gb rfl
  have h1 := Kd.S_mono (Kd.S_bound h) (fun k hk => (⟨trivial, by have := hk.2.2.1; omega⟩ : True ∧ ¬ W.heap.size ≤ k))
  obtain ⟨oki, c, _, hM, hcc, hfr, hok, hH⟩ := Kd.S_elem h1 [] (i : Int) (by omega) (by omega)
  obtain ⟨ve, rfl, hR⟩ := hM
  have e1 : xs.getD (i : Int).toNat [] = rd_L3 xs i := rfl
  rw [e1] at hR
  obtain ⟨A, k, rfl⟩ := Kd.R_slice hR
  have h2 := hcc 0 _ rfl
  have h3 := hfr 0
  simp only [show kN.sz = 1 from rfl, Nat.mul_one, Nat.add_zero, Int.toNat_natCast] at h2 h3
  refine ⟨A, k, oki, h2, h3, Kd.R_mono hR (fun k hk => .inl hk), hlt, fun k hk => ⟨(hok k (hR.1 k hk)).2, Kd.R_base hR k hk⟩, fun W1 v1 b hv hg => ?_⟩
  have hH1 := Kd.H_grown hH hg (fun k hk => hR.1 k hk)
  have hp := Kd.S_seg (okg := fun k => W.heap.size ≤ k) (okp := fun k => oki k ∨ W.heap.size ≤ k) hH1 (by omega) (by omega) (seg := [v1]) (j := 0) (show 1 ≤ 1 from Nat.le_refl 1) (x' := rd_L3 xs i ++ [b]) (Kd.M_row hv) (fun k hk => hk) (fun k hk => ⟨trivial, by omega⟩)
  simp only [show kN.sz = 1 from rfl, Nat.mul_one, Nat.add_zero, Int.toNat_natCast] at hp
  exact hp.1
/-- What stands while gram.cyclic finds out which rules make which. -/
structure CY (w W : World) (G : Gr) (A0 A1 A2 A3 : Option Addr) (c0 c1 c2 c3 gt capt : Nat) (ok : Nat → Prop) (X : List (List Int)) : Prop where
  chk : ChkW w W G A0 A1 A2 A3 c0 c1 c2 c3
  rows : Kd.S kN 27 W (w.heap.size + 1) ok (.slice (some ⟨gt, 0, none⟩) G.rules.length capt) X
theorem CY.go {w W W1 : World} {G : Gr} {A0 A1 A2 A3 : Option Addr} {c0 c1 c2 c3 gt capt : Nat} {ok : Nat → Prop} {X : List (List Int)} (h : CY w W G A0 A1 A2 A3 c0 c1 c2 c3 gt capt ok X) (hF : Fr (fun _ => False) W W1) : CY w W1 G A0 A1 A2 A3 c0 c1 c2 c3 gt capt ok X := ⟨h.chk.go hF, Kd.S_below h.rows hF.to_below⟩
/-- The rows are over the rules, none longer than m. -/
structure CyOk (G : Gr) (X : List (List Int)) (m : Nat) : Prop where
  len : X.length = G.rules.length
  mem : ∀ (a : Nat) (b : Int), b ∈ rd_L3 X a → 0 ≤ b ∧ b < G.rules.length
  max : ∀ a : Nat, (rd_L3 X a).length ≤ m
theorem CyOk.start (G : Gr) : CyOk G (List.replicate G.rules.length []) 0 := by
  have h : ∀ a : Nat, rd_L3 (List.replicate G.rules.length []) (a : Int) = [] := fun a => by
    simp only [rd_L3, List.getD_eq_getElem?_getD, List.getElem?_replicate]
    split <;> rfl
  exact ⟨by simp, fun a b hb => (by rw [h] at hb; cases hb), fun a => by rw [h]; exact Nat.le_refl _⟩
theorem rd3_set {X : List (List Int)} {a : Nat} (ha : a < X.length) (r : List Int) (b : Nat) : rd_L3 (X.set a r) (b : Int) = if b = a then r else rd_L3 X b := by
  simp only [rd_L3, Int.toNat_natCast, List.getD_eq_getElem?_getD, List.getElem?_set]
  by_cases e : a = b
  · subst e; simp [ha]
  · rw [if_neg e, if_neg (fun h => e h.symm)]
theorem CyOk.next {G : Gr} {X : List (List Int)} {m a : Nat} {b : Int} (h : CyOk G X m) (ha : a < G.rules.length) (h0 : 0 ≤ b) (h1 : b < G.rules.length) : CyOk G (X.set a (rd_L3 X a ++ [b])) (m + 1) := by
  refine ⟨by simp [h.len], fun j y hy => ?_, fun j => ?_⟩
  · rw [rd3_set (by rw [h.len]; exact ha)] at hy
    split at hy
    · rcases List.mem_append.1 hy with hy | hy
      · exact h.mem _ _ hy
      · rw [List.mem_singleton] at hy; rw [hy]; exact ⟨h0, h1⟩
    · exact h.mem _ _ hy
  · rw [rd3_set (by rw [h.len]; exact ha)]
    have h2 := h.max j
    have h3 := h.max a
    split
    · simp only [List.length_append, List.length_cons, List.length_nil]; omega
    · omega
theorem CyOk.more {G : Gr} {X : List (List Int)} {m k : Nat} (h : CyOk G X m) (hk : m ≤ k) : CyOk G X k := ⟨h.len, h.mem, fun a => Nat.le_trans (h.max a) hk⟩
/-- One row has grown, and is stored. -/
theorem CY.put {w W W1 : World} {G : Gr} {A0 A1 A2 A3 : Option Addr} {c0 c1 c2 c3 gt capt i : Nat} {ok : Nat → Prop} {X X' : List (List Int)} {v1 : Value} {row : Option Nat} (h : CY w W G A0 A1 A2 A3 c0 c1 c2 c3 gt capt ok X) (hg : W.grownBy W1 row) (hr : ∀ k, row = some k → w.heap.size + 1 ≤ k) (hS : Kd.S kN 27 (W1.setCell ⟨gt, i, none⟩ v1) (w.heap.size + 1) ok (.slice (some ⟨gt, 0, none⟩) G.rules.length capt) X') :
    CY w (W1.setCell ⟨gt, i, none⟩ v1) G A0 A1 A2 A3 c0 c1 c2 c3 gt capt ok X' := by
  have hgt : w.heap.size + 1 ≤ gt := Kd.S_base h.rows gt rfl
  have hF : Fr (fun k => w.heap.size + 1 ≤ k) W (W1.setCell ⟨gt, i, none⟩ v1) := ((Fr.refl (fun k => w.heap.size + 1 ≤ k) W).grown hg (fun k hk _ => hr k hk)).set v1 (fun _ => hgt)
  exact ⟨⟨hF.blk h.chk.box (by omega), h.chk.fr.trans hF (fun k hk e => by omega)⟩, hS⟩
/-- What stands while one rule's followers are met: the rows (of blocks below n), the answer's row in go, the row of those met in gm, the stack. -/
structure DF (w W : World) (G : Gr) (A0 A1 A2 A3 : Option Addr) (c0 c1 c2 c3 gt capt n go co gm cm : Nat) (X : List (List Int)) (O M : List Bool) (v : Value) (l : List Int) : Prop where
  cy : CY w W G A0 A1 A2 A3 c0 c1 c2 c3 gt capt (fun k => k < n) X
  out : kB.R 4 W (w.heap.size + 1) (fun k => k = go) (.slice (some ⟨go, 0, none⟩) G.rules.length co) O
  met : kB.R 4 W (w.heap.size + 1) (fun k => k = gm) (.slice (some ⟨gm, 0, none⟩) G.rules.length cm) M
  ne : gm ≠ go
  stk : kI.R 3 W n (fun _ => True) v l
  lo : w.heap.size + 1 ≤ n
theorem typed_ne {W : World} {g k t u : Nat} {c1 c2 : Array Value} (h1 : W.heap[g]? = some (.cells c1 t (0, 0))) (h2 : W.heap[k]? = some (.cells c2 u (0, 0))) (h : t ≠ u) : g ≠ k := fun e => by
  subst e
  rw [h1] at h2
  injection h2 with h2
  injection h2 with _ h2
  exact h h2
theorem DF.go {w W W1 : World} {G : Gr} {A0 A1 A2 A3 : Option Addr} {c0 c1 c2 c3 gt capt n go co gm cm : Nat} {X : List (List Int)} {O M : List Bool} {v : Value} {l : List Int} (h : DF w W G A0 A1 A2 A3 c0 c1 c2 c3 gt capt n go co gm cm X O M v l) (hF : Fr (fun _ => False) W W1) : DF w W1 G A0 A1 A2 A3 c0 c1 c2 c3 gt capt n go co gm cm X O M v l :=
  ⟨h.cy.go hF, hF.R h.out (fun _ _ => id), hF.R h.met (fun _ _ => id), h.ne, hF.R h.stk (fun _ _ => id), h.lo⟩
/-- The stack has grown. -/
theorem DF.push {w W W1 : World} {G : Gr} {A0 A1 A2 A3 : Option Addr} {c0 c1 c2 c3 gt capt n go co gm cm : Nat} {X : List (List Int)} {O M : List Bool} {v v1 : Value} {l l1 : List Int} (h : DF w W G A0 A1 A2 A3 c0 c1 c2 c3 gt capt n go co gm cm X O M v l) (hg : W.grownBy W1 v.ownBlock) (h1 : kI.R 3 W1 n (fun _ => True) v1 l1) : DF w W1 G A0 A1 A2 A3 c0 c1 c2 c3 gt capt n go co gm cm X O M v1 l1 := by
  have hF : Fr (fun k => v.ownBlock = some k) W W1 := ⟨hg.os, hg.tape, hg.output, hg.size, fun i hi hn => hg.block i hi (fun e => hn e.symm)⟩
  have hb : ∀ k, v.ownBlock = some k → n ≤ k := fun k hk => Kd.R_base h.stk k hk
  have hlo := h.lo
  have ho : ∀ k, v.ownBlock = some k → k ≠ go ∧ k ≠ gm := fun k hk => by
    obtain ⟨c1, e1⟩ := Kd.R_typed h.stk k hk
    obtain ⟨c2, e2⟩ := Kd.R_typed h.out go rfl
    obtain ⟨c3, e3⟩ := Kd.R_typed h.met gm rfl
    exact ⟨typed_ne e1 e2 (by decide), typed_ne e1 e3 (by decide)⟩
  refine ⟨⟨⟨hF.blk h.cy.chk.box (fun e => by have := hb _ e; omega), h.cy.chk.fr.trans hF (fun k hk e => by have := hb _ e; omega)⟩, ?_⟩, hF.R h.out (fun k hk e => by rw [hk] at e; exact (ho go e).1 rfl), hF.R h.met (fun k hk e => by rw [hk] at e; exact (ho gm e).2 rfl), h.ne, h1, hlo⟩
  exact Kd.S_grown h.cy.rows hg (fun k hk e => by have := hb k e.symm; omega)
/-- One is met: its mark is set. -/
theorem DF.mark {w W : World} {G : Gr} {A0 A1 A2 A3 : Option Addr} {c0 c1 c2 c3 gt capt n go co gm cm : Nat} {X : List (List Int)} {O M : List Bool} {v : Value} {l : List Int} (h : DF w W G A0 A1 A2 A3 c0 c1 c2 c3 gt capt n go co gm cm X O M v l) (i : Int) : DF w (W.setCell ⟨gm, i.toNat, none⟩ (.bool true)) G A0 A1 A2 A3 c0 c1 c2 c3 gt capt n go co gm cm X O (M.set i.toNat true) v l := by
  have hF : Fr (fun k => k = gm) W (W.setCell ⟨gm, i.toNat, none⟩ (.bool true)) := (Fr.refl (fun k => k = gm) W).set (g := gm) (o := i.toNat) _ (fun _ => rfl)
  have hgm := Kd.R_base h.met gm rfl
  obtain ⟨cc, hc⟩ := Kd.R_typed h.met gm rfl
  refine ⟨⟨⟨hF.blk h.cy.chk.box (by omega), h.cy.chk.fr.trans hF (fun k hk e => by omega)⟩, ?_⟩, hF.R h.out (fun k hk e => h.ne (by rw [← e, hk])), Kd.R_putn h.met i true, h.ne, Kd.R_set h.stk hc (by decide) i.toNat _, h.lo⟩
  exact Kd.S_set h.cy.rows hc (by decide) i.toNat _
theorem marks_at {W : World} {B g n cap : Nat} {ok : Nat → Prop} {M : List Bool} (h : kB.R 4 W B ok (.slice (some ⟨g, 0, none⟩) n cap) M) {i : Int} (h0 : 0 ≤ i) (h1 : i < n) : W.cell? ⟨g, i.toNat, none⟩ = some (.bool (rdOf false M i)) ∧ W.frozen? ⟨g, i.toNat, none⟩ = false := by
  obtain ⟨e1, _, hC⟩ := Kd.R_reads' h
  obtain ⟨adm, ea, hxm⟩ := Kd.at_bool hC i h0 (by omega)
  injection ea with ea
  subst ea
  rw [add_plain] at hxm
  obtain ⟨_, _, _, q, _, cells, hcells⟩ := (Kd.R_bound h).1 g rfl
  exact ⟨hxm, blk_frozen hcells i.toNat⟩
/-- The last of a stack, and the stack without it. -/
theorem stack_pop {W : World} {B : Nat} {ok : Nat → Prop} {v : Value} {l : List Int} (h : kI.R 3 W B ok v l) (hl : l ≠ []) :
    ∃ (ad : Addr) (c n : Nat) (b : Int) (l' : List Int), v = .slice (some ad) n c ∧ n = l.length ∧ 1 ≤ n ∧ W.cell? (ad.add (n - 1)) = some (.int .i64 b) ∧ l = l' ++ [b] ∧ (∀ W : World, (Instr.slice 27 (.slice (some ad) n c) none (some (.int .i64 ((n : Int) - 1))) none).run Try.prog W = .ok (.slice (some ad) (n - 1) c) W) ∧ kI.R 3 W B ok (.slice (some ad) (n - 1) c) l' := by
  have hp : 1 ≤ l.length := by
    rcases l with _ | ⟨x, l⟩
    · exact absurd rfl hl
    · simp
  obtain ⟨A, c, rfl⟩ := Kd.R_slice h
  obtain ⟨_, hc, hC⟩ := Kd.R_reads' h
  obtain ⟨ad, rfl, hx⟩ := Kd.at_int hC ((l.length : Int) - 1) (by omega) (by omega)
  obtain ⟨i0, hi0, _, _, _⟩ := info_parts info3
  have ht := Kd.R_take (m := ((l.length : Int) - 1).toNat) h (by omega)
  have e : ((l.length : Int) - 1).toNat = l.length - 1 := by omega
  have hl2 : l = l.take (l.length - 1) ++ [rd l ((l.length : Int) - 1)] := by
    have h2 := List.take_append_getElem (l := l) (i := l.length - 1) (by omega)
    rw [show l.length - 1 + 1 = l.length by omega, List.take_length] at h2
    have e2 : rd l ((l.length : Int) - 1) = l[l.length - 1]'(by omega) := by
      simp only [rd, e, List.getD_eq_getElem?_getD]
      rw [List.getElem?_eq_getElem (by omega)]
      rfl
    rw [e2, h2]
  have hcut := cut_to (P := Try.prog) 27 3 .i64 Try.underlying27 hi0 (some ad) l.length c ((l.length : Int) - 1) (by omega) (by omega) hc
  rw [e] at hx ht hcut
  exact ⟨ad, c, l.length, _, _, rfl, rfl, hp, hx, hl2, hcut, ht⟩
end Go.Proofs.Ytdngobjcdajogaa.Gram
namespace Go.Proofs.Ytdngobjcdajogaa.Gram
open Go.RowKit Go.Proofs.YtdngobjcdajogaaW.PrintWords Go.Proofs.YtdngobjcdajogaaW.PrintLast Go.Proofs.YtdngobjcdajogaaW.PrintMore Go.Proofs.Ytdngobjcdajogaa.Fr Go.Proofs.Ytdngobjcdajogaa.PGramFirsts Go.Proofs.Ytdngobjcdajogaa.TextSet
theorem ints_cut {w : World} {A : Option Addr} {c : Nat} {xs : List Int} (h : kI.C w A xs.length xs) (hc : xs.length ≤ c) (t : Nat) (ht : t < xs.length) :
    (∀ W : World, (Instr.slice 27 (.slice A xs.length c) none (some (.int .i64 (t : Int))) none).run Try.prog W = .ok (.slice A (xs.take t).length c) W) ∧ kI.C w A (xs.take t).length (xs.take t) ∧ (xs.take t).length ≤ c ∧
    ∃ A' c', (∀ W : World, (Instr.slice 27 (.slice A xs.length c) (some (.int .i64 ((t : Int) + 1))) none none).run Try.prog W = .ok (.slice A' (xs.drop (t + 1)).length c') W) ∧ kI.C w A' (xs.drop (t + 1)).length (xs.drop (t + 1)) ∧ (xs.drop (t + 1)).length ≤ c' := by
  obtain ⟨i0, hi0, _, hsz, _⟩ := info_parts info3
  have hr := Kd.reads_of_C (enc := Value.int .i64) (d := (0 : Int)) (h1 := fun _ => rfl) h
  obtain ⟨a1, a2, a3⟩ := print_take_of (P := Try.prog) (Value.int .i64) (0 : Int) 27 3 .i64 Try.underlying27 hi0 hsz A c xs (t : Int) (by omega) (by omega) hc
  obtain ⟨A', b1, b2, b3⟩ := print_drop_of (P := Try.prog) (Value.int .i64) (0 : Int) 27 3 .i64 Try.underlying27 hi0 hsz A c xs ((t : Int) + 1) (by omega) (by omega) hc
  have e1 : (t : Int).toNat = t := by omega
  have e2 : ((t : Int) + 1).toNat = t + 1 := by omega
  rw [e1] at a1 a2 a3
  rw [e2] at b1 b2 b3
  exact ⟨a1, Kd.C_of_reads (d := (0 : Int)) (a2 w hr), a3, A', _, b1, Kd.C_of_reads (d := (0 : Int)) (b2 w hr), b3⟩
theorem df_less {m1 m0 a n1 L g : Nat} (h1 : m1 + 1 = m0) (h2 : m0 * 262145 + n1 ≤ g) (h3 : n1 = a + 1) (h4 : L ≤ 262144) : m1 * 262145 + (a + L) ≤ g - 1 := by
  rw [← h1, Nat.add_mul, Nat.one_mul] at h2
  generalize m1 * 262145 = y at h2 ⊢
  omega
set_option maxHeartbeats 4000000 in
set_option maxRecDepth 100000 in
theorem cyclic_calls (w : World) (G : Gr) (A0 A1 A2 A3 : Option Addr) (c0 c1 c2 c3 : Nat) (h : GAt w G A0 A1 A2 A3 c0 c1 c2 c3) (hc : CheckOk G) (NA : Option Addr) (nc : Nat) (N : List Bool) (hn : kB.C w NA N.length N) (hnc : N.length ≤ nc) (hnl : N.length = G.rules.length) :
    Calls Try.prog 39 #[.agg #[.slice A0 G.kinds.length c0, .slice A1 G.precs.length c1, .slice A2 G.rules.length c2, .slice A3 G.prods.length c3, .int .i64 G.start], .slice NA N.length nc] w fun e w' =>
      ∃ v l, e = .returned v ∧ kB.R 4 w' (w.heap.size + 1) (fun _ => True) v l ∧ l.length = G.rules.length ∧ Fr (fun _ => False) w w' := by
  have hu := Try.underlying26
  have hu2 := Try.underlying57
  have hm3 := Kd.C_max h.prods
  have hR1 := (base_true hc.base).2.1
  have hR2 := (base_true hc.base).2.2.1
  have hQ2 := (base_true hc.base).2.2.2.2.2
  have hK2 := hc.kinds.max
  have HG := Aside0.mk h
  have HC := Aside0.mk hc
  have HN := Aside0.mk hn
  have HNC := Aside0.mk hnc
  have HNL := Aside0.mk hnl
  have HW := Aside0.mk (show ChkW w (w.alloc (.cells #[.slice A0 G.kinds.length c0, .slice A1 G.precs.length c1, .slice A2 G.rules.length c2, .slice A3 G.prods.length c3, .int .i64 G.start] 26)) G A0 A1 A2 A3 c0 c1 c2 c3 from ⟨blk_new w _, (Fr.refl _ w).alloc _⟩)
  have hws : (w.alloc (.cells #[.slice A0 G.kinds.length c0, .slice A1 G.precs.length c1, .slice A2 G.rules.length c2, .slice A3 G.prods.length c3, .int .i64 G.start] 26)).heap.size = w.heap.size + 1 := by simp only [World.size_alloc]
  clear h hc hn hnc hnl
  go_enter Try.func39, Try.ntmps39
  go_upto_region 1 with fail
  generalize w.alloc (.cells #[.slice A0 G.kinds.length c0, .slice A1 G.precs.length c1, .slice A2 G.rules.length c2, .slice A3 G.prods.length c3, .int .i64 G.start] 26) = W0 at HW hws ⊢
  obtain ⟨e0, e1, e2, e3, e4⟩ := HW.out.cells
  go_upto_region 2 with (at_make; refine Kd.S_make kN (w0 := W0) W0.heap.size 27 rfl (N := 19) rfl 37 _ _ rfl (G.rules.length : Int) rfl rfl Try.underlying37 (.slice none 0 0) 24 info27 rfl (by decide) (by omega) [] (ok := fun _ => True) (okp := fun _ => True) ⟨_, rfl, Kd.R_nil _ _ _ _ _⟩ (fun _ hk => hk) trivial (by omega) (by omega) (Below.refl _ _) (Nat.le_refl _) ?_; intro v1 W1 h1 hB1 hg1 hb1; have HF1 := Aside0.mk (HW.out.go (Fr.of_below hB1)); have HS1 := Aside0.mk (show Kd.S kN 27 W1 (w.heap.size + 1) (fun _ => True) v1 (List.replicate G.rules.length []) by simpa [hws] using h1); clear h1 hB1 hg1)
  obtain ⟨gt, capt, rfl, _⟩ := Kd.S_form HS1.out (by simp; exact hR1)
  simp only [List.length_replicate] at HS1 hb1 ⊢
  have HX1 := Aside0.mk (show CY w W1 G A0 A1 A2 A3 c0 c1 c2 c3 gt capt (fun _ => True) (List.replicate G.rules.length []) from ⟨HF1.out, HS1.out⟩)
  have HO1 := Aside0.mk (CyOk.start G)
  clear HW HS1 HF1 e0 e1 e2 e3 e4
  obtain ⟨e0, e1, e2, e3, e4⟩ := HX1.out.chk.cells
  go_wp2_with (fail)
  go_loopw [23] (fun a W => ∃ (i : Nat) (X : List (List Int)), a = .int .i64 i ∧ i ≤ G.prods.length ∧ Aside0 (CY w W G A0 A1 A2 A3 c0 c1 c2 c3 gt capt (fun _ => True) X) ∧ Aside0 (CyOk G X (64 * i))) (fun a _ => G.prods.length - (intOf a).toNat)
  case atStart => exact ⟨0, _, rfl, Nat.zero_le _, HX1, HO1⟩
  case round =>
    clear HX1 HO1 e0 e1 e2 e3 e4
    obtain ⟨i, X, rfl, hi, HX, HO⟩ := hrel
    by_cases hlt : i < G.prods.length
    · have HLT := Aside0.mk hlt
      obtain ⟨ad, B1, d1, B6, d6, rfl, x0, x1, x2, x3, x4, x5, x6, hl1, hC1, hl6, hC6⟩ := at_T57 HG.out.prods (i : Int) (by omega) (by omega)
      simp only [Int.toNat_natCast] at x0 x1 x2 x3 x4 x5 x6
      have y0 := HX.out.chk.fr.cell x0 id
      have y1 := HX.out.chk.fr.cell x1 id
      have y2 := HX.out.chk.fr.cell x2 id
      have y3 := HX.out.chk.fr.cell x3 id
      have y4 := HX.out.chk.fr.cell x4 id
      have y5 := HX.out.chk.fr.cell x5 id
      have y6 := HX.out.chk.fr.cell x6 id
      have HC1 := Aside0.mk hC1
      have HL1 := Aside0.mk hl1
      have HPI := Aside0.mk (HC.out.prodsOk i hlt)
      clear x0 x1 x2 x3 x4 x5 x6 hC1 hC6 hl6 hl1
      go_upto_region 5 with fail
      have HXA := Aside0.mk (HX.out.go ((Fr.refl (fun _ => False) wr).alloc (.cells #[.int .i64 (rd_T57 G.prods (i : Int)).f0, .slice B1 (rd_T57 G.prods (i : Int)).f1.length d1, .int .i64 (rd_T57 G.prods (i : Int)).f2, .int .i64 (rd_T57 G.prods (i : Int)).f3.f0, .int .i64 (rd_T57 G.prods (i : Int)).f3.f1, .string (rd_T57 G.prods (i : Int)).f3.f2, .slice B6 (rd_T57 G.prods (i : Int)).f3.f3.length d6] 57)))
      have HPB := Aside0.mk (blk_new wr (.cells #[.int .i64 (rd_T57 G.prods (i : Int)).f0, .slice B1 (rd_T57 G.prods (i : Int)).f1.length d1, .int .i64 (rd_T57 G.prods (i : Int)).f2, .int .i64 (rd_T57 G.prods (i : Int)).f3.f0, .int .i64 (rd_T57 G.prods (i : Int)).f3.f1, .string (rd_T57 G.prods (i : Int)).f3.f2, .slice B6 (rd_T57 G.prods (i : Int)).f3.f3.length d6] 57))
      generalize wr.alloc (.cells #[.int .i64 (rd_T57 G.prods (i : Int)).f0, .slice B1 (rd_T57 G.prods (i : Int)).f1.length d1, .int .i64 (rd_T57 G.prods (i : Int)).f2, .int .i64 (rd_T57 G.prods (i : Int)).f3.f0, .int .i64 (rd_T57 G.prods (i : Int)).f3.f1, .string (rd_T57 G.prods (i : Int)).f3.f2, .slice B6 (rd_T57 G.prods (i : Int)).f3.f3.length d6] 57) = W5 at HXA HPB ⊢
      generalize wr.heap.size = q at HPB ⊢
      clear y0 y1 y2 y3 y4 y5 y6 HX
      have hro := HPI.out.2.2.2
      have hrl := HPI.out.2.2.1
      have hlf0 := HPI.out.1
      have hlf1 := HPI.out.2.1
      rw [show rd_T57 G.prods i = rd_T57 G.prods (i : Int) from rfl] at hro hrl hlf0 hlf1
      have HRO := Aside0.mk hro
      clear hro HPI
      generalize rd_T57 G.prods (i : Int) = pr at HPB HRO hrl hlf0 hlf1 HC1 HL1 ⊢
      have z1 := (blk_cell HPB.out 1).trans (show _ = some (Value.slice B1 pr.f1.length d1) from rfl)
      have HO2 := Aside0.mk (show CyOk G X (64 * i + 0) from HO.out)
      go_wp2_with (fail)
      clear z1 HO
      go_loopw [30] (fun a W => ∃ (t : Nat) (X : List (List Int)), a = .int .i64 t ∧ t ≤ pr.f1.length ∧ Aside0 (CY w W G A0 A1 A2 (some ad) c0 c1 c2 c3 gt capt (fun _ => True) X) ∧ Aside0 (CyOk G X (64 * i + t)) ∧ Aside0 (W.heap[q]? = some (.cells #[.int .i64 pr.f0, .slice B1 pr.f1.length d1, .int .i64 pr.f2, .int .i64 pr.f3.f0, .int .i64 pr.f3.f1, .string pr.f3.f2, .slice B6 pr.f3.f3.length d6] 57 (0, 0)))) (fun a _ => pr.f1.length - (intOf a).toNat)
      case atStart => exact ⟨0, X, rfl, Nat.zero_le _, HXA, HO2, HPB⟩
      case round =>
        clear HXA HO2 HPB
        obtain ⟨t, X, rfl, ht, HX, HO, HPB⟩ := hrel
        by_cases htl : t < pr.f1.length
        · have HTL := Aside0.mk htl
          obtain ⟨k1, k2, k3, B1', d1', k4, k5, k6⟩ := ints_cut HC1.out HL1.out t htl
          obtain ⟨ax, rfl, hx⟩ := Kd.at_int (HX.out.chk.fr.C (S := fun _ => False) (0 : Int) HC1.out (fun _ _ _ => id)) (t : Int) (by omega) (by omega)
          simp only [Int.toNat_natCast] at hx
          obtain ⟨hx1, hx2⟩ := HRO.out t htl
          generalize rd pr.f1 (t : Int) = x at hx hx1 hx2
          have H1W := Aside0.mk (fun W (hF : Fr (fun _ => False) w W) => whole_calls W G A0 A1 A2 (some ad) NA (some ax) c0 c1 c2 c3 nc d1 N (pr.f1.take t) false (HG.out.go hF) (Kd.C_below HN.out hF.to_below) HNC.out (Kd.C_below k2 hF.to_below) k3 hK2 hR2 HNL.out (HRO.out.take t) (by simp only [List.length_take]; omega))
          have H2W := Aside0.mk (fun W (hF : Fr (fun _ => False) w W) => whole_calls W G A0 A1 A2 (some ad) NA B1' c0 c1 c2 c3 nc d1' N (pr.f1.drop (t + 1)) false (HG.out.go hF) (Kd.C_below HN.out hF.to_below) HNC.out (Kd.C_below k5 hF.to_below) k6 hK2 hR2 HNL.out (HRO.out.drop (t + 1)) (by simp only [List.length_drop]; omega))
          generalize wholeF G.kinds.length N false (pr.f1.take t) = w1 at H1W
          generalize wholeF G.kinds.length N false (pr.f1.drop (t + 1)) = w2 at H2W
          generalize (pr.f1.take t).length = n1 at H1W k1 k3
          generalize (pr.f1.drop (t + 1)).length = n2 at H2W k4 k6
          obtain ⟨e0, e1, e2, e3, e4⟩ := HX.out.chk.cells
          have hwr : IntKind.i64.wrap ((t : Int) + 1) = (t : Int) + 1 := by rw [i64_w]; simp only [wrap64]; omega
          clear k2 k5 k3 k6
          go_upto_region 8 with fail
          go_wp2_with (fail)
          refine (isRule_calls _ G A0 A1 A2 (some ad) c0 c1 c2 c3 (HG.out.go HX.out.chk.fr) hK2 x hx1 (by omega)).mono ?_
          rintro e W7 ⟨rfl, hF7⟩
          have HX7 := Aside0.mk (HX.out.go hF7)
          have HPB7 := Aside0.mk (hF7.blk HPB.out id)
          clear HX HPB hF7 e0 e1 e2 e3 e4 hx
          obtain ⟨e0, e1, e2, e3, e4⟩ := HX7.out.chk.cells
          have z0 := (blk_cell HPB7.out 0).trans (show _ = some (Value.int .i64 pr.f0) from rfl)
          have z1 := (blk_cell HPB7.out 1).trans (show _ = some (Value.slice (some ax) pr.f1.length d1) from rfl)
          have HOM := Aside0.mk (HO.out.more (show 64 * i + t ≤ 64 * i + (t + 1) by omega))
          by_cases hxk : x < G.kinds.length
          · rw [if_pos hxk]
            go_wp2_with (fail)
            refine wp_region_held_drew (S := fun w' => w'.cell? ⟨w.heap.size, 0, none⟩ = some (.slice A0 G.kinds.length c0) ∧ w'.cell? ⟨w.heap.size, 1, none⟩ = some (.slice A1 G.precs.length c1) ∧ w'.cell? ⟨w.heap.size, 2, none⟩ = some (.slice A2 G.rules.length c2) ∧ w'.cell? ⟨w.heap.size, 3, none⟩ = some (.slice (some ad) G.prods.length c3) ∧ w'.cell? ⟨w.heap.size, 4, none⟩ = some (.int .i64 G.start) ∧ w'.cell? ⟨q, 1, none⟩ = some (.slice (some ax) pr.f1.length d1)) (by kernel_rfl) ⟨by simp only [World.cell?_drew]; exact e0, by simp only [World.cell?_drew]; exact e1, by simp only [World.cell?_drew]; exact e2, by simp only [World.cell?_drew]; exact e3, by simp only [World.cell?_drew]; exact e4, by simp only [World.cell?_drew]; exact z1⟩ (fun hHeld => ?_)
            refine wpAnyH_take (i := 0) (oi := ?oa0) (v := ?va0) ?hoa0 (by kernel_rfl) (by kernel_rfl) (by kernel_rfl) ?hqa0 ?hya0 (by assumption) ?resta0
            case hoa0 => (simp only [List.getElem?_toArray, List.getElem?_cons_zero]; rfl)
            case hqa0 => exact fun _ _ _ h => h
            case hya0 => (refine Or.inl ⟨by rfl, ?_⟩; intro w0 hSw; (try dsimp only at hSw); go_simp; try with_reducible rfl)
            try simp only [Act.put, List.setIfInBounds_toArray, List.set_cons_zero, List.set_cons_succ]
            refine wpAnyH_take (i := 1) (oi := ?oa1) (v := .bool false) ?hoa1 (by kernel_rfl) (by kernel_rfl) (by kernel_rfl) ?hqa1 ?hya1 (by assumption) ?resta1
            case hoa1 => (simp only [List.getElem?_toArray, List.getElem?_cons_succ, List.getElem?_cons_zero]; rfl)
            case hqa1 => exact fun _ _ _ h => h
            case hya1 => (refine Or.inl ⟨by rfl, ?_⟩; intro w0 hSw; (try dsimp only at hSw); go_simp; try with_reducible rfl)
            try simp only [Act.put, List.setIfInBounds_toArray, List.set_cons_zero, List.set_cons_succ]
            refine wpAnyH_take (i := 2) (oi := ?oa2) (v := ?va2) ?hoa2 (by kernel_rfl) (by kernel_rfl) (by kernel_rfl) ?hqa2 ?hya2 (by assumption) ?resta2
            case hoa2 => (simp only [List.getElem?_toArray, List.getElem?_cons_succ, List.getElem?_cons_zero]; rfl)
            case hqa2 => exact fun _ _ _ h => h
            case hya2 => (refine Or.inl ⟨by rfl, ?_⟩; intro w0 hSw; (try dsimp only at hSw); go_simp; try with_reducible rfl)
            try simp only [Act.put, List.setIfInBounds_toArray, List.set_cons_zero, List.set_cons_succ]
            refine wpAnyH_take (i := 3) (oi := ?oa3) (v := undef) ?hoa3 (by kernel_rfl) (by kernel_rfl) (by kernel_rfl) ?hqa3 ?hya3 (by assumption) ?resta3
            case hoa3 => (simp only [List.getElem?_toArray, List.getElem?_cons_succ, List.getElem?_cons_zero]; rfl)
            case hqa3 => exact fun _ _ _ h => h
            case hya3 => exact Or.inr ⟨by rfl, rfl⟩
            try simp only [Act.put, List.setIfInBounds_toArray, List.set_cons_zero, List.set_cons_succ]
            refine wpAnyH_take (i := 4) (oi := ?oa4) (v := undef) ?hoa4 (by kernel_rfl) (by kernel_rfl) (by kernel_rfl) ?hqa4 ?hya4 (by assumption) ?resta4
            case hoa4 => (simp only [List.getElem?_toArray, List.getElem?_cons_succ, List.getElem?_cons_zero]; rfl)
            case hqa4 => exact fun _ _ _ h => h
            case hya4 => exact Or.inr ⟨by rfl, rfl⟩
            try simp only [Act.put, List.setIfInBounds_toArray, List.set_cons_zero, List.set_cons_succ]
            refine wpAnyH_take (i := 5) (oi := ?oa5) (v := undef) ?hoa5 (by kernel_rfl) (by kernel_rfl) (by kernel_rfl) ?hqa5 ?hya5 (by assumption) ?resta5
            case hoa5 => (simp only [List.getElem?_toArray, List.getElem?_cons_succ, List.getElem?_cons_zero]; rfl)
            case hqa5 => exact fun _ _ _ h => h
            case hya5 => exact Or.inr ⟨by rfl, rfl⟩
            try simp only [Act.put, List.setIfInBounds_toArray, List.set_cons_zero, List.set_cons_succ]
            refine wpAnyH_take (i := 6) (oi := ?oa6) (v := undef) ?hoa6 (by kernel_rfl) (by kernel_rfl) (by kernel_rfl) ?hqa6 ?hya6 (by assumption) ?resta6
            case hoa6 => (simp only [List.getElem?_toArray, List.getElem?_cons_succ, List.getElem?_cons_zero]; rfl)
            case hqa6 => exact fun _ _ _ h => h
            case hya6 => exact Or.inr ⟨by rfl, rfl⟩
            try simp only [Act.put, List.setIfInBounds_toArray, List.set_cons_zero, List.set_cons_succ]
            refine wpAnyH_take (i := 7) (oi := ?oa7) (v := undef) ?hoa7 (by kernel_rfl) (by kernel_rfl) (by kernel_rfl) ?hqa7 ?hya7 (by assumption) ?resta7
            case hoa7 => (simp only [List.getElem?_toArray, List.getElem?_cons_succ, List.getElem?_cons_zero]; rfl)
            case hqa7 => exact fun _ _ _ h => h
            case hya7 => exact Or.inr ⟨by rfl, rfl⟩
            try simp only [Act.put, List.setIfInBounds_toArray, List.set_cons_zero, List.set_cons_succ]
            refine wpAnyH_take (i := 8) (oi := ?oa8) (v := undef) ?hoa8 (by kernel_rfl) (by kernel_rfl) (by kernel_rfl) ?hqa8 ?hya8 (by assumption) ?resta8
            case hoa8 => (simp only [List.getElem?_toArray, List.getElem?_cons_succ, List.getElem?_cons_zero]; rfl)
            case hqa8 => exact fun _ _ _ h => h
            case hya8 => exact Or.inr ⟨by rfl, rfl⟩
            try simp only [Act.put, List.setIfInBounds_toArray, List.set_cons_zero, List.set_cons_succ]
            refine wpAnyH_ready (rs := [9]) (by kernel_rfl) (by simp) ?_
            refine AllReadyH.cons (o := ?oa9) ?hoa9 ?hsa9 AllReadyH.nil
            case hoa9 => (simp only [List.getElem?_toArray, List.getElem?_cons_succ, List.getElem?_cons_zero]; rfl)
            intro K hK
            go_simp
            refine hK.out _ _ (by assumption) (fun hHeld => ?_)
            clear hK K
            try simp only [Act.put, List.setIfInBounds_toArray, List.set_cons_zero, List.set_cons_succ]
            refine wpAnyH_take (i := 10) (oi := ?oa10) (v := ?va10) ?hoa10 (by kernel_rfl) (by kernel_rfl) (by kernel_rfl) ?hqa10 ?hya10 (by assumption) ?resta10
            case hoa10 => (simp only [List.getElem?_toArray, List.getElem?_cons_succ, List.getElem?_cons_zero]; rfl)
            case hqa10 => exact fun _ _ _ h => h
            case hya10 => (refine Or.inl ⟨by rfl, ?_⟩; intro w0 hSw; (try dsimp only at hSw); go_simp; try with_reducible rfl)
            try simp only [Act.put, List.setIfInBounds_toArray, List.set_cons_zero, List.set_cons_succ]
            refine wpAnyH_take (i := 11) (oi := ?oa11) (v := ?va11) ?hoa11 (by kernel_rfl) (by kernel_rfl) (by kernel_rfl) ?hqa11 ?hya11 (by assumption) ?resta11
            case hoa11 => (simp only [List.getElem?_toArray, List.getElem?_cons_succ, List.getElem?_cons_zero]; rfl)
            case hqa11 => exact fun _ _ _ h => h
            case hya11 => (refine Or.inl ⟨by rfl, ?_⟩; intro w0 hSw; (try dsimp only at hSw); go_simp; try with_reducible rfl)
            try simp only [Act.put, List.setIfInBounds_toArray, List.set_cons_zero, List.set_cons_succ]
            refine wpAnyH_take (i := 12) (oi := ?oa12) (v := undef) ?hoa12 (by kernel_rfl) (by kernel_rfl) (by kernel_rfl) ?hqa12 ?hya12 (by assumption) ?resta12
            case hoa12 => (simp only [List.getElem?_toArray, List.getElem?_cons_succ, List.getElem?_cons_zero]; rfl)
            case hqa12 => exact fun _ _ _ h => h
            case hya12 => exact Or.inr ⟨by rfl, rfl⟩
            try simp only [Act.put, List.setIfInBounds_toArray, List.set_cons_zero, List.set_cons_succ]
            refine wpAnyH_take (i := 13) (oi := ?oa13) (v := undef) ?hoa13 (by kernel_rfl) (by kernel_rfl) (by kernel_rfl) ?hqa13 ?hya13 (by assumption) ?resta13
            case hoa13 => (simp only [List.getElem?_toArray, List.getElem?_cons_succ, List.getElem?_cons_zero]; rfl)
            case hqa13 => exact fun _ _ _ h => h
            case hya13 => exact Or.inr ⟨by rfl, rfl⟩
            try simp only [Act.put, List.setIfInBounds_toArray, List.set_cons_zero, List.set_cons_succ]
            refine wpAnyH_take (i := 14) (oi := ?oa14) (v := undef) ?hoa14 (by kernel_rfl) (by kernel_rfl) (by kernel_rfl) ?hqa14 ?hya14 (by assumption) ?resta14
            case hoa14 => (simp only [List.getElem?_toArray, List.getElem?_cons_succ, List.getElem?_cons_zero]; rfl)
            case hqa14 => exact fun _ _ _ h => h
            case hya14 => exact Or.inr ⟨by rfl, rfl⟩
            try simp only [Act.put, List.setIfInBounds_toArray, List.set_cons_zero, List.set_cons_succ]
            refine wpAnyH_take (i := 15) (oi := ?oa15) (v := undef) ?hoa15 (by kernel_rfl) (by kernel_rfl) (by kernel_rfl) ?hqa15 ?hya15 (by assumption) ?resta15
            case hoa15 => (simp only [List.getElem?_toArray, List.getElem?_cons_succ, List.getElem?_cons_zero]; rfl)
            case hqa15 => exact fun _ _ _ h => h
            case hya15 => exact Or.inr ⟨by rfl, rfl⟩
            try simp only [Act.put, List.setIfInBounds_toArray, List.set_cons_zero, List.set_cons_succ]
            refine wpAnyH_take (i := 16) (oi := ?oa16) (v := undef) ?hoa16 (by kernel_rfl) (by kernel_rfl) (by kernel_rfl) ?hqa16 ?hya16 (by assumption) ?resta16
            case hoa16 => (simp only [List.getElem?_toArray, List.getElem?_cons_succ, List.getElem?_cons_zero]; rfl)
            case hqa16 => exact fun _ _ _ h => h
            case hya16 => exact Or.inr ⟨by rfl, rfl⟩
            try simp only [Act.put, List.setIfInBounds_toArray, List.set_cons_zero, List.set_cons_succ]
            refine wpAnyH_take (i := 17) (oi := ?oa17) (v := undef) ?hoa17 (by kernel_rfl) (by kernel_rfl) (by kernel_rfl) ?hqa17 ?hya17 (by assumption) ?resta17
            case hoa17 => (simp only [List.getElem?_toArray, List.getElem?_cons_succ, List.getElem?_cons_zero]; rfl)
            case hqa17 => exact fun _ _ _ h => h
            case hya17 => exact Or.inr ⟨by rfl, rfl⟩
            try simp only [Act.put, List.setIfInBounds_toArray, List.set_cons_zero, List.set_cons_succ]
            refine wpAnyH_take (i := 18) (oi := ?oa18) (v := undef) ?hoa18 (by kernel_rfl) (by kernel_rfl) (by kernel_rfl) ?hqa18 ?hya18 (by assumption) ?resta18
            case hoa18 => (simp only [List.getElem?_toArray, List.getElem?_cons_succ, List.getElem?_cons_zero]; rfl)
            case hqa18 => exact fun _ _ _ h => h
            case hya18 => exact Or.inr ⟨by rfl, rfl⟩
            try simp only [Act.put, List.setIfInBounds_toArray, List.set_cons_zero, List.set_cons_succ]
            refine wpAnyH_ready (rs := [19]) (by kernel_rfl) (by simp) ?_
            refine AllReadyH.cons (o := ?oa19) ?hoa19 ?hsa19 AllReadyH.nil
            case hoa19 => (simp only [List.getElem?_toArray, List.getElem?_cons_succ, List.getElem?_cons_zero]; rfl)
            intro K hK
            go_simp
            refine hK.out _ _ (by assumption) (fun hHeld => ?_)
            clear hK K
            try simp only [Act.put, List.setIfInBounds_toArray, List.set_cons_zero, List.set_cons_succ]
            refine wpAnyH_take (i := 20) (oi := ?oa20) (v := ?va20) ?hoa20 (by kernel_rfl) (by kernel_rfl) (by kernel_rfl) ?hqa20 ?hya20 (by assumption) ?resta20
            case hoa20 => (simp only [List.getElem?_toArray, List.getElem?_cons_succ, List.getElem?_cons_zero]; rfl)
            case hqa20 => exact fun _ _ _ h => h
            case hya20 => (refine Or.inl ⟨by rfl, ?_⟩; intro w0 hSw; (try dsimp only at hSw); go_simp; try with_reducible rfl)
            try simp only [Act.put, List.setIfInBounds_toArray, List.set_cons_zero, List.set_cons_succ]
            refine wpAnyH_done (by kernel_rfl) ?_ _
            have HX8 := Aside0.mk (HX7.out.go (Fr.refl (fun _ => False) W7).drew)
            have HPB8 := Aside0.mk (((Fr.refl (fun _ => False) W7).drew).blk HPB7.out id)
            go_wp2_with (fail)
            exact ⟨⟨t + 1, X, by go_num, HTL.out, HX8, HOM, HPB8⟩, by have := HTL.out; simp [intOf]; omega⟩
          · rw [if_neg hxk]
            have ha0 : 0 ≤ x - G.kinds.length := by omega
            have ha1 : x - G.kinds.length < G.rules.length := by omega
            generalize x - (G.kinds.length : Int) = b at ha0 ha1 ⊢
            cases w1 with
            | false =>
              go_wp2_with (fail)
              refine wp_region_held_drew (S := fun w' => w'.cell? ⟨w.heap.size, 0, none⟩ = some (.slice A0 G.kinds.length c0) ∧ w'.cell? ⟨w.heap.size, 1, none⟩ = some (.slice A1 G.precs.length c1) ∧ w'.cell? ⟨w.heap.size, 2, none⟩ = some (.slice A2 G.rules.length c2) ∧ w'.cell? ⟨w.heap.size, 3, none⟩ = some (.slice (some ad) G.prods.length c3) ∧ w'.cell? ⟨w.heap.size, 4, none⟩ = some (.int .i64 G.start) ∧ w'.cell? ⟨q, 1, none⟩ = some (.slice (some ax) pr.f1.length d1)) (by kernel_rfl) ⟨by simp only [World.cell?_drew]; exact e0, by simp only [World.cell?_drew]; exact e1, by simp only [World.cell?_drew]; exact e2, by simp only [World.cell?_drew]; exact e3, by simp only [World.cell?_drew]; exact e4, by simp only [World.cell?_drew]; exact z1⟩ (fun hHeld => ?_)
              refine wpAnyH_take (i := 0) (oi := ?ob0) (v := ?vb0) ?hob0 (by kernel_rfl) (by kernel_rfl) (by kernel_rfl) ?hqb0 ?hyb0 (by assumption) ?restb0
              case hob0 => (simp only [List.getElem?_toArray, List.getElem?_cons_zero]; rfl)
              case hqb0 => exact fun _ _ _ h => h
              case hyb0 => (refine Or.inl ⟨by rfl, ?_⟩; intro w0 hSw; (try dsimp only at hSw); go_simp; try with_reducible rfl)
              try simp only [Act.put, List.setIfInBounds_toArray, List.set_cons_zero, List.set_cons_succ]
              refine wpAnyH_take (i := 1) (oi := ?ob1) (v := .bool true) ?hob1 (by kernel_rfl) (by kernel_rfl) (by kernel_rfl) ?hqb1 ?hyb1 (by assumption) ?restb1
              case hob1 => (simp only [List.getElem?_toArray, List.getElem?_cons_succ, List.getElem?_cons_zero]; rfl)
              case hqb1 => exact fun _ _ _ h => h
              case hyb1 => (refine Or.inl ⟨by rfl, ?_⟩; intro w0 hSw; (try dsimp only at hSw); go_simp; try with_reducible rfl)
              try simp only [Act.put, List.setIfInBounds_toArray, List.set_cons_zero, List.set_cons_succ]
              refine wpAnyH_take (i := 2) (oi := ?ob2) (v := ?vb2) ?hob2 (by kernel_rfl) (by kernel_rfl) (by kernel_rfl) ?hqb2 ?hyb2 (by assumption) ?restb2
              case hob2 => (simp only [List.getElem?_toArray, List.getElem?_cons_succ, List.getElem?_cons_zero]; rfl)
              case hqb2 => exact fun _ _ _ h => h
              case hyb2 => (refine Or.inl ⟨by rfl, ?_⟩; intro w0 hSw; (try dsimp only at hSw); go_simp; try with_reducible rfl)
              try simp only [Act.put, List.setIfInBounds_toArray, List.set_cons_zero, List.set_cons_succ]
              refine wpAnyH_take (i := 3) (oi := ?ob3) (v := ?vb3) ?hob3 (by kernel_rfl) (by kernel_rfl) (by kernel_rfl) ?hqb3 ?hyb3 (by assumption) ?restb3
              case hob3 => (simp only [List.getElem?_toArray, List.getElem?_cons_succ, List.getElem?_cons_zero]; rfl)
              case hqb3 => exact fun _ _ _ h => h
              case hyb3 => (refine Or.inl ⟨by rfl, ?_⟩; intro w0 hSw; (try dsimp only at hSw); go_simp; try with_reducible rfl)
              try simp only [Act.put, List.setIfInBounds_toArray, List.set_cons_zero, List.set_cons_succ]
              refine wpAnyH_take (i := 4) (oi := ?ob4) (v := ?vb4) ?hob4 (by kernel_rfl) (by kernel_rfl) (by kernel_rfl) ?hqb4 ?hyb4 (by assumption) ?restb4
              case hob4 => (simp only [List.getElem?_toArray, List.getElem?_cons_succ, List.getElem?_cons_zero]; rfl)
              case hqb4 => exact fun _ _ _ h => h
              case hyb4 => (refine Or.inl ⟨by rfl, ?_⟩; intro w0 hSw; (try dsimp only at hSw); go_simp; try with_reducible rfl)
              try simp only [Act.put, List.setIfInBounds_toArray, List.set_cons_zero, List.set_cons_succ]
              refine wpAnyH_take (i := 5) (oi := ?ob5) (v := ?vb5) ?hob5 (by kernel_rfl) (by kernel_rfl) (by kernel_rfl) ?hqb5 ?hyb5 (by assumption) ?restb5
              case hob5 => (simp only [List.getElem?_toArray, List.getElem?_cons_succ, List.getElem?_cons_zero]; rfl)
              case hqb5 => exact fun _ _ _ h => h
              case hyb5 => (refine Or.inl ⟨by rfl, ?_⟩; intro w0 hSw; (try dsimp only at hSw); go_simp; try with_reducible rfl)
              try simp only [Act.put, List.setIfInBounds_toArray, List.set_cons_zero, List.set_cons_succ]
              refine wpAnyH_take (i := 6) (oi := ?ob6) (v := ?vb6) ?hob6 (by kernel_rfl) (by kernel_rfl) (by kernel_rfl) ?hqb6 ?hyb6 (by assumption) ?restb6
              case hob6 => (simp only [List.getElem?_toArray, List.getElem?_cons_succ, List.getElem?_cons_zero]; rfl)
              case hqb6 => exact fun _ _ _ h => h
              case hyb6 => (refine Or.inl ⟨by rfl, ?_⟩; intro w0 hSw; (try dsimp only at hSw); go_simp; try with_reducible rfl)
              try simp only [Act.put, List.setIfInBounds_toArray, List.set_cons_zero, List.set_cons_succ]
              refine wpAnyH_take (i := 7) (oi := ?ob7) (v := ?vb7) ?hob7 (by kernel_rfl) (by kernel_rfl) (by kernel_rfl) ?hqb7 ?hyb7 (by assumption) ?restb7
              case hob7 => (simp only [List.getElem?_toArray, List.getElem?_cons_succ, List.getElem?_cons_zero]; rfl)
              case hqb7 => exact fun _ _ _ h => h
              case hyb7 => (refine Or.inl ⟨by rfl, ?_⟩; intro w0 hSw; (try dsimp only at hSw); go_simp; try with_reducible rfl)
              try simp only [Act.put, List.setIfInBounds_toArray, List.set_cons_zero, List.set_cons_succ]
              refine wpAnyH_take (i := 8) (oi := ?ob8) (v := ?vb8) ?hob8 (by kernel_rfl) (by kernel_rfl) (by kernel_rfl) ?hqb8 ?hyb8 (by assumption) ?restb8
              case hob8 => (simp only [List.getElem?_toArray, List.getElem?_cons_succ, List.getElem?_cons_zero]; rfl)
              case hqb8 => exact fun _ _ _ h => h
              case hyb8 => (refine Or.inl ⟨by rfl, ?_⟩; intro w0 hSw; (try dsimp only at hSw); go_simp; try with_reducible rfl)
              try simp only [Act.put, List.setIfInBounds_toArray, List.set_cons_zero, List.set_cons_succ]
              refine wpAnyH_ready (rs := [9]) (by kernel_rfl) (by simp) ?_
              refine AllReadyH.cons (o := ?ob9) ?hob9 ?hsb9 AllReadyH.nil
              case hob9 => (simp only [List.getElem?_toArray, List.getElem?_cons_succ, List.getElem?_cons_zero]; rfl)
              intro K hK
              go_simp
              refine (H1W.out _ (HX7.out.chk.fr.trans (Fr.refl (fun _ => False) W7).drew (fun _ _ h => h))).mono ?_
              rintro e W8 ⟨rfl, hF8⟩
              have HF8 := Aside0.mk (((Fr.refl (fun _ => False) W7).drew).trans hF8 (fun _ _ h => h))
              obtain ⟨f0, f1, f2, f3, f4⟩ := (HX7.out.go HF8.out).chk.cells
              have y1 := HF8.out.cell z1 id
              clear hF8
              dsimp only
              refine hK.out _ _ ⟨f0, f1, f2, f3, f4, y1⟩ (fun hHeld => ?_)
              clear hK K
              try simp only [Act.put, List.setIfInBounds_toArray, List.set_cons_zero, List.set_cons_succ]
              refine wpAnyH_take (i := 10) (oi := ?ob10) (v := ?vb10) ?hob10 (by kernel_rfl) (by kernel_rfl) (by kernel_rfl) ?hqb10 ?hyb10 (by assumption) ?restb10
              case hob10 => (simp only [List.getElem?_toArray, List.getElem?_cons_succ, List.getElem?_cons_zero]; rfl)
              case hqb10 => exact fun _ _ _ h => h
              case hyb10 => (refine Or.inl ⟨by rfl, ?_⟩; intro w0 hSw; (try dsimp only at hSw); go_simp; try with_reducible rfl)
              try simp only [Act.put, List.setIfInBounds_toArray, List.set_cons_zero, List.set_cons_succ]
              refine wpAnyH_take (i := 11) (oi := ?ob11) (v := ?vb11) ?hob11 (by kernel_rfl) (by kernel_rfl) (by kernel_rfl) ?hqb11 ?hyb11 (by assumption) ?restb11
              case hob11 => (simp only [List.getElem?_toArray, List.getElem?_cons_succ, List.getElem?_cons_zero]; rfl)
              case hqb11 => exact fun _ _ _ h => h
              case hyb11 => (refine Or.inl ⟨by rfl, ?_⟩; intro w0 hSw; (try dsimp only at hSw); go_simp; try with_reducible rfl)
              try simp only [Act.put, List.setIfInBounds_toArray, List.set_cons_zero, List.set_cons_succ]
              refine wpAnyH_take (i := 12) (oi := ?ob12) (v := undef) ?hob12 (by kernel_rfl) (by kernel_rfl) (by kernel_rfl) ?hqb12 ?hyb12 (by assumption) ?restb12
              case hob12 => (simp only [List.getElem?_toArray, List.getElem?_cons_succ, List.getElem?_cons_zero]; rfl)
              case hqb12 => exact fun _ _ _ h => h
              case hyb12 => exact Or.inr ⟨by rfl, rfl⟩
              try simp only [Act.put, List.setIfInBounds_toArray, List.set_cons_zero, List.set_cons_succ]
              refine wpAnyH_take (i := 13) (oi := ?ob13) (v := undef) ?hob13 (by kernel_rfl) (by kernel_rfl) (by kernel_rfl) ?hqb13 ?hyb13 (by assumption) ?restb13
              case hob13 => (simp only [List.getElem?_toArray, List.getElem?_cons_succ, List.getElem?_cons_zero]; rfl)
              case hqb13 => exact fun _ _ _ h => h
              case hyb13 => exact Or.inr ⟨by rfl, rfl⟩
              try simp only [Act.put, List.setIfInBounds_toArray, List.set_cons_zero, List.set_cons_succ]
              refine wpAnyH_take (i := 14) (oi := ?ob14) (v := undef) ?hob14 (by kernel_rfl) (by kernel_rfl) (by kernel_rfl) ?hqb14 ?hyb14 (by assumption) ?restb14
              case hob14 => (simp only [List.getElem?_toArray, List.getElem?_cons_succ, List.getElem?_cons_zero]; rfl)
              case hqb14 => exact fun _ _ _ h => h
              case hyb14 => exact Or.inr ⟨by rfl, rfl⟩
              try simp only [Act.put, List.setIfInBounds_toArray, List.set_cons_zero, List.set_cons_succ]
              refine wpAnyH_take (i := 15) (oi := ?ob15) (v := undef) ?hob15 (by kernel_rfl) (by kernel_rfl) (by kernel_rfl) ?hqb15 ?hyb15 (by assumption) ?restb15
              case hob15 => (simp only [List.getElem?_toArray, List.getElem?_cons_succ, List.getElem?_cons_zero]; rfl)
              case hqb15 => exact fun _ _ _ h => h
              case hyb15 => exact Or.inr ⟨by rfl, rfl⟩
              try simp only [Act.put, List.setIfInBounds_toArray, List.set_cons_zero, List.set_cons_succ]
              refine wpAnyH_take (i := 16) (oi := ?ob16) (v := undef) ?hob16 (by kernel_rfl) (by kernel_rfl) (by kernel_rfl) ?hqb16 ?hyb16 (by assumption) ?restb16
              case hob16 => (simp only [List.getElem?_toArray, List.getElem?_cons_succ, List.getElem?_cons_zero]; rfl)
              case hqb16 => exact fun _ _ _ h => h
              case hyb16 => exact Or.inr ⟨by rfl, rfl⟩
              try simp only [Act.put, List.setIfInBounds_toArray, List.set_cons_zero, List.set_cons_succ]
              refine wpAnyH_take (i := 17) (oi := ?ob17) (v := undef) ?hob17 (by kernel_rfl) (by kernel_rfl) (by kernel_rfl) ?hqb17 ?hyb17 (by assumption) ?restb17
              case hob17 => (simp only [List.getElem?_toArray, List.getElem?_cons_succ, List.getElem?_cons_zero]; rfl)
              case hqb17 => exact fun _ _ _ h => h
              case hyb17 => exact Or.inr ⟨by rfl, rfl⟩
              try simp only [Act.put, List.setIfInBounds_toArray, List.set_cons_zero, List.set_cons_succ]
              refine wpAnyH_take (i := 18) (oi := ?ob18) (v := undef) ?hob18 (by kernel_rfl) (by kernel_rfl) (by kernel_rfl) ?hqb18 ?hyb18 (by assumption) ?restb18
              case hob18 => (simp only [List.getElem?_toArray, List.getElem?_cons_succ, List.getElem?_cons_zero]; rfl)
              case hqb18 => exact fun _ _ _ h => h
              case hyb18 => exact Or.inr ⟨by rfl, rfl⟩
              try simp only [Act.put, List.setIfInBounds_toArray, List.set_cons_zero, List.set_cons_succ]
              refine wpAnyH_ready (rs := [19]) (by kernel_rfl) (by simp) ?_
              refine AllReadyH.cons (o := ?ob19) ?hob19 ?hsb19 AllReadyH.nil
              case hob19 => (simp only [List.getElem?_toArray, List.getElem?_cons_succ, List.getElem?_cons_zero]; rfl)
              intro K hK
              go_simp
              refine hK.out _ _ (by assumption) (fun hHeld => ?_)
              clear hK K
              try simp only [Act.put, List.setIfInBounds_toArray, List.set_cons_zero, List.set_cons_succ]
              refine wpAnyH_take (i := 20) (oi := ?ob20) (v := ?vb20) ?hob20 (by kernel_rfl) (by kernel_rfl) (by kernel_rfl) ?hqb20 ?hyb20 (by assumption) ?restb20
              case hob20 => (simp only [List.getElem?_toArray, List.getElem?_cons_succ, List.getElem?_cons_zero]; rfl)
              case hqb20 => exact fun _ _ _ h => h
              case hyb20 => (refine Or.inl ⟨by rfl, ?_⟩; intro w0 hSw; (try dsimp only at hSw); go_simp; try with_reducible rfl)
              try simp only [Act.put, List.setIfInBounds_toArray, List.set_cons_zero, List.set_cons_succ]
              refine wpAnyH_done (by kernel_rfl) ?_ _
              have HX8 := Aside0.mk (HX7.out.go HF8.out)
              have HPB8 := Aside0.mk (HF8.out.blk HPB7.out id)
              go_wp2_with (fail)
              exact ⟨⟨t + 1, X, by go_num, HTL.out, HX8, HOM, HPB8⟩, by have := HTL.out; simp [intOf]; omega⟩
            | true =>
              cases w2 with
              | false =>
                go_wp2_with (fail)
                refine wp_region_held_drew (S := fun w' => w'.cell? ⟨w.heap.size, 0, none⟩ = some (.slice A0 G.kinds.length c0) ∧ w'.cell? ⟨w.heap.size, 1, none⟩ = some (.slice A1 G.precs.length c1) ∧ w'.cell? ⟨w.heap.size, 2, none⟩ = some (.slice A2 G.rules.length c2) ∧ w'.cell? ⟨w.heap.size, 3, none⟩ = some (.slice (some ad) G.prods.length c3) ∧ w'.cell? ⟨w.heap.size, 4, none⟩ = some (.int .i64 G.start) ∧ w'.cell? ⟨q, 1, none⟩ = some (.slice (some ax) pr.f1.length d1)) (by kernel_rfl) ⟨by simp only [World.cell?_drew]; exact e0, by simp only [World.cell?_drew]; exact e1, by simp only [World.cell?_drew]; exact e2, by simp only [World.cell?_drew]; exact e3, by simp only [World.cell?_drew]; exact e4, by simp only [World.cell?_drew]; exact z1⟩ (fun hHeld => ?_)
                refine wpAnyH_take (i := 0) (oi := ?oc0) (v := ?vc0) ?hoc0 (by kernel_rfl) (by kernel_rfl) (by kernel_rfl) ?hqc0 ?hyc0 (by assumption) ?restc0
                case hoc0 => (simp only [List.getElem?_toArray, List.getElem?_cons_zero]; rfl)
                case hqc0 => exact fun _ _ _ h => h
                case hyc0 => (refine Or.inl ⟨by rfl, ?_⟩; intro w0 hSw; (try dsimp only at hSw); go_simp; try with_reducible rfl)
                try simp only [Act.put, List.setIfInBounds_toArray, List.set_cons_zero, List.set_cons_succ]
                refine wpAnyH_take (i := 1) (oi := ?oc1) (v := .bool true) ?hoc1 (by kernel_rfl) (by kernel_rfl) (by kernel_rfl) ?hqc1 ?hyc1 (by assumption) ?restc1
                case hoc1 => (simp only [List.getElem?_toArray, List.getElem?_cons_succ, List.getElem?_cons_zero]; rfl)
                case hqc1 => exact fun _ _ _ h => h
                case hyc1 => (refine Or.inl ⟨by rfl, ?_⟩; intro w0 hSw; (try dsimp only at hSw); go_simp; try with_reducible rfl)
                try simp only [Act.put, List.setIfInBounds_toArray, List.set_cons_zero, List.set_cons_succ]
                refine wpAnyH_take (i := 2) (oi := ?oc2) (v := ?vc2) ?hoc2 (by kernel_rfl) (by kernel_rfl) (by kernel_rfl) ?hqc2 ?hyc2 (by assumption) ?restc2
                case hoc2 => (simp only [List.getElem?_toArray, List.getElem?_cons_succ, List.getElem?_cons_zero]; rfl)
                case hqc2 => exact fun _ _ _ h => h
                case hyc2 => (refine Or.inl ⟨by rfl, ?_⟩; intro w0 hSw; (try dsimp only at hSw); go_simp; try with_reducible rfl)
                try simp only [Act.put, List.setIfInBounds_toArray, List.set_cons_zero, List.set_cons_succ]
                refine wpAnyH_take (i := 3) (oi := ?oc3) (v := ?vc3) ?hoc3 (by kernel_rfl) (by kernel_rfl) (by kernel_rfl) ?hqc3 ?hyc3 (by assumption) ?restc3
                case hoc3 => (simp only [List.getElem?_toArray, List.getElem?_cons_succ, List.getElem?_cons_zero]; rfl)
                case hqc3 => exact fun _ _ _ h => h
                case hyc3 => (refine Or.inl ⟨by rfl, ?_⟩; intro w0 hSw; (try dsimp only at hSw); go_simp; try with_reducible rfl)
                try simp only [Act.put, List.setIfInBounds_toArray, List.set_cons_zero, List.set_cons_succ]
                refine wpAnyH_take (i := 4) (oi := ?oc4) (v := ?vc4) ?hoc4 (by kernel_rfl) (by kernel_rfl) (by kernel_rfl) ?hqc4 ?hyc4 (by assumption) ?restc4
                case hoc4 => (simp only [List.getElem?_toArray, List.getElem?_cons_succ, List.getElem?_cons_zero]; rfl)
                case hqc4 => exact fun _ _ _ h => h
                case hyc4 => (refine Or.inl ⟨by rfl, ?_⟩; intro w0 hSw; (try dsimp only at hSw); go_simp; try with_reducible rfl)
                try simp only [Act.put, List.setIfInBounds_toArray, List.set_cons_zero, List.set_cons_succ]
                refine wpAnyH_take (i := 5) (oi := ?oc5) (v := ?vc5) ?hoc5 (by kernel_rfl) (by kernel_rfl) (by kernel_rfl) ?hqc5 ?hyc5 (by assumption) ?restc5
                case hoc5 => (simp only [List.getElem?_toArray, List.getElem?_cons_succ, List.getElem?_cons_zero]; rfl)
                case hqc5 => exact fun _ _ _ h => h
                case hyc5 => (refine Or.inl ⟨by rfl, ?_⟩; intro w0 hSw; (try dsimp only at hSw); go_simp; try with_reducible rfl)
                try simp only [Act.put, List.setIfInBounds_toArray, List.set_cons_zero, List.set_cons_succ]
                refine wpAnyH_take (i := 6) (oi := ?oc6) (v := ?vc6) ?hoc6 (by kernel_rfl) (by kernel_rfl) (by kernel_rfl) ?hqc6 ?hyc6 (by assumption) ?restc6
                case hoc6 => (simp only [List.getElem?_toArray, List.getElem?_cons_succ, List.getElem?_cons_zero]; rfl)
                case hqc6 => exact fun _ _ _ h => h
                case hyc6 => (refine Or.inl ⟨by rfl, ?_⟩; intro w0 hSw; (try dsimp only at hSw); go_simp; try with_reducible rfl)
                try simp only [Act.put, List.setIfInBounds_toArray, List.set_cons_zero, List.set_cons_succ]
                refine wpAnyH_take (i := 7) (oi := ?oc7) (v := ?vc7) ?hoc7 (by kernel_rfl) (by kernel_rfl) (by kernel_rfl) ?hqc7 ?hyc7 (by assumption) ?restc7
                case hoc7 => (simp only [List.getElem?_toArray, List.getElem?_cons_succ, List.getElem?_cons_zero]; rfl)
                case hqc7 => exact fun _ _ _ h => h
                case hyc7 => (refine Or.inl ⟨by rfl, ?_⟩; intro w0 hSw; (try dsimp only at hSw); go_simp; try with_reducible rfl)
                try simp only [Act.put, List.setIfInBounds_toArray, List.set_cons_zero, List.set_cons_succ]
                refine wpAnyH_take (i := 8) (oi := ?oc8) (v := ?vc8) ?hoc8 (by kernel_rfl) (by kernel_rfl) (by kernel_rfl) ?hqc8 ?hyc8 (by assumption) ?restc8
                case hoc8 => (simp only [List.getElem?_toArray, List.getElem?_cons_succ, List.getElem?_cons_zero]; rfl)
                case hqc8 => exact fun _ _ _ h => h
                case hyc8 => (refine Or.inl ⟨by rfl, ?_⟩; intro w0 hSw; (try dsimp only at hSw); go_simp; try with_reducible rfl)
                try simp only [Act.put, List.setIfInBounds_toArray, List.set_cons_zero, List.set_cons_succ]
                refine wpAnyH_ready (rs := [9]) (by kernel_rfl) (by simp) ?_
                refine AllReadyH.cons (o := ?oc9) ?hoc9 ?hsc9 AllReadyH.nil
                case hoc9 => (simp only [List.getElem?_toArray, List.getElem?_cons_succ, List.getElem?_cons_zero]; rfl)
                intro K hK
                go_simp
                refine (H1W.out _ (HX7.out.chk.fr.trans (Fr.refl (fun _ => False) W7).drew (fun _ _ h => h))).mono ?_
                rintro e W8 ⟨rfl, hF8⟩
                have HF8 := Aside0.mk (((Fr.refl (fun _ => False) W7).drew).trans hF8 (fun _ _ h => h))
                obtain ⟨f0, f1, f2, f3, f4⟩ := (HX7.out.go HF8.out).chk.cells
                have y1 := HF8.out.cell z1 id
                clear hF8
                dsimp only
                refine hK.out _ _ ⟨f0, f1, f2, f3, f4, y1⟩ (fun hHeld => ?_)
                clear hK K
                try simp only [Act.put, List.setIfInBounds_toArray, List.set_cons_zero, List.set_cons_succ]
                refine wpAnyH_take (i := 10) (oi := ?oc10) (v := ?vc10) ?hoc10 (by kernel_rfl) (by kernel_rfl) (by kernel_rfl) ?hqc10 ?hyc10 (by assumption) ?restc10
                case hoc10 => (simp only [List.getElem?_toArray, List.getElem?_cons_succ, List.getElem?_cons_zero]; rfl)
                case hqc10 => exact fun _ _ _ h => h
                case hyc10 => (refine Or.inl ⟨by rfl, ?_⟩; intro w0 hSw; (try dsimp only at hSw); go_simp; try with_reducible rfl)
                try simp only [Act.put, List.setIfInBounds_toArray, List.set_cons_zero, List.set_cons_succ]
                refine wpAnyH_take (i := 11) (oi := ?oc11) (v := ?vc11) ?hoc11 (by kernel_rfl) (by kernel_rfl) (by kernel_rfl) ?hqc11 ?hyc11 (by assumption) ?restc11
                case hoc11 => (simp only [List.getElem?_toArray, List.getElem?_cons_succ, List.getElem?_cons_zero]; rfl)
                case hqc11 => exact fun _ _ _ h => h
                case hyc11 => (refine Or.inl ⟨by rfl, ?_⟩; intro w0 hSw; (try dsimp only at hSw); go_simp; try with_reducible rfl)
                try simp only [Act.put, List.setIfInBounds_toArray, List.set_cons_zero, List.set_cons_succ]
                refine wpAnyH_take (i := 12) (oi := ?oc12) (v := ?vc12) ?hoc12 (by kernel_rfl) (by kernel_rfl) (by kernel_rfl) ?hqc12 ?hyc12 (by assumption) ?restc12
                case hoc12 => (simp only [List.getElem?_toArray, List.getElem?_cons_succ, List.getElem?_cons_zero]; rfl)
                case hqc12 => exact fun _ _ _ h => h
                case hyc12 => (refine Or.inl ⟨by rfl, ?_⟩; intro w0 hSw; (try dsimp only at hSw); go_simp; try with_reducible rfl)
                try simp only [Act.put, List.setIfInBounds_toArray, List.set_cons_zero, List.set_cons_succ]
                refine wpAnyH_take (i := 13) (oi := ?oc13) (v := ?vc13) ?hoc13 (by kernel_rfl) (by kernel_rfl) (by kernel_rfl) ?hqc13 ?hyc13 (by assumption) ?restc13
                case hoc13 => (simp only [List.getElem?_toArray, List.getElem?_cons_succ, List.getElem?_cons_zero]; rfl)
                case hqc13 => exact fun _ _ _ h => h
                case hyc13 => (refine Or.inl ⟨by rfl, ?_⟩; intro w0 hSw; (try dsimp only at hSw); go_simp; try with_reducible rfl)
                try simp only [Act.put, List.setIfInBounds_toArray, List.set_cons_zero, List.set_cons_succ]
                refine wpAnyH_take (i := 14) (oi := ?oc14) (v := ?vc14) ?hoc14 (by kernel_rfl) (by kernel_rfl) (by kernel_rfl) ?hqc14 ?hyc14 (by assumption) ?restc14
                case hoc14 => (simp only [List.getElem?_toArray, List.getElem?_cons_succ, List.getElem?_cons_zero]; rfl)
                case hqc14 => exact fun _ _ _ h => h
                case hyc14 => (refine Or.inl ⟨by rfl, ?_⟩; intro w0 hSw; (try dsimp only at hSw); go_simp; try with_reducible rfl)
                try simp only [Act.put, List.setIfInBounds_toArray, List.set_cons_zero, List.set_cons_succ]
                refine wpAnyH_take (i := 15) (oi := ?oc15) (v := ?vc15) ?hoc15 (by kernel_rfl) (by kernel_rfl) (by kernel_rfl) ?hqc15 ?hyc15 (by assumption) ?restc15
                case hoc15 => (simp only [List.getElem?_toArray, List.getElem?_cons_succ, List.getElem?_cons_zero]; rfl)
                case hqc15 => exact fun _ _ _ h => h
                case hyc15 => (refine Or.inl ⟨by rfl, ?_⟩; intro w0 hSw; (try dsimp only at hSw); go_simp; try with_reducible rfl)
                try simp only [Act.put, List.setIfInBounds_toArray, List.set_cons_zero, List.set_cons_succ]
                refine wpAnyH_take (i := 16) (oi := ?oc16) (v := ?vc16) ?hoc16 (by kernel_rfl) (by kernel_rfl) (by kernel_rfl) ?hqc16 ?hyc16 (by assumption) ?restc16
                case hoc16 => (simp only [List.getElem?_toArray, List.getElem?_cons_succ, List.getElem?_cons_zero]; rfl)
                case hqc16 => exact fun _ _ _ h => h
                case hyc16 => (refine Or.inl ⟨by rfl, ?_⟩; intro w0 hSw; (try dsimp only at hSw); go_simp; try with_reducible rfl)
                try simp only [Act.put, List.setIfInBounds_toArray, List.set_cons_zero, List.set_cons_succ]
                refine wpAnyH_take (i := 17) (oi := ?oc17) (v := .int .i64 ((t : Int) + 1)) ?hoc17 (by kernel_rfl) (by kernel_rfl) (by kernel_rfl) ?hqc17 ?hyc17 (by assumption) ?restc17
                case hoc17 => (simp only [List.getElem?_toArray, List.getElem?_cons_succ, List.getElem?_cons_zero]; rfl)
                case hqc17 => exact fun _ _ _ h => h
                case hyc17 => (refine Or.inl ⟨by rfl, ?_⟩; intro w0 hSw; (try dsimp only at hSw); go_simp; try with_reducible rfl)
                try simp only [Act.put, List.setIfInBounds_toArray, List.set_cons_zero, List.set_cons_succ]
                refine wpAnyH_take (i := 18) (oi := ?oc18) (v := ?vc18) ?hoc18 (by kernel_rfl) (by kernel_rfl) (by kernel_rfl) ?hqc18 ?hyc18 (by assumption) ?restc18
                case hoc18 => (simp only [List.getElem?_toArray, List.getElem?_cons_succ, List.getElem?_cons_zero]; rfl)
                case hqc18 => exact fun _ _ _ h => h
                case hyc18 => (refine Or.inl ⟨by rfl, ?_⟩; intro w0 hSw; (try dsimp only at hSw); go_simp; try with_reducible rfl)
                try simp only [Act.put, List.setIfInBounds_toArray, List.set_cons_zero, List.set_cons_succ]
                refine wpAnyH_ready (rs := [19]) (by kernel_rfl) (by simp) ?_
                refine AllReadyH.cons (o := ?oc19) ?hoc19 ?hsc19 AllReadyH.nil
                case hoc19 => (simp only [List.getElem?_toArray, List.getElem?_cons_succ, List.getElem?_cons_zero]; rfl)
                intro K hK
                go_simp
                refine (H2W.out _ (HX7.out.chk.fr.trans HF8.out (fun _ _ h => h))).mono ?_
                rintro e W9 ⟨rfl, hF9⟩
                have HF9 := Aside0.mk (HF8.out.trans hF9 (fun _ _ h => h))
                obtain ⟨g0, g1, g2, g3, g4⟩ := (HX7.out.go HF9.out).chk.cells
                have u1 := HF9.out.cell z1 id
                clear hF9
                dsimp only
                refine hK.out _ _ ⟨g0, g1, g2, g3, g4, u1⟩ (fun hHeld => ?_)
                clear hK K
                try simp only [Act.put, List.setIfInBounds_toArray, List.set_cons_zero, List.set_cons_succ]
                refine wpAnyH_take (i := 20) (oi := ?oc20) (v := ?vc20) ?hoc20 (by kernel_rfl) (by kernel_rfl) (by kernel_rfl) ?hqc20 ?hyc20 (by assumption) ?restc20
                case hoc20 => (simp only [List.getElem?_toArray, List.getElem?_cons_succ, List.getElem?_cons_zero]; rfl)
                case hqc20 => exact fun _ _ _ h => h
                case hyc20 => (refine Or.inl ⟨by rfl, ?_⟩; intro w0 hSw; (try dsimp only at hSw); go_simp; try with_reducible rfl)
                try simp only [Act.put, List.setIfInBounds_toArray, List.set_cons_zero, List.set_cons_succ]
                refine wpAnyH_done (by kernel_rfl) ?_ _
                have HX9 := Aside0.mk (HX7.out.go HF9.out)
                have HPB9 := Aside0.mk (HF9.out.blk HPB7.out id)
                go_wp2_with (fail)
                exact ⟨⟨t + 1, X, by go_num, HTL.out, HX9, HOM, HPB9⟩, by have := HTL.out; simp [intOf]; omega⟩
              | true =>
                go_wp2_with (fail)
                refine wp_region_held_drew (S := fun w' => w'.cell? ⟨w.heap.size, 0, none⟩ = some (.slice A0 G.kinds.length c0) ∧ w'.cell? ⟨w.heap.size, 1, none⟩ = some (.slice A1 G.precs.length c1) ∧ w'.cell? ⟨w.heap.size, 2, none⟩ = some (.slice A2 G.rules.length c2) ∧ w'.cell? ⟨w.heap.size, 3, none⟩ = some (.slice (some ad) G.prods.length c3) ∧ w'.cell? ⟨w.heap.size, 4, none⟩ = some (.int .i64 G.start) ∧ w'.cell? ⟨q, 1, none⟩ = some (.slice (some ax) pr.f1.length d1)) (by kernel_rfl) ⟨by simp only [World.cell?_drew]; exact e0, by simp only [World.cell?_drew]; exact e1, by simp only [World.cell?_drew]; exact e2, by simp only [World.cell?_drew]; exact e3, by simp only [World.cell?_drew]; exact e4, by simp only [World.cell?_drew]; exact z1⟩ (fun hHeld => ?_)
                refine wpAnyH_take (i := 0) (oi := ?od0) (v := ?vd0) ?hod0 (by kernel_rfl) (by kernel_rfl) (by kernel_rfl) ?hqd0 ?hyd0 (by assumption) ?restd0
                case hod0 => (simp only [List.getElem?_toArray, List.getElem?_cons_zero]; rfl)
                case hqd0 => exact fun _ _ _ h => h
                case hyd0 => (refine Or.inl ⟨by rfl, ?_⟩; intro w0 hSw; (try dsimp only at hSw); go_simp; try with_reducible rfl)
                try simp only [Act.put, List.setIfInBounds_toArray, List.set_cons_zero, List.set_cons_succ]
                refine wpAnyH_take (i := 1) (oi := ?od1) (v := .bool true) ?hod1 (by kernel_rfl) (by kernel_rfl) (by kernel_rfl) ?hqd1 ?hyd1 (by assumption) ?restd1
                case hod1 => (simp only [List.getElem?_toArray, List.getElem?_cons_succ, List.getElem?_cons_zero]; rfl)
                case hqd1 => exact fun _ _ _ h => h
                case hyd1 => (refine Or.inl ⟨by rfl, ?_⟩; intro w0 hSw; (try dsimp only at hSw); go_simp; try with_reducible rfl)
                try simp only [Act.put, List.setIfInBounds_toArray, List.set_cons_zero, List.set_cons_succ]
                refine wpAnyH_take (i := 2) (oi := ?od2) (v := ?vd2) ?hod2 (by kernel_rfl) (by kernel_rfl) (by kernel_rfl) ?hqd2 ?hyd2 (by assumption) ?restd2
                case hod2 => (simp only [List.getElem?_toArray, List.getElem?_cons_succ, List.getElem?_cons_zero]; rfl)
                case hqd2 => exact fun _ _ _ h => h
                case hyd2 => (refine Or.inl ⟨by rfl, ?_⟩; intro w0 hSw; (try dsimp only at hSw); go_simp; try with_reducible rfl)
                try simp only [Act.put, List.setIfInBounds_toArray, List.set_cons_zero, List.set_cons_succ]
                refine wpAnyH_take (i := 3) (oi := ?od3) (v := ?vd3) ?hod3 (by kernel_rfl) (by kernel_rfl) (by kernel_rfl) ?hqd3 ?hyd3 (by assumption) ?restd3
                case hod3 => (simp only [List.getElem?_toArray, List.getElem?_cons_succ, List.getElem?_cons_zero]; rfl)
                case hqd3 => exact fun _ _ _ h => h
                case hyd3 => (refine Or.inl ⟨by rfl, ?_⟩; intro w0 hSw; (try dsimp only at hSw); go_simp; try with_reducible rfl)
                try simp only [Act.put, List.setIfInBounds_toArray, List.set_cons_zero, List.set_cons_succ]
                refine wpAnyH_take (i := 4) (oi := ?od4) (v := ?vd4) ?hod4 (by kernel_rfl) (by kernel_rfl) (by kernel_rfl) ?hqd4 ?hyd4 (by assumption) ?restd4
                case hod4 => (simp only [List.getElem?_toArray, List.getElem?_cons_succ, List.getElem?_cons_zero]; rfl)
                case hqd4 => exact fun _ _ _ h => h
                case hyd4 => (refine Or.inl ⟨by rfl, ?_⟩; intro w0 hSw; (try dsimp only at hSw); go_simp; try with_reducible rfl)
                try simp only [Act.put, List.setIfInBounds_toArray, List.set_cons_zero, List.set_cons_succ]
                refine wpAnyH_take (i := 5) (oi := ?od5) (v := ?vd5) ?hod5 (by kernel_rfl) (by kernel_rfl) (by kernel_rfl) ?hqd5 ?hyd5 (by assumption) ?restd5
                case hod5 => (simp only [List.getElem?_toArray, List.getElem?_cons_succ, List.getElem?_cons_zero]; rfl)
                case hqd5 => exact fun _ _ _ h => h
                case hyd5 => (refine Or.inl ⟨by rfl, ?_⟩; intro w0 hSw; (try dsimp only at hSw); go_simp; try with_reducible rfl)
                try simp only [Act.put, List.setIfInBounds_toArray, List.set_cons_zero, List.set_cons_succ]
                refine wpAnyH_take (i := 6) (oi := ?od6) (v := ?vd6) ?hod6 (by kernel_rfl) (by kernel_rfl) (by kernel_rfl) ?hqd6 ?hyd6 (by assumption) ?restd6
                case hod6 => (simp only [List.getElem?_toArray, List.getElem?_cons_succ, List.getElem?_cons_zero]; rfl)
                case hqd6 => exact fun _ _ _ h => h
                case hyd6 => (refine Or.inl ⟨by rfl, ?_⟩; intro w0 hSw; (try dsimp only at hSw); go_simp; try with_reducible rfl)
                try simp only [Act.put, List.setIfInBounds_toArray, List.set_cons_zero, List.set_cons_succ]
                refine wpAnyH_take (i := 7) (oi := ?od7) (v := ?vd7) ?hod7 (by kernel_rfl) (by kernel_rfl) (by kernel_rfl) ?hqd7 ?hyd7 (by assumption) ?restd7
                case hod7 => (simp only [List.getElem?_toArray, List.getElem?_cons_succ, List.getElem?_cons_zero]; rfl)
                case hqd7 => exact fun _ _ _ h => h
                case hyd7 => (refine Or.inl ⟨by rfl, ?_⟩; intro w0 hSw; (try dsimp only at hSw); go_simp; try with_reducible rfl)
                try simp only [Act.put, List.setIfInBounds_toArray, List.set_cons_zero, List.set_cons_succ]
                refine wpAnyH_take (i := 8) (oi := ?od8) (v := ?vd8) ?hod8 (by kernel_rfl) (by kernel_rfl) (by kernel_rfl) ?hqd8 ?hyd8 (by assumption) ?restd8
                case hod8 => (simp only [List.getElem?_toArray, List.getElem?_cons_succ, List.getElem?_cons_zero]; rfl)
                case hqd8 => exact fun _ _ _ h => h
                case hyd8 => (refine Or.inl ⟨by rfl, ?_⟩; intro w0 hSw; (try dsimp only at hSw); go_simp; try with_reducible rfl)
                try simp only [Act.put, List.setIfInBounds_toArray, List.set_cons_zero, List.set_cons_succ]
                refine wpAnyH_ready (rs := [9]) (by kernel_rfl) (by simp) ?_
                refine AllReadyH.cons (o := ?od9) ?hod9 ?hsd9 AllReadyH.nil
                case hod9 => (simp only [List.getElem?_toArray, List.getElem?_cons_succ, List.getElem?_cons_zero]; rfl)
                intro K hK
                go_simp
                refine (H1W.out _ (HX7.out.chk.fr.trans (Fr.refl (fun _ => False) W7).drew (fun _ _ h => h))).mono ?_
                rintro e W8 ⟨rfl, hF8⟩
                have HF8 := Aside0.mk (((Fr.refl (fun _ => False) W7).drew).trans hF8 (fun _ _ h => h))
                obtain ⟨f0, f1, f2, f3, f4⟩ := (HX7.out.go HF8.out).chk.cells
                have y1 := HF8.out.cell z1 id
                clear hF8
                dsimp only
                refine hK.out _ _ ⟨f0, f1, f2, f3, f4, y1⟩ (fun hHeld => ?_)
                clear hK K
                try simp only [Act.put, List.setIfInBounds_toArray, List.set_cons_zero, List.set_cons_succ]
                refine wpAnyH_take (i := 10) (oi := ?od10) (v := ?vd10) ?hod10 (by kernel_rfl) (by kernel_rfl) (by kernel_rfl) ?hqd10 ?hyd10 (by assumption) ?restd10
                case hod10 => (simp only [List.getElem?_toArray, List.getElem?_cons_succ, List.getElem?_cons_zero]; rfl)
                case hqd10 => exact fun _ _ _ h => h
                case hyd10 => (refine Or.inl ⟨by rfl, ?_⟩; intro w0 hSw; (try dsimp only at hSw); go_simp; try with_reducible rfl)
                try simp only [Act.put, List.setIfInBounds_toArray, List.set_cons_zero, List.set_cons_succ]
                refine wpAnyH_take (i := 11) (oi := ?od11) (v := ?vd11) ?hod11 (by kernel_rfl) (by kernel_rfl) (by kernel_rfl) ?hqd11 ?hyd11 (by assumption) ?restd11
                case hod11 => (simp only [List.getElem?_toArray, List.getElem?_cons_succ, List.getElem?_cons_zero]; rfl)
                case hqd11 => exact fun _ _ _ h => h
                case hyd11 => (refine Or.inl ⟨by rfl, ?_⟩; intro w0 hSw; (try dsimp only at hSw); go_simp; try with_reducible rfl)
                try simp only [Act.put, List.setIfInBounds_toArray, List.set_cons_zero, List.set_cons_succ]
                refine wpAnyH_take (i := 12) (oi := ?od12) (v := ?vd12) ?hod12 (by kernel_rfl) (by kernel_rfl) (by kernel_rfl) ?hqd12 ?hyd12 (by assumption) ?restd12
                case hod12 => (simp only [List.getElem?_toArray, List.getElem?_cons_succ, List.getElem?_cons_zero]; rfl)
                case hqd12 => exact fun _ _ _ h => h
                case hyd12 => (refine Or.inl ⟨by rfl, ?_⟩; intro w0 hSw; (try dsimp only at hSw); go_simp; try with_reducible rfl)
                try simp only [Act.put, List.setIfInBounds_toArray, List.set_cons_zero, List.set_cons_succ]
                refine wpAnyH_take (i := 13) (oi := ?od13) (v := ?vd13) ?hod13 (by kernel_rfl) (by kernel_rfl) (by kernel_rfl) ?hqd13 ?hyd13 (by assumption) ?restd13
                case hod13 => (simp only [List.getElem?_toArray, List.getElem?_cons_succ, List.getElem?_cons_zero]; rfl)
                case hqd13 => exact fun _ _ _ h => h
                case hyd13 => (refine Or.inl ⟨by rfl, ?_⟩; intro w0 hSw; (try dsimp only at hSw); go_simp; try with_reducible rfl)
                try simp only [Act.put, List.setIfInBounds_toArray, List.set_cons_zero, List.set_cons_succ]
                refine wpAnyH_take (i := 14) (oi := ?od14) (v := ?vd14) ?hod14 (by kernel_rfl) (by kernel_rfl) (by kernel_rfl) ?hqd14 ?hyd14 (by assumption) ?restd14
                case hod14 => (simp only [List.getElem?_toArray, List.getElem?_cons_succ, List.getElem?_cons_zero]; rfl)
                case hqd14 => exact fun _ _ _ h => h
                case hyd14 => (refine Or.inl ⟨by rfl, ?_⟩; intro w0 hSw; (try dsimp only at hSw); go_simp; try with_reducible rfl)
                try simp only [Act.put, List.setIfInBounds_toArray, List.set_cons_zero, List.set_cons_succ]
                refine wpAnyH_take (i := 15) (oi := ?od15) (v := ?vd15) ?hod15 (by kernel_rfl) (by kernel_rfl) (by kernel_rfl) ?hqd15 ?hyd15 (by assumption) ?restd15
                case hod15 => (simp only [List.getElem?_toArray, List.getElem?_cons_succ, List.getElem?_cons_zero]; rfl)
                case hqd15 => exact fun _ _ _ h => h
                case hyd15 => (refine Or.inl ⟨by rfl, ?_⟩; intro w0 hSw; (try dsimp only at hSw); go_simp; try with_reducible rfl)
                try simp only [Act.put, List.setIfInBounds_toArray, List.set_cons_zero, List.set_cons_succ]
                refine wpAnyH_take (i := 16) (oi := ?od16) (v := ?vd16) ?hod16 (by kernel_rfl) (by kernel_rfl) (by kernel_rfl) ?hqd16 ?hyd16 (by assumption) ?restd16
                case hod16 => (simp only [List.getElem?_toArray, List.getElem?_cons_succ, List.getElem?_cons_zero]; rfl)
                case hqd16 => exact fun _ _ _ h => h
                case hyd16 => (refine Or.inl ⟨by rfl, ?_⟩; intro w0 hSw; (try dsimp only at hSw); go_simp; try with_reducible rfl)
                try simp only [Act.put, List.setIfInBounds_toArray, List.set_cons_zero, List.set_cons_succ]
                refine wpAnyH_take (i := 17) (oi := ?od17) (v := .int .i64 ((t : Int) + 1)) ?hod17 (by kernel_rfl) (by kernel_rfl) (by kernel_rfl) ?hqd17 ?hyd17 (by assumption) ?restd17
                case hod17 => (simp only [List.getElem?_toArray, List.getElem?_cons_succ, List.getElem?_cons_zero]; rfl)
                case hqd17 => exact fun _ _ _ h => h
                case hyd17 => (refine Or.inl ⟨by rfl, ?_⟩; intro w0 hSw; (try dsimp only at hSw); go_simp; try with_reducible rfl)
                try simp only [Act.put, List.setIfInBounds_toArray, List.set_cons_zero, List.set_cons_succ]
                refine wpAnyH_take (i := 18) (oi := ?od18) (v := ?vd18) ?hod18 (by kernel_rfl) (by kernel_rfl) (by kernel_rfl) ?hqd18 ?hyd18 (by assumption) ?restd18
                case hod18 => (simp only [List.getElem?_toArray, List.getElem?_cons_succ, List.getElem?_cons_zero]; rfl)
                case hqd18 => exact fun _ _ _ h => h
                case hyd18 => (refine Or.inl ⟨by rfl, ?_⟩; intro w0 hSw; (try dsimp only at hSw); go_simp; try with_reducible rfl)
                try simp only [Act.put, List.setIfInBounds_toArray, List.set_cons_zero, List.set_cons_succ]
                refine wpAnyH_ready (rs := [19]) (by kernel_rfl) (by simp) ?_
                refine AllReadyH.cons (o := ?od19) ?hod19 ?hsd19 AllReadyH.nil
                case hod19 => (simp only [List.getElem?_toArray, List.getElem?_cons_succ, List.getElem?_cons_zero]; rfl)
                intro K hK
                go_simp
                refine (H2W.out _ (HX7.out.chk.fr.trans HF8.out (fun _ _ h => h))).mono ?_
                rintro e W9 ⟨rfl, hF9⟩
                have HF9 := Aside0.mk (HF8.out.trans hF9 (fun _ _ h => h))
                obtain ⟨g0, g1, g2, g3, g4⟩ := (HX7.out.go HF9.out).chk.cells
                have u1 := HF9.out.cell z1 id
                clear hF9
                dsimp only
                refine hK.out _ _ ⟨g0, g1, g2, g3, g4, u1⟩ (fun hHeld => ?_)
                clear hK K
                try simp only [Act.put, List.setIfInBounds_toArray, List.set_cons_zero, List.set_cons_succ]
                refine wpAnyH_take (i := 20) (oi := ?od20) (v := ?vd20) ?hod20 (by kernel_rfl) (by kernel_rfl) (by kernel_rfl) ?hqd20 ?hyd20 (by assumption) ?restd20
                case hod20 => (simp only [List.getElem?_toArray, List.getElem?_cons_succ, List.getElem?_cons_zero]; rfl)
                case hqd20 => exact fun _ _ _ h => h
                case hyd20 => (refine Or.inl ⟨by rfl, ?_⟩; intro w0 hSw; (try dsimp only at hSw); go_simp; try with_reducible rfl)
                try simp only [Act.put, List.setIfInBounds_toArray, List.set_cons_zero, List.set_cons_succ]
                refine wpAnyH_done (by kernel_rfl) ?_ _
                have HX9 := Aside0.mk (HX7.out.go (HF9.out.trans (Fr.refl (fun _ => False) W9).drew (fun _ _ h => h)))
                have HPB9 := Aside0.mk ((HF9.out.trans (Fr.refl (fun _ => False) W9).drew (fun _ _ h => h)).blk HPB7.out id)
                clear H1W H2W k1 k4 HX7 HPB7 HF8 HF9 e0 e1 e2 e3 e4 z0 z1 f0 f1 f2 f3 f4 y1 g0 g1 g2 g3 g4 u1 hwr
                have hbs : w.heap.size + 1 ≤ W9.drew.heap.size := blk_lt HX9.out.chk.box
                obtain ⟨Ar, cr, oki, hcr, hfr, hRr, hgtl, hown, hput⟩ := rows_grow HX9.out.rows (i := pr.f0.toNat) (by omega)
                have HRR := Aside0.mk hRr
                have HPUT := Aside0.mk hput
                have HOWN := Aside0.mk hown
                have HMX := Aside0.mk (HO.out.max pr.f0.toNat)
                have HON := Aside0.mk (HO.out.next (a := pr.f0.toNat) (by omega) ha0 ha1)
                have HTY := Aside0.mk (Kd.R_typed hRr)
                have HTY2 := Aside0.mk (Kd.S_typed HX9.out.rows gt rfl)
                have z0 := (blk_cell HPB9.out 0).trans (show _ = some (Value.int .i64 pr.f0) from rfl)
                clear hRr hput hown HO HOM
                have HON : Aside0 (CyOk G (X.set pr.f0.toNat (rd_L3 X (pr.f0.toNat : Nat) ++ [b])) (64 * i + t + 1)) := HON
                have hcr : W9.drew.cell? ⟨gt, pr.f0.toNat, none⟩ = some (.slice Ar (rd_L3 X (pr.f0.toNat : Nat)).length cr) := hcr
                generalize rd_L3 X ((pr.f0.toNat : Nat) : Int) = rx at hcr HRR HPUT HOWN HMX HON HTY
                go_wp2_with (fail)
                refine wp_region_last_drew (S := fun w' => w'.cell? ⟨q, 0, none⟩ = some (.int .i64 pr.f0) ∧ w'.cell? ⟨gt, pr.f0.toNat, none⟩ = some (.slice Ar (rx).length cr)) (ds := [12]) (by kernel_rfl) ⟨z0, hcr⟩ (fun hHeld => ?_)
                refine wpAnyLast_take (i := 0) (oi := ?or0) (v := ?vr0) ?hor0 (by kernel_rfl) (by kernel_rfl) (by kernel_rfl) (by kernel_rfl) (by kernel_rfl) ?hqr0 ?hyr0 (by assumption) ?restr0
                case hor0 => (simp only [List.getElem?_toArray, List.getElem?_cons_zero]; rfl)
                case hqr0 => exact fun _ _ _ h => h
                case hyr0 => (refine Or.inl ⟨by rfl, ?_⟩; intro w0 hSw; (try dsimp only at hSw); go_simp; try with_reducible rfl)
                try simp only [Act.put, List.setIfInBounds_toArray, List.set_cons_zero, List.set_cons_succ]
                refine wpAnyLast_take (i := 1) (oi := ?or1) (v := ?vr1) ?hor1 (by kernel_rfl) (by kernel_rfl) (by kernel_rfl) (by kernel_rfl) (by kernel_rfl) ?hqr1 ?hyr1 (by assumption) ?restr1
                case hor1 => (simp only [List.getElem?_toArray, List.getElem?_cons_succ, List.getElem?_cons_zero]; rfl)
                case hqr1 => exact fun _ _ _ h => h
                case hyr1 => (refine Or.inl ⟨by rfl, ?_⟩; intro w0 hSw; (try dsimp only at hSw); go_simp; try with_reducible rfl)
                try simp only [Act.put, List.setIfInBounds_toArray, List.set_cons_zero, List.set_cons_succ]
                refine wpAnyLast_take (i := 2) (oi := ?or2) (v := ?vr2) ?hor2 (by kernel_rfl) (by kernel_rfl) (by kernel_rfl) (by kernel_rfl) (by kernel_rfl) ?hqr2 ?hyr2 (by assumption) ?restr2
                case hor2 => (simp only [List.getElem?_toArray, List.getElem?_cons_succ, List.getElem?_cons_zero]; rfl)
                case hqr2 => exact fun _ _ _ h => h
                case hyr2 => (refine Or.inl ⟨by rfl, ?_⟩; intro w0 hSw; (try dsimp only at hSw); go_simp; try with_reducible rfl)
                try simp only [Act.put, List.setIfInBounds_toArray, List.set_cons_zero, List.set_cons_succ]
                refine wpAnyLast_take (i := 3) (oi := ?or3) (v := ?vr3) ?hor3 (by kernel_rfl) (by kernel_rfl) (by kernel_rfl) (by kernel_rfl) (by kernel_rfl) ?hqr3 ?hyr3 (by assumption) ?restr3
                case hor3 => (simp only [List.getElem?_toArray, List.getElem?_cons_succ, List.getElem?_cons_zero]; rfl)
                case hqr3 => exact fun _ _ _ h => h
                case hyr3 => (refine Or.inl ⟨by rfl, ?_⟩; intro w0 hSw; (try dsimp only at hSw); go_simp; try with_reducible rfl)
                try simp only [Act.put, List.setIfInBounds_toArray, List.set_cons_zero, List.set_cons_succ]
                refine wpAnyLast_take (i := 4) (oi := ?or4) (v := ?vr4) ?hor4 (by kernel_rfl) (by kernel_rfl) (by kernel_rfl) (by kernel_rfl) (by kernel_rfl) ?hqr4 ?hyr4 (by assumption) ?restr4
                case hor4 => (simp only [List.getElem?_toArray, List.getElem?_cons_succ, List.getElem?_cons_zero]; rfl)
                case hqr4 => exact fun _ _ _ h => h
                case hyr4 => (refine Or.inl ⟨by rfl, ?_⟩; intro w0 hSw; (try dsimp only at hSw); go_simp; try with_reducible rfl)
                try simp only [Act.put, List.setIfInBounds_toArray, List.set_cons_zero, List.set_cons_succ]
                refine wpAnyLast_take (i := 5) (oi := ?or5) (v := ?vr5) ?hor5 (by kernel_rfl) (by kernel_rfl) (by kernel_rfl) (by kernel_rfl) (by kernel_rfl) ?hqr5 ?hyr5 (by assumption) ?restr5
                case hor5 => (simp only [List.getElem?_toArray, List.getElem?_cons_succ, List.getElem?_cons_zero]; rfl)
                case hqr5 => exact fun _ _ _ h => h
                case hyr5 => (refine Or.inl ⟨by rfl, ?_⟩; intro w0 hSw; (try dsimp only at hSw); go_simp; try with_reducible rfl)
                try simp only [Act.put, List.setIfInBounds_toArray, List.set_cons_zero, List.set_cons_succ]
                refine wpAnyLast_take (i := 6) (oi := ?or6) (v := ?vr6) ?hor6 (by kernel_rfl) (by kernel_rfl) (by kernel_rfl) (by kernel_rfl) (by kernel_rfl) ?hqr6 ?hyr6 (by assumption) ?restr6
                case hor6 => (simp only [List.getElem?_toArray, List.getElem?_cons_succ, List.getElem?_cons_zero]; rfl)
                case hqr6 => exact fun _ _ _ h => h
                case hyr6 => (refine Or.inl ⟨by rfl, ?_⟩; intro w0 hSw; (try dsimp only at hSw); go_simp; try with_reducible rfl)
                try simp only [Act.put, List.setIfInBounds_toArray, List.set_cons_zero, List.set_cons_succ]
                refine wpAnyLast_take (i := 7) (oi := ?or7) (v := ?vr7) ?hor7 (by kernel_rfl) (by kernel_rfl) (by kernel_rfl) (by kernel_rfl) (by kernel_rfl) ?hqr7 ?hyr7 (by assumption) ?restr7
                case hor7 => (simp only [List.getElem?_toArray, List.getElem?_cons_succ, List.getElem?_cons_zero]; rfl)
                case hqr7 => exact fun _ _ _ h => h
                case hyr7 => (refine Or.inl ⟨by rfl, ?_⟩; intro w0 hSw; (try dsimp only at hSw); go_simp; try with_reducible rfl)
                try simp only [Act.put, List.setIfInBounds_toArray, List.set_cons_zero, List.set_cons_succ]
                refine wpAnyLast_take (i := 8) (oi := ?or8) (v := ?vr8) ?hor8 (by kernel_rfl) (by kernel_rfl) (by kernel_rfl) (by kernel_rfl) (by kernel_rfl) ?hqr8 ?hyr8 (by assumption) ?restr8
                case hor8 => (simp only [List.getElem?_toArray, List.getElem?_cons_succ, List.getElem?_cons_zero]; rfl)
                case hqr8 => exact fun _ _ _ h => h
                case hyr8 => (refine Or.inl ⟨by rfl, ?_⟩; intro w0 hSw; (try dsimp only at hSw); go_simp; try with_reducible rfl)
                try simp only [Act.put, List.setIfInBounds_toArray, List.set_cons_zero, List.set_cons_succ]
                refine wpAnyLast_ready (rs := [9]) (by kernel_rfl) (by simp) ?_
                refine AllReadyL.cons (o := ?or9) ?hor9 (by decide) ?hsr9 AllReadyL.nil
                case hor9 => (simp only [List.getElem?_toArray, List.getElem?_cons_succ, List.getElem?_cons_zero]; rfl)
                intro K hK
                go_simp
                refine hK.out _ _ ⟨((Fr.refl (fun _ => False) _).alloc _).cell z0 id, ((Fr.refl (fun _ => False) _).alloc _).cell hcr id⟩ (fun hHeld => ?_)
                clear hK K
                try simp only [Act.put, List.setIfInBounds_toArray, List.set_cons_zero, List.set_cons_succ]
                refine wpAnyLast_ready (rs := [10]) (by kernel_rfl) (by simp) ?_
                refine AllReadyL.cons (o := ?or10) ?hor10 (by decide) ?hsr10 AllReadyL.nil
                case hor10 => (simp only [List.getElem?_toArray, List.getElem?_cons_succ, List.getElem?_cons_zero]; rfl)
                intro K hK
                refine Kd.R_append_step kI (w0 := W9.drew) (W := W9.drew) (w.heap.size + 1) (by rfl) (.tmp 66) (.tmp 68) 27 3 (.int .i64 0) 8 rfl Try.underlying27 info3 rfl (by decide) (by omega) _ (rx) b [.int .i64 b] (fun k => oki k ∨ W9.drew.heap.size ≤ k) (fun _ => False) rfl rfl rfl (fun _ hk => hk.elim) (fun _ hk => Or.inr hk) HRR.out (Below.refl _ _) hbs (by have := HMX.out; omega) ?_
                intro v10 W10 hv10 hb10 hg10 hat10
                obtain ⟨A10, k10, rfl⟩ := Kd.R_slice hv10
                rw [show (rx ++ [b]).length = rx.length + 1 by simp] at hv10
                have HF10 := Aside0.mk (show Fr (fun k => (Value.slice Ar (rx).length cr).ownBlock = some k) W9.drew W10 from ⟨hg10.os, hg10.tape, hg10.output, hg10.size, fun i hi hn => hg10.block i hi (fun e => hn e.symm)⟩)
                have hneq : ¬ (Value.slice Ar (rx).length cr).ownBlock = some q := fun e => by
                  obtain ⟨cc, hcc⟩ := HTY.out q e
                  exact absurd rfl (typed_ne hcc HPB9.out (by decide))
                have hneg : ¬ (Value.slice Ar (rx).length cr).ownBlock = some gt := fun e => (HOWN.out gt e).1 rfl
                have hc10 := HF10.out.cell hcr hneg
                have hf10 : W10.frozen? ⟨gt, pr.f0.toNat, none⟩ = false := (World.frozen?_of_block (HF10.out.block gt hgtl hneg)).trans hfr
                have hz10 := HF10.out.cell z0 hneq
                have HX11 := Aside0.mk (HX9.out.put hg10 (fun k hk => (HOWN.out k hk).2) (HPUT.out W10 (.slice A10 (rx.length + 1) k10) b hv10 hg10))
                have HPB11 := Aside0.mk (((Fr.refl (fun k => k = gt) W10).set (g := gt) (o := pr.f0.toNat) (.slice A10 (rx.length + 1) k10) (fun _ => rfl)).blk (HF10.out.blk HPB9.out hneq) (fun e => by
                  obtain ⟨cc, hcc⟩ := HTY2.out
                  exact typed_ne hcc HPB9.out (by decide) e.symm))
                clear hv10 hb10 hg10 hat10
                refine hK.out _ _ ⟨hz10, hc10⟩ (fun hHeld => ?_)
                clear hK K
                try simp only [Act.put, List.setIfInBounds_toArray, List.set_cons_zero, List.set_cons_succ]
                refine wpAnyLast_take (i := 11) (oi := ?or11) (v := ?vr11) ?hor11 (by kernel_rfl) (by kernel_rfl) (by kernel_rfl) (by kernel_rfl) (by kernel_rfl) ?hqr11 ?hyr11 (by assumption) ?restr11
                case hor11 => (simp only [List.getElem?_toArray, List.getElem?_cons_succ, List.getElem?_cons_zero]; rfl)
                case hqr11 => exact fun _ _ _ h => h
                case hyr11 => (refine Or.inl ⟨by rfl, ?_⟩; intro w0 hSw; (try dsimp only at hSw); go_simp; try with_reducible rfl)
                try simp only [Act.put, List.setIfInBounds_toArray, List.set_cons_zero, List.set_cons_succ]
                refine wpAnyLast_ready (rs := [12]) (by kernel_rfl) (by simp) ?_
                refine AllReadyL.cons_last (o := ?or12) ?hor12 (by decide) ?hsr12 AllReadyL.nil
                case hor12 => (simp only [List.getElem?_toArray, List.getElem?_cons_succ, List.getElem?_cons_zero]; rfl)
                intro K hK
                go_simp
                refine hK.out _ _ ?_
                clear hK K
                try simp only [Act.put, List.setIfInBounds_toArray, List.set_cons_zero, List.set_cons_succ]
                refine wpAnyLast_done (by kernel_rfl) ?_ _
                go_wp2_with (fail)
                exact ⟨⟨t + 1, _, by go_num, HTL.out, HX11, HON, HPB11⟩, by have := HTL.out; simp [intOf]; omega⟩
        · obtain rfl : t = pr.f1.length := by omega
          have HOM := Aside0.mk (HO.out.more (show 64 * i + pr.f1.length ≤ 64 * (i + 1) by omega))
          go_wp2_with (fail)
          exact ⟨⟨i + 1, X, by go_num, HLT.out, HX, HOM⟩, by have := HLT.out; simp [intOf]; omega⟩
    · obtain rfl : i = G.prods.length := by omega
      have HO2 := Aside0.mk (HO.out.more (show 64 * G.prods.length ≤ 262144 by omega))
      clear HO
      obtain ⟨e0, e1, e2, e3, e4⟩ := HX.out.chk.cells
      have hwr1 : w.heap.size + 1 ≤ wr.heap.size := blk_lt HX.out.chk.box
      go_upto_region 14 with (at_make; refine Kd.R_make kB (w0 := wr) wr.heap.size 4 rfl (N := 76) rfl 36 _ _ rfl (G.rules.length : Int) rfl rfl Try.underlying36 (.bool false) 1 info4 rfl (by decide) (by omega) false (ok := fun _ => True) (okp := fun _ => True) rfl (fun _ hk => hk) trivial (by omega) (by omega) (Below.refl _ _) (Nat.le_refl _) ?_; intro v2 W2 h2 hB2 hg2 hb2; have HX2 := Aside0.mk (HX.out.go (Fr.of_below hB2)); have HR2 := Aside0.mk (show kB.R 4 W2 (w.heap.size + 1) (fun _ => True) v2 (List.replicate G.rules.length false) by have := Kd.R_lower h2 hwr1; simpa using this); clear h2 hB2 hg2)
      obtain ⟨go, co, rfl⟩ := marks_form HR2.out (by simp; exact hR1)
      simp only [List.length_replicate] at HR2 hb2 ⊢
      have HR2 := Aside0.mk (show kB.R 4 W2 (w.heap.size + 1) (fun k => k = go) (.slice (some ⟨go, 0, none⟩) G.rules.length co) (List.replicate G.rules.length false) from Kd.R_mono (Kd.R_tight rfl HR2.out) (fun k hk => by injection hk))
      clear HX hb2 e0 e1 e2 e3 e4
      go_wp2_with (fail)
      go_loopw [79] (fun a W => ∃ (i : Nat) (O : List Bool), a = .int .i64 i ∧ i ≤ G.rules.length ∧ Aside0 (CY w W G A0 A1 A2 A3 c0 c1 c2 c3 gt capt (fun _ => True) X) ∧ Aside0 (kB.R 4 W (w.heap.size + 1) (fun k => k = go) (.slice (some ⟨go, 0, none⟩) G.rules.length co) O)) (fun a _ => G.rules.length - (intOf a).toNat)
      case atStart => exact ⟨0, _, rfl, Nat.zero_le _, HX2, HR2⟩
      case round =>
        clear HX2 HR2 hwr1
        obtain ⟨i, O, rfl, hi, HX, HR⟩ := hrel
        by_cases hlt : i < G.rules.length
        · have HLT := Aside0.mk hlt
          have hwr1 : w.heap.size + 1 ≤ wr.heap.size := blk_lt HX.out.chk.box
          obtain ⟨e0, e1, e2, e3, e4⟩ := HX.out.chk.cells
          have hgo : go < wr.heap.size := Kd.R_lt HR.out go rfl
          go_upto_region 18 with (at_make; refine Kd.R_make kB (w0 := wr) wr.heap.size 4 rfl (N := 85) rfl 36 _ _ rfl (G.rules.length : Int) rfl rfl Try.underlying36 (.bool false) 1 info4 rfl (by decide) (by omega) false (ok := fun _ => True) (okp := fun _ => True) rfl (fun _ hk => hk) trivial (by omega) (by omega) (Below.refl _ _) (Nat.le_refl _) ?_; intro v3 W3 h3 hB3 hg3 hb3; have HX3 := Aside0.mk (HX.out.go (Fr.of_below hB3)); have HR3 := Aside0.mk (Kd.R_below HR.out hB3); have HM3 := Aside0.mk (show kB.R 4 W3 wr.heap.size (fun _ => True) v3 (List.replicate G.rules.length false) by simpa using h3); clear h3 hB3 hg3)
          obtain ⟨gm, cm, rfl⟩ := marks_form HM3.out (by simp; exact hR1)
          simp only [List.length_replicate] at HM3 hb3 ⊢
          have hgm : wr.heap.size ≤ gm := Kd.R_base HM3.out gm rfl
          have HM4 := Aside0.mk (show kB.R 4 W3 (w.heap.size + 1) (fun k => k = gm) (.slice (some ⟨gm, 0, none⟩) G.rules.length cm) (List.replicate G.rules.length false) from Kd.R_mono (Kd.R_tight rfl (Kd.R_lower HM3.out hwr1)) (fun k hk => by injection hk))
          have hw3 : w.heap.size + 1 ≤ W3.heap.size := blk_lt HX3.out.chk.box
          have HD0 := Aside0.mk (show DF w W3 G A0 A1 A2 A3 c0 c1 c2 c3 gt capt W3.heap.size go co gm cm X O (List.replicate G.rules.length false) (.slice none 0 0) [] from ⟨⟨HX3.out.chk, Kd.S_mono (Kd.S_bound HX3.out.rows) (fun k hk => hk.2.2.1)⟩, HR3.out, HM4.out, by omega, Kd.R_nil _ _ _ _ _, hw3⟩)
          clear HX HR HX3 HR3 HM3 HM4 hb3 e0 e1 e2 e3 e4
          obtain ⟨-, -, hCX⟩ := Kd.S_reads' HD0.out.cy.rows
          obtain ⟨adx, Ax, cx, eax, hcx, hlx, hCr⟩ := at_L3 hCX (i : Int) (by omega) (by rw [HO2.out.len]; omega)
          injection eax with eax
          subst eax
          rw [add_plain] at hcx
          simp only [Int.toNat_natCast] at hcx
          have HCR := Aside0.mk hCr
          have HMX := Aside0.mk (HO2.out.max i)
          clear hCX hCr
          go_wp2_with (first | ((with_reducible refine gate_builtin (b := .append) (xs := #[.const (.slice none 0 0), .tmp 89]) rfl ?_); at_builtin; refine Kd.R_append_rows kI (w0 := W3) W3.heap.size rfl (.const (.slice none 0 0)) (.tmp 89) 27 3 (.int .i64 0) 8 rfl Try.underlying27 info3 rfl (by decide) (by omega) (.slice none 0 0) [] (rd_L3 X (i : Int)) _ _ _ (fun _ => True) (fun _ => False) rfl rfl (Kd.R_nil _ _ _ _ _) HCR.out (fun _ _ h => h) (fun _ h => h.elim) (fun _ _ => trivial) (Below.refl _ _) (Nat.le_refl _) (by have := HMX.out; simp only [List.length_nil]; omega) ?_; intro v4 W4 h4 hb4 hg4 hat4; have HD4 := Aside0.mk (HD0.out.push hg4 (show kI.R 3 W4 W3.heap.size (fun _ => True) v4 (rd_L3 X (i : Int)) by simpa using h4)); clear h4 hb4 hg4 hat4))
          have HLM := Aside0.mk (HO2.out.mem i)
          clear HD0 HCR hcx
          generalize W3.heap.size = n at HD4
          go_loopg [14] (G.rules.length * 262145 + 262144) (fun k a W => ∃ (M : List Bool) (l : List Int), M.count false * 262145 + l.length ≤ k ∧ k ≤ 2048 * 262145 + 262144 ∧ M.length = G.rules.length ∧ Aside0 (DF w W G A0 A1 A2 A3 c0 c1 c2 c3 gt capt n go co gm cm X O M a l) ∧ Aside0 (∀ b, b ∈ l → 0 ≤ b ∧ b < G.rules.length))
          case atStart => exact ⟨_, _, by have := HMX.out; simp; omega, by omega, by simp, HD4, HLM⟩
          case round =>
            clear HD4 HLM HMX
            obtain ⟨M, l, hk, hkk, hml, HD, HLM⟩ := hrel
            by_cases hnil : l = []
            · subst hnil
              obtain ⟨A, c, rfl⟩ := Kd.R_slice HD.out.stk
              simp only [List.length_nil]
              obtain ⟨hm1, hm2⟩ := marks_at HD.out.met (i := (i : Int)) (by omega) (by omega)
              obtain ⟨ho1, ho2⟩ := marks_at HD.out.out (i := (i : Int)) (by omega) (by omega)
              simp only [Int.toNat_natCast] at hm1 hm2 ho1 ho2
              have HFo := Aside0.mk (show Fr (fun k => k = go) wr (wr.setCell ⟨go, i, none⟩ (.bool (rdOf false M (i : Int)))) from (Fr.refl (fun k => k = go) wr).set (g := go) (o := i) _ (fun _ => rfl))
              have hgo2 := Kd.R_base HD.out.out go rfl
              obtain ⟨cc, hcc⟩ := Kd.R_typed HD.out.out go rfl
              have HXE := Aside0.mk (show CY w (wr.setCell ⟨go, i, none⟩ (.bool (rdOf false M (i : Int)))) G A0 A1 A2 A3 c0 c1 c2 c3 gt capt (fun _ => True) X from ⟨⟨HFo.out.blk HD.out.cy.chk.box (by omega), HD.out.cy.chk.fr.trans HFo.out (fun k hk e => by omega)⟩, Kd.S_mono (Kd.S_set HD.out.cy.rows hcc (by decide) i _) (fun _ _ => trivial)⟩)
              have HRE := Aside0.mk (Kd.R_putn HD.out.out (i : Int) (rdOf false M (i : Int)))
              simp only [Int.toNat_natCast] at HRE
              clear hcc HFo
              go_wp2_with (fail)
              exact ⟨⟨i + 1, _, by go_num, HLT.out, HXE, HRE⟩, by have := HLT.out; simp [intOf]; omega⟩
            · obtain ⟨ad, c, n1, b, l', rfl, hn1, hpos, hx, rfl, hcut, hR'⟩ := stack_pop HD.out.stk hnil
              have hn2 : (l' ++ [b]).length = l'.length + 1 := by simp
              have hwr2 : IntKind.i64.wrap ((n1 : Int) - 1) = (n1 : Int) - 1 := by rw [i64_w]; simp only [wrap64]; omega
              obtain ⟨hb0, hb1⟩ := HLM.out b (by simp)
              have HLM' := Aside0.mk (show ∀ y, y ∈ l' → 0 ≤ y ∧ y < G.rules.length from fun y hy => HLM.out y (List.mem_append_left _ hy))
              have HD' := Aside0.mk (show DF w wr G A0 A1 A2 A3 c0 c1 c2 c3 gt capt n go co gm cm X O M (.slice (some ad) (n1 - 1) c) l' from ⟨HD.out.cy, HD.out.out, HD.out.met, HD.out.ne, hR', HD.out.lo⟩)
              obtain ⟨hm1, hm2⟩ := marks_at HD.out.met hb0 hb1
              have hpos2 : (0 : Int) < (n1 : Int) := by omega
              have hpos3 : (0 : Int) ≤ (n1 : Int) - 1 := by omega
              have HN1 := Aside0.mk (show n1 = l'.length + 1 by omega)
              have hnb1 : n1 ≤ 600000000 := by omega
              have hk1 : M.count false * 262145 + n1 ≤ gk := by omega
              clear hR' hnil HD HLM hn1 hn2 hk
              cases hmb : rdOf false M b with
              | true =>
                rw [hmb] at hm1
                go_wp2_with (fail)
                go_roundg (gk - 1)
                case measure => omega
                case rel => exact ⟨M, l', by have := HN1.out; omega, by omega, hml, HD', HLM'⟩
              | false =>
                rw [hmb] at hm1
                have hcnt := set_falses (l := M) (k := b.toNat) (by omega) (by rw [Int.toNat_of_nonneg hb0]; exact hmb)
                have HD2 := Aside0.mk (HD'.out.mark b)
                obtain ⟨-, -, hCX⟩ := Kd.S_reads' HD2.out.cy.rows
                obtain ⟨adx, Ax, cx, eax, hcx, hlx, hCr⟩ := at_L3 hCX b hb0 (by rw [HO2.out.len]; omega)
                injection eax with eax
                subst eax
                rw [add_plain] at hcx
                have HCR := Aside0.mk hCr
                have hmx : (rd_L3 X b).length ≤ 262144 := by have := HO2.out.max b.toNat; rwa [Int.toNat_of_nonneg hb0] at this
                have HMB := Aside0.mk (show ∀ y, y ∈ rd_L3 X b → 0 ≤ y ∧ y < G.rules.length by have := HO2.out.mem b.toNat; rwa [Int.toNat_of_nonneg hb0] at this)
                have hnb : n ≤ (wr.setCell ⟨gm, b.toNat, none⟩ (.bool true)).heap.size := by
                  have := Kd.R_lt HD2.out.stk ad.block rfl
                  have := Kd.R_base HD2.out.stk ad.block rfl
                  omega
                clear hCX hCr HD'
                go_upto_region 24 with fail
                clear hm1 hm2 hx
                generalize wr.setCell ⟨gm, b.toNat, none⟩ (.bool true) = W5 at HD2 hcx HCR hnb ⊢
                have HK6 := Aside0.mk (df_less hcnt hk1 HN1.out hmx)
                have HL6 := Aside0.mk (show (M.set b.toNat true).length = G.rules.length by rw [List.length_set]; exact hml)
                have hll : l'.length ≤ 2048 * 262145 + 262144 := by have := HN1.out; omega
                go_wp2_with (first | ((with_reducible refine gate_builtin (b := .append) (xs := #[.tmp 113, .tmp 117]) rfl ?_); at_builtin; refine Kd.R_append_rows kI (w0 := W5) n rfl (.tmp 113) (.tmp 117) 27 3 (.int .i64 0) 8 rfl Try.underlying27 info3 rfl (by decide) (by omega) _ l' (rd_L3 X b) _ _ _ (fun _ => True) (fun _ => False) rfl rfl HD2.out.stk HCR.out (fun _ _ h => h) (fun _ h => h.elim) (fun _ _ => trivial) (Below.refl _ _) hnb (by omega) ?_; intro v6 W6 h6 hb6 hg6 hat6; have HD6 := Aside0.mk (HD2.out.push hg6 h6); clear h6 hb6 hg6 hat6))
                have HLM6 := Aside0.mk (show ∀ y, y ∈ l' ++ rd_L3 X b → 0 ≤ y ∧ y < G.rules.length from fun y hy => (List.mem_append.1 hy).elim (HLM'.out y) (HMB.out y))
                go_roundg (gk - 1)
                case measure => omega
                case rel => exact ⟨M.set b.toNat true, _, by rw [List.length_append]; exact HK6.out, by omega, HL6.out, HD6, HLM6⟩
        · obtain rfl : i = G.rules.length := by omega
          have HRF := Aside0.mk (Kd.R_mono HR.out (fun _ _ => trivial : ∀ k, k = go → True))
          have HOL := Aside0.mk (show O.length = G.rules.length from ((Kd.R_reads' HR.out).1).symm)
          go_wp2_with (fail)
          go_ret
          exact ⟨_, O, rfl, HRF.out, HOL.out, HX.out.chk.fr⟩
end Go.Proofs.Ytdngobjcdajogaa.Gram
