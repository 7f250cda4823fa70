/-
The steps to each state: what one step adds (table.edges' inner function, walked).
-/
import Derived.Deep.QuietTactic
import Derived.BigQuiet
import Derived.WalkArith
import Derived.IntWalk
import Derived.Deep.DeepMust
import Derived.Test.YtlpmjmanmncmnaaMAJ
set_option linter.unusedSimpArgs false
set_option linter.unusedVariables false
namespace Go.Proofs.Ytlpmjmanmncmnaa.Tab
open Go.RowKit Go.Maps Go.Proofs.YtlpmjmanmncmnaaW.PrintWords Go.Proofs.YtlpmjmanmncmnaaW.PrintLast Go.Proofs.YtlpmjmanmncmnaaW.PrintMore Go.Proofs.Ytlpmjmanmncmnaa.Fr Go.Proofs.Ytlpmjmanmncmnaa.PT
noncomputable abbrev kE : Kd (List S48) := Kd.slice 136 k48
theorem infoE : (Try.prog.info? 136).map (fun i => (i.zero, i.size, i.bytes)) = some (some (.agg #[(.int .i64 0), (.int .i64 0)]), 2, 16) := by kernel_rfl
theorem typed_ne2 {W : World} {g k t u : Nat} {c1 c2 : Array Value} (h1 : W.heap[g]? = some (.cells c1 t (0, 0))) (h2 : W.heap[k]? = some (.cells c2 u (0, 0))) (h : t ≠ u) : g ≠ k := fun e => by
  subst e
  rw [h1] at h2
  injection h2 with h2
  injection h2 with _ h2
  exact h h2
/-- Row i of rows of one's own, before and behind an append to it. -/
theorem rows_growE {W : World} {base n gb cap i : Nat} {xs : List (List S48)} (h : Kd.S kE 134 W base (fun _ => True) (.slice (some ⟨gb, 0, none⟩) n cap) xs) (hi : i < n) :
    ∃ (A : Option Addr) (c : Nat) (oki : Nat → Prop), W.cell? ⟨gb, i, none⟩ = some (.slice A (rd_L2 xs i).length c) ∧ W.frozen? ⟨gb, i, none⟩ = false ∧ k48.R 136 W base (fun k => oki k ∨ W.heap.size ≤ k) (.slice A (rd_L2 xs i).length c) (rd_L2 xs i) ∧ gb < W.heap.size ∧ (∀ k, (Value.slice A (rd_L2 xs i).length c).ownBlock = some k → k ≠ gb ∧ base ≤ k) ∧
      ∀ (W1 : World) (v1 : Value) (b : S48), k48.R 136 W1 base (fun k => oki k ∨ W.heap.size ≤ k) v1 (rd_L2 xs i ++ [b]) → W.grownBy W1 (Value.slice A (rd_L2 xs i).length c).ownBlock →
        Kd.S kE 134 (W1.setCell ⟨gb, i, none⟩ v1) base (fun _ => True) (.slice (some ⟨gb, 0, none⟩) n cap) (xs.set i (rd_L2 xs i ++ [b])) := by
  have hlt : gb < W.heap.size := Kd.S_lt h gb rfl
  have h1 := Kd.S_mono (Kd.S_bound h) (fun k hk => (⟨trivial, by have := hk.2.2.1; omega⟩ : True ∧ ¬ W.heap.size ≤ k))
  obtain ⟨oki, c, _, hM, hcc, hfr, hok, hH⟩ := Kd.S_elem h1 [] (i : Int) (by omega) (by omega)
  obtain ⟨ve, rfl, hR⟩ := hM
  have e1 : xs.getD (i : Int).toNat [] = rd_L2 xs i := rfl
  rw [e1] at hR
  obtain ⟨A, k, rfl⟩ := Kd.R_slice hR
  have h2 := hcc 0 _ rfl
  have h3 := hfr 0
  simp only [show kE.sz = 1 from rfl, Nat.mul_one, Nat.add_zero, Int.toNat_natCast] at h2 h3
  refine ⟨A, k, oki, h2, h3, Kd.R_mono hR (fun k hk => .inl hk), hlt, fun k hk => ⟨(hok k (hR.1 k hk)).2, Kd.R_base hR k hk⟩, fun W1 v1 b hv hg => ?_⟩
  have hH1 := Kd.H_grown hH hg (fun k hk => hR.1 k hk)
  have hp := Kd.S_seg (okg := fun k => W.heap.size ≤ k) (okp := fun k => oki k ∨ W.heap.size ≤ k) hH1 (by omega) (by omega) (seg := [v1]) (j := 0) (show 1 ≤ 1 from Nat.le_refl 1) (x' := rd_L2 xs i ++ [b]) (Kd.M_row hv) (fun k hk => hk) (fun k hk => ⟨trivial, by omega⟩)
  simp only [show kE.sz = 1 from rfl, Nat.mul_one, Nat.add_zero, Int.toNat_natCast] at hp
  exact hp.1
/-- What edges keeps while it goes on: the cells of its four variables, and what they hold. -/
structure EdS (W : World) (base ui us um ut gi ci gm cm n : Nat) (s : Int) (IN : List (List S48)) (ME : List Bool) (vt : Value) (TD : List Int) : Prop where
  bi : W.heap[ui]? = some (.cells #[.slice (some ⟨gi, 0, none⟩) n ci] 105 (0, 0))
  bs : W.heap[us]? = some (.cells #[.int .i64 s] 3 (0, 0))
  bm : W.heap[um]? = some (.cells #[.slice (some ⟨gm, 0, none⟩) n cm] 106 (0, 0))
  bt : W.heap[ut]? = some (.cells #[vt] 39 (0, 0))
  rin : Kd.S kE 134 W base (fun _ => True) (.slice (some ⟨gi, 0, none⟩) n ci) IN
  rme : Kd.bool.R 4 W base (fun _ => True) (.slice (some ⟨gm, 0, none⟩) n cm) ME
  rtd : (Kd.int .i64).R 3 W base (fun k => k ≠ us) vt TD
  li : base ≤ ui
  lm : base ≤ um
  lt : base ≤ ut
theorem EdS.fr {W W1 : World} {base ui us um ut gi ci gm cm n : Nat} {s : Int} {IN : List (List S48)} {ME : List Bool} {vt : Value} {TD : List Int} (h : EdS W base ui us um ut gi ci gm cm n s IN ME vt TD) (hF : Fr (fun _ => False) W W1) : EdS W1 base ui us um ut gi ci gm cm n s IN ME vt TD :=
  ⟨hF.blk h.bi id, hF.blk h.bs id, hF.blk h.bm id, hF.blk h.bt id, Kd.S_below h.rin hF.to_below, hF.R h.rme (fun _ _ => id), hF.R h.rtd (fun _ _ => id), h.li, h.lm, h.lt⟩
theorem EdS.len {W : World} {base ui us um ut gi ci gm cm n : Nat} {s : Int} {IN : List (List S48)} {ME : List Bool} {vt : Value} {TD : List Int} (h : EdS W base ui us um ut gi ci gm cm n s IN ME vt TD) : IN.length = n ∧ ME.length = n := ⟨(Kd.S_reads' h.rin).1.symm, (Kd.R_reads' h.rme).1.symm⟩
theorem neI : ∀ q, q ∈ 3 :: (Kd.int .i64).E → q ≠ 136 := (show ∀ q, q ∈ [3] → q ≠ 136 by decide)
theorem neB : ∀ q, q ∈ 4 :: Kd.bool.E → q ≠ 136 := (show ∀ q, q ∈ [4] → q ≠ 136 by decide)
theorem neI2 : ∀ q, q ∈ 3 :: (Kd.int .i64).E → q ≠ 134 := (show ∀ q, q ∈ [3] → q ≠ 134 by decide)
theorem neB2 : ∀ q, q ∈ 4 :: Kd.bool.E → q ≠ 134 := (show ∀ q, q ∈ [4] → q ≠ 134 by decide)
theorem neE3 : ∀ q, q ∈ 134 :: kE.E → q ≠ 3 := (show ∀ q, q ∈ [134, 136] → q ≠ 3 by decide)
theorem neB3 : ∀ q, q ∈ 4 :: Kd.bool.E → q ≠ 3 := (show ∀ q, q ∈ [4] → q ≠ 3 by decide)
theorem neE4 : ∀ q, q ∈ 134 :: kE.E → q ≠ 4 := (show ∀ q, q ∈ [134, 136] → q ≠ 4 by decide)
theorem neI4 : ∀ q, q ∈ 3 :: (Kd.int .i64).E → q ≠ 4 := (show ∀ q, q ∈ [3] → q ≠ 4 by decide)
theorem neE5 : ∀ q, q ∈ 134 :: kE.E → q ≠ 39 := (show ∀ q, q ∈ [134, 136] → q ≠ 39 by decide)
theorem neB5 : ∀ q, q ∈ 4 :: Kd.bool.E → q ≠ 39 := (show ∀ q, q ∈ [4] → q ≠ 39 by decide)
theorem neI5 : ∀ q, q ∈ 3 :: (Kd.int .i64).E → q ≠ 39 := (show ∀ q, q ∈ [3] → q ≠ 39 by decide)
section
variable {W W1 : World} {base ui us um ut gi ci gm cm n : Nat} {s : Int} {IN : List (List S48)} {ME : List Bool} {vt : Value} {TD : List Int}
/-- An edge has come to the row of state i. -/
theorem EdS.edge (h : EdS W base ui us um ut gi ci gm cm n s IN ME vt TD) {A : Option Addr} {c i : Nat} {oki : Nat → Prop} {row : List S48} {v1 : Value} {IN1 : List (List S48)} (hr : k48.R 136 W base oki (.slice A row.length c) row) (hg : W.grownBy W1 (Value.slice A row.length c).ownBlock)
    (hS : Kd.S kE 134 (W1.setCell ⟨gi, i, none⟩ v1) base (fun _ => True) (.slice (some ⟨gi, 0, none⟩) n ci) IN1) : EdS (W1.setCell ⟨gi, i, none⟩ v1) base ui us um ut gi ci gm cm n s IN1 ME vt TD ∧ Fr (fun k => base ≤ k) W (W1.setCell ⟨gi, i, none⟩ v1) := by
  obtain ⟨cells, hgc⟩ := Kd.S_typed h.rin gi rfl
  have hgi : base ≤ gi := Kd.S_base h.rin gi rfl
  have ei : some ui ≠ (Value.slice A row.length c).ownBlock := Kd.R_ne hr h.bi (by decide)
  have es : some us ≠ (Value.slice A row.length c).ownBlock := Kd.R_ne hr h.bs (by decide)
  have em : some um ≠ (Value.slice A row.length c).ownBlock := Kd.R_ne hr h.bm (by decide)
  have et : some ut ≠ (Value.slice A row.length c).ownBlock := Kd.R_ne hr h.bt (by decide)
  have eg : some gi ≠ (Value.slice A row.length c).ownBlock := Kd.R_ne hr hgc (by decide)
  have hgc1 := blk_grown hgc hg eg
  refine ⟨⟨blk_far (blk_grown h.bi hg ei) (typed_ne2 h.bi hgc (by decide)) v1, blk_far (blk_grown h.bs hg es) (typed_ne2 h.bs hgc (by decide)) v1, blk_far (blk_grown h.bm hg em) (typed_ne2 h.bm hgc (by decide)) v1, blk_far (blk_grown h.bt hg et) (typed_ne2 h.bt hgc (by decide)) v1, hS, Kd.R_set (Kd.R_over h.rme hr neB hg) hgc1 neB2 i v1, Kd.R_set (Kd.R_over h.rtd hr neI hg) hgc1 neI2 i v1, h.li, h.lm, h.lt⟩, ?_⟩
  exact ((Fr.refl (fun k => base ≤ k) W).grown hg (fun k hk _ => Kd.R_base hr k hk)).set v1 (fun _ => hgi)
/-- A state is met. -/
theorem EdS.meet (h : EdS W base ui us um ut gi ci gm cm n s IN ME vt TD) {i : Nat} (hi : i < n) : EdS (W.setCell ⟨gm, i, none⟩ (.bool true)) base ui us um ut gi ci gm cm n s IN (ME.set i true) vt TD ∧ Fr (fun k => base ≤ k) W (W.setCell ⟨gm, i, none⟩ (.bool true)) := by
  obtain ⟨cells, hgc⟩ := Kd.R_typed h.rme gm rfl
  have hgm : base ≤ gm := Kd.R_base h.rme gm rfl
  have hp := (Kd.R_putg h.rme (i : Int) true).1
  simp only [Int.toNat_natCast] at hp
  exact ⟨⟨blk_far h.bi (typed_ne2 h.bi hgc (by decide)) _, blk_far h.bs (typed_ne2 h.bs hgc (by decide)) _, blk_far h.bm (typed_ne2 h.bm hgc (by decide)) _, blk_far h.bt (typed_ne2 h.bt hgc (by decide)) _, Kd.S_set h.rin hgc neE4 i _, hp, Kd.R_set h.rtd hgc neI4 i _, h.li, h.lm, h.lt⟩, (Fr.refl (fun k => base ≤ k) W).set _ (fun _ => hgm)⟩
/-- A state is to be gone on from. -/
theorem EdS.push (h : EdS W base ui us um ut gi ci gm cm n s IN ME vt TD) {v1 : Value} {TD1 : List Int} (hg : W.grownBy W1 vt.ownBlock) (h1 : (Kd.int .i64).R 3 W1 base (fun k => k ≠ us) v1 TD1) : EdS (W1.setCell ⟨ut, 0, none⟩ v1) base ui us um ut gi ci gm cm n s IN ME v1 TD1 ∧ Fr (fun k => base ≤ k) W (W1.setCell ⟨ut, 0, none⟩ v1) := by
  have ei : some ui ≠ vt.ownBlock := Kd.R_ne h.rtd h.bi (by decide)
  have es : some us ≠ vt.ownBlock := fun e => h.rtd.1 us e.symm rfl
  have em : some um ≠ vt.ownBlock := Kd.R_ne h.rtd h.bm (by decide)
  have et : some ut ≠ vt.ownBlock := Kd.R_ne h.rtd h.bt (by decide)
  have hbt := blk_grown h.bt hg et
  refine ⟨⟨blk_far (blk_grown h.bi hg ei) (typed_ne2 h.bi h.bt (by decide)) v1, blk_far (blk_grown h.bs hg es) (typed_ne2 h.bs h.bt (by decide)) v1, blk_far (blk_grown h.bm hg em) (typed_ne2 h.bm h.bt (by decide)) v1, blk_put hbt 0 v1 rfl, Kd.S_set (Kd.S_over' h.rin (Kd.R_typed h.rtd) neE3 hg) hbt neE5 0 v1, Kd.R_set (Kd.R_over h.rme h.rtd neB3 hg) hbt neB5 0 v1, Kd.R_set h1 hbt neI5 0 v1, h.li, h.lm, h.lt⟩, ?_⟩
  exact ((Fr.refl (fun k => base ≤ k) W).grown hg (fun k hk _ => Kd.R_base h.rtd k hk)).set v1 (fun _ => h.lt)
end
def StepPost (W : World) (base ui us um ut gi ci gm cm n : Nat) (s y : Int) (q : Nat) (IN : List (List S48)) (ME : List Bool) (TD : List Int) (e : Ending) (W' : World) : Prop :=
  e = .returned (.tuple #[]) ∧ Fr (fun k => base ≤ k) W W' ∧ ∃ vt, EdS W' base ui us um ut gi ci gm cm n s (IN.set q (rd_L2 IN q ++ [⟨s, y⟩])) (if rdOf false ME q = true then ME else ME.set q true) vt (if rdOf false ME q = true then TD else TD ++ [(q : Int)])
set_option maxHeartbeats 8000000 in
set_option maxRecDepth 100000 in
theorem step_calls (W : World) (base ui us um ut gi ci gm cm n : Nat) (s y : Int) (q : Nat) (IN : List (List S48)) (ME : List Bool) (vt : Value) (TD : List Int) (h : EdS W base ui us um ut gi ci gm cm n s IN ME vt TD) (hq : q < n) (hb : base ≤ W.heap.size) (hrow : (rd_L2 IN q).length ≤ 8796093022206) (htd : TD.length ≤ 8796093022206) :
    Calls Try.prog 63 #[.int .i64 y, .int .i64 q, .pointer (some ⟨ui, 0, none⟩), .pointer (some ⟨us, 0, none⟩), .pointer (some ⟨um, 0, none⟩), .pointer (some ⟨ut, 0, none⟩)] W (StepPost W base ui us um ut gi ci gm cm n s y q IN ME TD) := by
  have HE := Aside0.mk h
  have hnm : n ≤ 9223372036854775807 := by
    have h1 := (Kd.S_reads' h.rin).2.2
    have h2 := Kd.C_max h1
    have h3 := (Kd.S_reads' h.rin).1
    omega
  clear h
  go_enter Try.func63, Try.ntmps63
  go_upto_region 0 with (fail)
  have HFd := Aside0.mk ((Fr.refl (fun k => base ≤ k) W).drew)
  have HEd := Aside0.mk (HE.out.fr ((Fr.refl (fun _ => False) W).drew))
  have hbd : base ≤ W.drew.heap.size := hb
  obtain ⟨A, c, oki, hcell, hfz, hR, hgl, hown, hput⟩ := rows_growE HEd.out.rin hq
  have k0 := (blk_cell HEd.out.bi 0).trans (show _ = some (Value.slice (some ⟨gi, 0, none⟩) n ci) from rfl)
  have k1 := (blk_cell HEd.out.bs 0).trans (show _ = some (Value.int .i64 s) from rfl)
  obtain ⟨cells, hgc⟩ := Kd.S_typed HEd.out.rin gi rfl
  obtain ⟨rl, hrl⟩ : ∃ rl, (rd_L2 IN (q : Int)).length = rl := ⟨_, rfl⟩
  rw [hrl] at hcell hR hown hput hrow
  have HRL := Aside0.mk hrl
  clear hrl
  have HR := Aside0.mk hR
  have HOWN := Aside0.mk hown
  have HPUT := Aside0.mk hput
  have HGC := Aside0.mk hgc
  clear hR hown hput hgc
  have hq0 : (0 : Int) ≤ (q : Int) := by omega
  have hq1 : (q : Int) < (n : Int) := by omega
  refine wp_region_last_drew (S := fun w' => w'.cell? ⟨ui, 0, none⟩ = some (.slice (some ⟨gi, 0, none⟩) n ci) ∧ w'.cell? ⟨us, 0, none⟩ = some (.int .i64 s) ∧ w'.cell? ⟨gi, q, none⟩ = some (.slice A rl c)) (ds := [12]) (by kernel_rfl) ⟨k0, k1, hcell⟩ (fun hHeld => ?_)
  generalize hWd : W.drew = Wd at *
  clear hWd
  refine tk 0 ?_
  refine tk 1 ?_
  refine tk 2 ?_
  refine tk 3 ?_
  refine tk 4 ?_
  refine tk 5 ?_
  refine tk 6 ?_
  refine tk 7 ?_
  refine tk 8 ?_
  refine on 9 (fun K hK => ?_)
  go_simp
  have hFA := (Fr.refl (fun _ => False) Wd).alloc (.cells #[.int .i64 s, .int .i64 y] 136)
  refine hK.out _ _ ⟨hFA.cell k0 id, hFA.cell k1 id, hFA.cell hcell id⟩ (fun hHeld => ?_)
  clear hK K
  try simp only [Act.put, List.setIfInBounds_toArray, List.set_cons_zero, List.set_cons_succ]
  refine on 10 (fun K hK => ?_)
  refine Kd.R_append_step k48 (w0 := Wd) (W := Wd) base (by rfl) (.tmp 13) (.tmp 17) 134 136 (.agg #[(.int .i64 0), (.int .i64 0)]) 16 rfl Try.underlying134 infoE rfl (by decide) (by decide) (.slice A rl c) (rd_L2 IN (q : Int)) ⟨s, y⟩ [.int .i64 s, .int .i64 y] (fun k => oki k ∨ Wd.heap.size ≤ k) (fun _ => False) rfl rfl (k48_mkM _ _ _ ⟨s, y⟩) (fun _ hk => hk.elim) (fun k hk => .inr hk) HR.out (Below.refl _ _) hbd (by rw [HRL.out]; omega) ?_
  intro v1 W1 h1 hb1 h2 _
  have hbl : W1.heap[gi]? = Wd.heap[gi]? := h2.block gi hgl (fun e => (HOWN.out gi e.symm).1 rfl)
  have hc1 : W1.cell? ⟨gi, q, none⟩ = some (.slice A rl c) := (World.cell?_of_block hbl).trans hcell
  have hf1 : W1.frozen? ⟨gi, q, none⟩ = false := blk_frozen (hbl.trans HGC.out) q
  have HS1 := Aside0.mk (HPUT.out W1 v1 ⟨s, y⟩ h1 h2)
  obtain ⟨hE1, hF1⟩ := HEd.out.edge (by rw [HRL.out]; exact HR.out) (by rw [HRL.out]; exact h2) HS1.out
  have HE1 := Aside0.mk hE1
  have HF1 := Aside0.mk (HFd.out.trans hF1 (fun k _ h => h))
  obtain ⟨A1, c1, rfl⟩ := Kd.R_slice h1
  generalize h9 : (rd_L2 IN (q : Int) ++ [(⟨s, y⟩ : S48)]).length = rl1 at HE1 HF1 HS1 ⊢
  have n0 : some ui ≠ (Value.slice A rl c).ownBlock := Kd.R_ne HR.out HEd.out.bi (by decide)
  have n1 : some us ≠ (Value.slice A rl c).ownBlock := Kd.R_ne HR.out HEd.out.bs (by decide)
  have b0 := blk_grown HEd.out.bi h2 n0
  have b1 := blk_grown HEd.out.bs h2 n1
  refine hK.out _ _ ⟨(blk_cell b0 0).trans rfl, (blk_cell b1 0).trans rfl, hc1⟩ (fun hHeld => ?_)
  clear hK K hE1 hF1 h1 hb1 h2 h9 b0 b1
  try simp only [Act.put, List.setIfInBounds_toArray, List.set_cons_zero, List.set_cons_succ]
  refine tk 11 ?_
  refine onl 12 (fun K hK => ?_)
  go_simp
  refine hK.out _ _ ?_
  clear hK K
  try simp only [Act.put]
  refine dn ?_
  have hsz : base ≤ (W1.setCell ⟨gi, q, none⟩ (.slice A1 rl1 c1)).heap.size := Nat.le_trans hb HF1.out.size
  generalize hW2 : W1.setCell ⟨gi, q, none⟩ (.slice A1 rl1 c1) = W2 at HE1 HF1 hsz ⊢
  clear hW2 hc1 hf1 hbl k0 k1 hcell hfz HS1 hHeld HPUT HOWN HR HGC HEd HFd hFA
  obtain ⟨hlI, hlM⟩ := HE1.out.len
  have m0 := (blk_cell HE1.out.bm 0).trans (show _ = some (Value.slice (some ⟨gm, 0, none⟩) n cm) from rfl)
  obtain ⟨m1, m2⟩ := Kd.R_celln false HE1.out.rme (q : Int) hq0 hq1
  simp only [Int.toNat_natCast] at m1 m2
  cases hme : rdOf false ME (q : Int) with
  | true =>
    rw [hme] at m1
    have HFIN := Aside0.mk (show StepPost W base ui us um ut gi ci gm cm n s y q IN ME TD (.returned (.tuple #[])) W2 from ⟨rfl, HF1.out, vt, by rw [if_pos hme, if_pos hme]; exact HE1.out⟩)
    clear hme
    go_wp2_with (fail)
    go_end0
    exact HFIN.out
  | false =>
    rw [hme] at m1
    have HME := Aside0.mk hme
    clear hme hlI hlM
    obtain ⟨hE3, hF3⟩ := HE1.out.meet hq
    have HE3 := Aside0.mk hE3
    have HF3 := Aside0.mk (HF1.out.trans hF3 (fun k _ h => h))
    clear hE3 hF3
    go_upto_region 3 with (fail)
    have hsz3 : base ≤ (W2.setCell ⟨gm, q, none⟩ (.bool true)).heap.size := Nat.le_trans hb HF3.out.size
    generalize hW3 : W2.setCell ⟨gm, q, none⟩ (.bool true) = W3 at HE3 HF3 hsz3 ⊢
    clear hW3 m0 m1 m2
    obtain ⟨TA, tc, hvt⟩ := Kd.R_slice HE3.out.rtd
    obtain ⟨tl, htl⟩ : ∃ tl, TD.length = tl := ⟨_, rfl⟩
    rw [htl] at hvt htd
    have HTL := Aside0.mk htl
    clear htl
    subst hvt
    have t0 := (blk_cell HE3.out.bt 0).trans (show _ = some (Value.slice TA tl tc) from rfl)
    have hut := blk_lt HE3.out.bs
    go_wp2_with (at_builtin; go_must (refine Kd.R_append (Kd.int .i64) (w0 := W3) (W := W3) base rfl (.tmp 28) (.tmp 30) 39 3 (.int .i64 0) 8 rfl Try.underlying39 info3 rfl (by decide) (by decide) (.slice TA tl tc) TD (q : Int) [.int .i64 q] (fun k => k ≠ us) (fun _ => False) rfl rfl rfl (fun _ hk => hk.elim) (fun k hk => by omega) HE3.out.rtd (Below.refl _ _) hsz3 (by rw [HTL.out]; omega) ?_; intro v5 W5 h5 hb5 hg5 _; obtain ⟨A5, c5, rfl⟩ := Kd.R_slice h5; obtain ⟨hE5, hF5⟩ := HE3.out.push hg5 h5; have HE5 := Aside0.mk hE5; have HF5 := Aside0.mk (HF3.out.trans hF5 (fun k _ h => h)); have hbt := blk_grown HE3.out.bt hg5 (Kd.R_ne HE3.out.rtd HE3.out.bt (by decide)); have u0 := (blk_cell hbt 0).trans (show _ = some (Value.slice TA tl tc) from rfl); have uf := blk_frozen hbt 0; generalize h9 : (TD ++ [(q : Int)]).length = tl1 at HE5 HF5 ⊢; clear h9 h5 hb5 hg5 hE5 hF5 hbt))
    go_end0
    exact ⟨rfl, HF5.out, _, by rw [HME.out, if_neg (by decide), if_neg (by decide)]; exact HE5.out⟩
end Go.Proofs.Ytlpmjmanmncmnaa.Tab
