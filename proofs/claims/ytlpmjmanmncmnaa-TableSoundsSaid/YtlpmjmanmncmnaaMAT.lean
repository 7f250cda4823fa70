/-
The reference's edges, as they grow: an edge of a shift, walked.
-/
import Derived.Deep.RegionLaw
import Derived.Test.YtlpmjmanmncmnaaMAS
import Derived.Test.YtlpmjmanmncmnaaMAM
import Derived.Test.YtlpmjmanmncmnaaMAK
import Derived.Test.YtlpmjmanmncmnaaMAR
import Derived.Test.YtlpmjmanmncmnaaMAJ
import Derived.Test.YtlpmjmanmncmnaaMAP
set_option linter.unusedSimpArgs false
set_option linter.unusedVariables false
namespace Go.Proofs.Ytlpmjmanmncmnaa.Tab
open Go.RowKit Go.Maps Go.Proofs.YtlpmjmanmncmnaaW.PrintWords Go.Proofs.YtlpmjmanmncmnaaW.PrintLast Go.Proofs.YtlpmjmanmncmnaaW.PrintMore Go.Proofs.Ytlpmjmanmncmnaa.Fr Go.Proofs.Ytlpmjmanmncmnaa.PT
theorem info115 : (Try.prog.info? 115).map (fun i => (i.zero, i.size, i.bytes)) = some (some (.agg #[(.int .i64 0), (.int .i64 0), (.int .i64 0)]), 3, 24) := by kernel_rfl
theorem neRB : ∀ q, q ∈ 4 :: Kd.bool.E → q ≠ 115 := (show ∀ q, q ∈ [4] → q ≠ 115 by decide)
theorem neRW : ∀ q, q ∈ 115 :: k115.E → q ≠ 112 := (show ∀ q, q ∈ [115] → q ≠ 112 by decide)
theorem neBW : ∀ q, q ∈ 4 :: Kd.bool.E → q ≠ 112 := (show ∀ q, q ∈ [4] → q ≠ 112 by decide)
/-- The reference's ways, while they grow. -/
structure WyS (W : World) (base u gm cm n : Nat) (v0 v1 v2 v3 v4 v5 v6 ve : Value) (EL : List S115) (RE : List Bool) : Prop where
  blk : W.heap[u]? = some (.cells #[v0, v1, v2, v3, v4, v5, v6, ve, .slice (some ⟨gm, 0, none⟩) n cm] 112 (0, 0))
  rel : k115.R 115 W base (fun _ => True) ve EL
  rre : Kd.bool.R 4 W base (fun _ => True) (.slice (some ⟨gm, 0, none⟩) n cm) RE
  lu : base ≤ u
section
variable {W W1 : World} {base u gm cm n : Nat} {v0 v1 v2 v3 v4 v5 v6 ve : Value} {EL : List S115} {RE : List Bool}
theorem WyS.fr (h : WyS W base u gm cm n v0 v1 v2 v3 v4 v5 v6 ve EL RE) (hF : Fr (fun _ => False) W W1) : WyS W1 base u gm cm n v0 v1 v2 v3 v4 v5 v6 ve EL RE :=
  ⟨hF.blk h.blk id, hF.R h.rel (fun _ _ => id), hF.R h.rre (fun _ _ => id), h.lu⟩
theorem WyS.ne (h : WyS W base u gm cm n v0 v1 v2 v3 v4 v5 v6 ve EL RE) : some u ≠ ve.ownBlock := Kd.R_ne h.rel h.blk (by decide)
theorem WyS.push (h : WyS W base u gm cm n v0 v1 v2 v3 v4 v5 v6 ve EL RE) {vx : Value} {EL1 : List S115} (hg : W.grownBy W1 ve.ownBlock) (h1 : k115.R 115 W1 base (fun _ => True) vx EL1) :
    WyS (W1.setCell ⟨u, 7, none⟩ vx) base u gm cm n v0 v1 v2 v3 v4 v5 v6 vx EL1 RE ∧ Fr (fun k => base ≤ k) W (W1.setCell ⟨u, 7, none⟩ vx) := by
  have hb := blk_grown h.blk hg h.ne
  exact ⟨⟨blk_put hb 7 vx rfl, Kd.R_set h1 hb neRW 7 vx, Kd.R_set (Kd.R_over h.rre h.rel neRB hg) hb neBW 7 vx, h.lu⟩, ((Fr.refl (fun k => base ≤ k) W).grown hg (fun k hk _ => Kd.R_base h.rel k hk)).set vx (fun _ => h.lu)⟩
end
/-- What known does. -/
def KnownPost (w : World) (base u gm cm n : Nat) (v0 v1 v2 v3 v4 v5 v6 : Value) (EL : List S115) (RE : List Bool) (e : Ending) (w' : World) : Prop :=
  e = .returned (.tuple #[]) ∧ Fr (fun k => base ≤ k) w w' ∧ ∃ ve, WyS w' base u gm cm n v0 v1 v2 v3 v4 v5 v6 ve EL RE
set_option maxHeartbeats 8000000 in
set_option maxRecDepth 100000 in
theorem known_calls (w : World) (base u gm cm n : Nat) (v0 v1 v2 v3 v4 v5 v6 ve : Value) (EL : List S115) (RE : List Bool) (h : WyS w base u gm cm n v0 v1 v2 v3 v4 v5 v6 ve EL RE) (hB : base ≤ w.heap.size) (hl : EL.length < 1099511627776) (s k : Nat) (f m : Int) :
    Calls Try.prog 54 #[.pointer (some ⟨u, 0, none⟩), .int .i64 s, .int .i64 k, .agg #[.int .i64 f, .int .i64 m]] w (KnownPost w base u gm cm n v0 v1 v2 v3 v4 v5 v6 (if f = 1 then EL ++ [⟨s, k, m⟩] else EL) RE) := by
  have HH := Aside0.mk (h.fr ((Fr.refl (fun _ => False) w).alloc (.cells #[.int .i64 f, .int .i64 m] 48)))
  have HF := Aside0.mk ((Fr.refl (fun k => base ≤ k) w).alloc (.cells #[.int .i64 f, .int .i64 m] 48))
  have HX := Aside0.mk (blk_new w (.cells #[.int .i64 f, .int .i64 m] 48))
  clear h
  go_enter Try.func54, Try.ntmps54
  go_upto_region 1 with (fail)
  obtain ⟨W1, hW1⟩ : ∃ W, w.alloc (.cells #[.int .i64 f, .int .i64 m] 48) = W := ⟨_, rfl⟩
  obtain ⟨bm, hbm⟩ : ∃ b, w.heap.size = b := ⟨_, rfl⟩
  rw [hW1] at HH HF HX
  rw [hbm] at HX hB
  simp only [hW1, hbm]
  have hsz : bm < W1.heap.size := blk_lt HX.out
  clear hW1 hbm
  have x0 := (blk_cell HX.out 0).trans (show _ = some (Value.int .i64 f) from rfl)
  have x1 := (blk_cell HX.out 1).trans (show _ = some (Value.int .i64 m) from rfl)
  by_cases hf : f = 1
  case neg =>
    have HFIN := Aside0.mk (show KnownPost w base u gm cm n v0 v1 v2 v3 v4 v5 v6 EL RE (.returned (.tuple #[])) W1 from ⟨rfl, HF.out, ve, HH.out⟩)
    go_wp2_with (fail)
    go_end0
    exact HFIN.out
  case pos =>
  subst hf
  obtain ⟨A, c, hve⟩ := Kd.R_slice HH.out.rel
  obtain ⟨el, hel⟩ : ∃ n, EL.length = n := ⟨_, rfl⟩
  rw [hel] at hve
  have HEL := Aside0.mk hel
  subst hve
  have HFz := Aside0.mk ((Fr.refl (fun _ => False) W1).alloc (.cells #[.int .i64 s, .int .i64 k, .int .i64 m] 115))
  have k7 := (blk_cell HH.out.blk 7).trans (show _ = some (Value.slice A el c) from rfl)
  have y7 := HFz.out.cell k7 id
  have y1 := HFz.out.cell x1 id
  rw [hel] at hl
  clear hel
  have hB1 : base ≤ W1.heap.size := by omega
  have HD := Aside0.mk (HH.out.fr ((Fr.refl (fun _ => False) W1).drew))
  have hB2 : base ≤ W1.drew.heap.size := hB1
  go_upto_region 2 with (fail)
  go_region_law (refine Kd.R_append_step k115 (w0 := W1.drew) (W := W1.drew) base rfl _ _ 110 115 _ 24 rfl Try.underlying110 info115 rfl (by decide) (by decide) (.slice A el c) EL ⟨s, k, m⟩ [.int .i64 s, .int .i64 k, .int .i64 m] (fun _ => True) (fun _ => False) (by simp [Act.eval]) (by simp [Act.eval]) (k115_mkM _ _ _ ⟨s, k, m⟩) (fun _ hf => hf.elim) (fun _ _ => trivial) HD.out.rel (Below.refl _ _) hB2 (by rw [HEL.out]; omega) ?_; intro vx wx hR hBl hG hA; obtain ⟨A1, k1, rfl⟩ := Kd.R_slice hR; have hb1 := blk_grown HD.out.blk hG HD.out.ne; have z7 := (blk_cell hb1 7).trans (show _ = some (Value.slice A el c) from rfl); have f7 := blk_frozen hb1 7; obtain ⟨hP, hPF⟩ := HD.out.push hG hR; rw [show (EL ++ [(⟨s, k, m⟩ : S115)]).length = EL.length + 1 by simp] at hP hPF; have HP := Aside0.mk hP; have HPF := Aside0.mk hPF; clear hR hBl hG hA hb1 hP hPF)
  all_goals
    go_end0
    try simp only [if_true]
    refine ⟨rfl, HF.out.drew.trans HPF.out (fun _ _ h => h), Value.slice A1 (EL.length + 1) k1, ?_⟩
    exact HP.out
end Go.Proofs.Ytlpmjmanmncmnaa.Tab
/-
The steps to each state: table.edges, walked.
-/
set_option linter.unusedSimpArgs false
set_option linter.unusedVariables false
namespace Go.Proofs.Ytlpmjmanmncmnaa.Tab
open Go.RowKit Go.Maps Go.Proofs.YtlpmjmanmncmnaaW.PrintWords Go.Proofs.YtlpmjmanmncmnaaW.PrintLast Go.Proofs.YtlpmjmanmncmnaaW.PrintMore Go.Proofs.Ytlpmjmanmncmnaa.Fr Go.Proofs.Ytlpmjmanmncmnaa.PT
theorem infoEl : (Try.prog.info? 134).map (fun i => (i.zero, i.size, i.bytes)) = some (some (.slice none 0 0), 1, 24) := by kernel_rfl
theorem new_one (W : World) (x : Int) {base : Nat} {ok : Nat → Prop} (hb : base ≤ W.heap.size) (hok : ok W.heap.size) : (Kd.int .i64).R 3 (W.alloc (.cells #[.int .i64 x] 3)) base ok (.slice (some ⟨W.heap.size, 0, none⟩) 1 1) [x] := by
  refine ⟨fun k hk => ?_, [.int .i64 x], ⟨rfl, .inr ⟨W.heap.size, 1, #[.int .i64 x], rfl, hb, blk_new W _, Nat.le_refl _, by decide, rfl, rfl⟩⟩, rfl, fun j p hj => ?_⟩
  · have : W.heap.size = k := by simpa [Value.ownBlock] using hk
    subst this
    exact hok
  · cases j with
    | zero =>
      obtain rfl : x = p := by simpa using hj
      rfl
    | succ j => simp at hj
/-- What edges keeps between its rounds. -/
structure EdV (W : World) (base ui um ut gi ci gm cm n : Nat) (IN : List (List S48)) (ME : List Bool) (vt : Value) (TD : List Int) : Prop where
  bi : W.heap[ui]? = some (.cells #[.slice (some ⟨gi, 0, none⟩) n ci] 105 (0, 0))
  bm : W.heap[um]? = some (.cells #[.slice (some ⟨gm, 0, none⟩) n cm] 106 (0, 0))
  bt : W.heap[ut]? = some (.cells #[vt] 39 (0, 0))
  rin : Kd.S kE 134 W base (fun _ => True) (.slice (some ⟨gi, 0, none⟩) n ci) IN
  rme : Kd.bool.R 4 W base (fun _ => True) (.slice (some ⟨gm, 0, none⟩) n cm) ME
  rtd : (Kd.int .i64).R 3 W base (fun _ => True) vt TD
  li : base ≤ ui
  lm : base ≤ um
  lt : base ≤ ut
theorem EdV.own {W : World} {base ui um ut gi ci gm cm n : Nat} {IN : List (List S48)} {ME : List Bool} {vt : Value} {TD : List Int} (h : EdV W base ui um ut gi ci gm cm n IN ME vt TD) (s : Int) : EdS (W.alloc (.cells #[.int .i64 s] 3)) base ui W.heap.size um ut gi ci gm cm n s IN ME vt TD :=
  ⟨blk_alloc h.bi _, blk_new W _, blk_alloc h.bm _, blk_alloc h.bt _, Kd.S_alloc h.rin _, Kd.R_alloc h.rme _, Kd.R_alloc (Kd.R_mono (Kd.R_bound h.rtd) (fun k hk => Nat.ne_of_lt hk.2.2.1)) _, h.li, h.lm, h.lt⟩
theorem EdS.lay {W : World} {base ui us um ut gi ci gm cm n : Nat} {s : Int} {IN : List (List S48)} {ME : List Bool} {vt : Value} {TD : List Int} (h : EdS W base ui us um ut gi ci gm cm n s IN ME vt TD) : EdV W base ui um ut gi ci gm cm n IN ME vt TD :=
  ⟨h.bi, h.bm, h.bt, h.rin, h.rme, Kd.R_mono h.rtd (fun _ _ => trivial), h.li, h.lm, h.lt⟩
def EdgesPost (w : World) (T : Tb) (nk : Nat) (e : Ending) (w' : World) : Prop :=
  Fr (fun _ => False) w w' ∧ ∃ (gi ci gm cm : Nat) (IN : List (List S48)) (ME : List Bool), e = .returned (.tuple #[.slice (some ⟨gi, 0, none⟩) T.mv.length ci, .slice (some ⟨gm, 0, none⟩) T.mv.length cm]) ∧ IsEdges T nk IN ME ∧
    Kd.S kE 134 w' w.heap.size (fun _ => True) (.slice (some ⟨gi, 0, none⟩) T.mv.length ci) IN ∧ Kd.bool.R 4 w' w.heap.size (fun _ => True) (.slice (some ⟨gm, 0, none⟩) T.mv.length cm) ME
set_option maxHeartbeats 8000000 in
set_option maxRecDepth 100000 in
theorem edges_calls (w : World) (T : Tb) (nk nr np : Nat) (hC : TChk T nk nr np) (hk : nk ≤ 1048576) (hr : nr ≤ 1048576) (B0 B1 : Option Addr) (d0 d1 : Nat) (hT : TAt w T B0 B1 d0 d1) (A0 A1 A2 A3 : Option Addr) (c0 c1 c2 c3 n1 n2 n3 : Nat) (st : Int) :
    Calls Try.prog 50 #[.agg #[.slice A0 nk c0, .slice A1 n1 c1, .slice A2 n2 c2, .slice A3 n3 c3, .int .i64 st], .agg #[.slice B0 T.mv.length d0, .slice B1 T.gt.length d1]] w (EdgesPost w T nk) := by
  have hu := Try.underlying72
  have hu2 := Try.underlying25
  have hn1 := hC.one
  have hn2 := hC.max
  have HC := Aside0.mk hC
  have HT := Aside0.mk hT
  have HF0 := Aside0.mk (((Fr.refl (fun _ => False) w).alloc (.cells #[.slice A0 nk c0, .slice A1 n1 c1, .slice A2 n2 c2, .slice A3 n3 c3, .int .i64 st] 72)).alloc (.cells #[.slice B0 T.mv.length d0, .slice B1 T.gt.length d1] 25))
  have HP0 := Aside0.mk (blk_alloc (blk_new w (.cells #[.slice A0 nk c0, .slice A1 n1 c1, .slice A2 n2 c2, .slice A3 n3 c3, .int .i64 st] 72)) (.cells #[.slice B0 T.mv.length d0, .slice B1 T.gt.length d1] 25))
  have HP1 := Aside0.mk (show ((w.alloc (.cells #[.slice A0 nk c0, .slice A1 n1 c1, .slice A2 n2 c2, .slice A3 n3 c3, .int .i64 st] 72)).alloc (.cells #[.slice B0 T.mv.length d0, .slice B1 T.gt.length d1] 25)).heap[w.heap.size + 1]? = some (.cells #[.slice B0 T.mv.length d0, .slice B1 T.gt.length d1] 25) from by
    have h := blk_new (w.alloc (.cells #[.slice A0 nk c0, .slice A1 n1 c1, .slice A2 n2 c2, .slice A3 n3 c3, .int .i64 st] 72)) (.cells #[.slice B0 T.mv.length d0, .slice B1 T.gt.length d1] 25)
    rwa [World.size_alloc] at h)
  have hsz : ((w.alloc (.cells #[.slice A0 nk c0, .slice A1 n1 c1, .slice A2 n2 c2, .slice A3 n3 c3, .int .i64 st] 72)).alloc (.cells #[.slice B0 T.mv.length d0, .slice B1 T.gt.length d1] 25)).heap.size = w.heap.size + 1 + 1 := by simp only [World.size_alloc]
  clear hC hT
  go_enter Try.func50, Try.ntmps50
  go_upto_region 1 with (fail)
  obtain ⟨W0, hW0⟩ : ∃ W0, ((w.alloc (.cells #[.slice A0 nk c0, .slice A1 n1 c1, .slice A2 n2 c2, .slice A3 n3 c3, .int .i64 st] 72)).alloc (.cells #[.slice B0 T.mv.length d0, .slice B1 T.gt.length d1] 25)) = W0 := ⟨_, rfl⟩
  rw [hW0] at HF0 HP0 HP1 hsz
  simp only [hW0]
  clear hW0
  obtain ⟨p0, hp0⟩ : ∃ p, w.heap.size = p := ⟨_, rfl⟩
  have HW := Aside0.mk hp0
  rw [hp0] at HP0 HP1 hsz
  simp only [hp0]
  obtain ⟨p1, hp1⟩ : ∃ p, p0 + 1 = p := ⟨_, rfl⟩
  have HP := Aside0.mk hp1
  rw [hp1] at HP1 hsz
  simp only [hp1]
  clear hp0 hp1
  obtain ⟨n, hn⟩ : ∃ n, T.mv.length = n := ⟨_, rfl⟩
  have HN := Aside0.mk hn
  rw [hn] at HP1 hn1 hn2
  simp only [hn]
  clear hn
  have k0 := (blk_cell HP0.out 0).trans (show _ = some (Value.slice A0 nk c0) from rfl)
  have l0 := (blk_cell HP1.out 0).trans (show _ = some (Value.slice B0 n d0) from rfl)
  have l1 := (blk_cell HP1.out 1).trans (show _ = some (Value.slice B1 T.gt.length d1) from rfl)
  go_upto_region 2 with (at_make; refine Kd.S_make kE (w0 := W0) W0.heap.size 134 rfl (N := 19) rfl 105 _ _ rfl (n : Int) rfl rfl Try.underlying105 (.slice none 0 0) 24 infoEl rfl (by decide) (by omega) [] (ok := fun _ => True) (okp := fun _ => True) ⟨_, rfl, Kd.R_nil _ _ _ _ _⟩ (fun _ hk => hk) trivial (by omega) (by omega) (Below.refl _ _) (Nat.le_refl _) ?_; intro v1 W1 h1 hB1 hg1 hb1; have HF1 := Aside0.mk (Fr.of_below (S := fun _ => False) hB1); have HS1 := Aside0.mk (show Kd.S kE 134 W1 W0.heap.size (fun _ => True) v1 (List.replicate n []) by simpa using h1); obtain ⟨gi, ci, hv, _⟩ := Kd.S_form HS1.out (by rw [List.length_replicate]; omega); rw [List.length_replicate] at hv; subst hv; clear h1 hB1 hg1 hb1)
  obtain ⟨b0, hb0⟩ : ∃ b0, W0.heap.size = b0 := ⟨_, rfl⟩
  have HB0 := Aside0.mk hb0
  rw [hb0] at HS1 hsz
  have hs1 : b0 ≤ W1.heap.size := by rw [← hb0]; exact HF1.out.size
  have HFX := Aside0.mk (HF1.out.alloc (.cells #[.slice (some ⟨gi, 0, none⟩) n ci] 105))
  have HS2 := Aside0.mk (Kd.S_alloc HS1.out (.cells #[.slice (some ⟨gi, 0, none⟩) n ci] 105))
  have HI2 := Aside0.mk (blk_new W1 (.cells #[.slice (some ⟨gi, 0, none⟩) n ci] 105))
  have hs2 := World.size_alloc W1 (.cells #[.slice (some ⟨gi, 0, none⟩) n ci] 105)
  clear hb0 HS1 HF1 k0 l0 l1
  obtain ⟨ui, hui⟩ : ∃ ui, W1.heap.size = ui := ⟨_, rfl⟩
  obtain ⟨W2, hW2⟩ : ∃ W2, W1.alloc (.cells #[.slice (some ⟨gi, 0, none⟩) n ci] 105) = W2 := ⟨_, rfl⟩
  rw [hW2] at HFX HS2 HI2 hs2
  rw [hui] at HI2 hs1 hs2
  simp only [hW2, hui]
  clear hW2 hui
  have l0 := (blk_cell (HFX.out.blk HP1.out id) 0).trans (show _ = some (Value.slice B0 n d0) from rfl)
  have l1 := (blk_cell (HFX.out.blk HP1.out id) 1).trans (show _ = some (Value.slice B1 T.gt.length d1) from rfl)
  go_upto_region 3 with (at_make; refine Kd.R_make Kd.bool (w0 := W2) W2.heap.size 4 rfl (N := 23) rfl 106 _ _ rfl (n : Int) rfl rfl Try.underlying106 (.bool false) 1 info4 rfl (by decide) (by omega) false (ok := fun _ => True) (okp := fun _ => True) rfl (fun _ hk => hk) trivial (by omega) (by omega) (Below.refl _ _) (Nat.le_refl _) ?_; intro v3 W3 h3 hB3 hg3 hb3; have HF3 := Aside0.mk (Fr.of_below (S := fun _ => False) hB3); have HR3 := Aside0.mk (show Kd.bool.R 4 W3 W2.heap.size (fun _ => True) v3 (List.replicate n false) by simpa using h3); obtain ⟨gm, cm, hv, _⟩ := Kd.R_form HR3.out (by rw [List.length_replicate]; omega); rw [List.length_replicate] at hv; subst hv; clear h3 hB3 hg3 hb3)
  have HR4 := Aside0.mk (Kd.R_alloc (Kd.R_lower HR3.out (show b0 ≤ W2.heap.size by omega)) (.cells #[.slice (some ⟨gm, 0, none⟩) n cm] 106))
  have HS4 := Aside0.mk (Kd.S_alloc (Kd.S_below HS2.out HF3.out.to_below) (.cells #[.slice (some ⟨gm, 0, none⟩) n cm] 106))
  have HI4 := Aside0.mk (blk_alloc (HF3.out.blk HI2.out id) (.cells #[.slice (some ⟨gm, 0, none⟩) n cm] 106))
  have HM4 := Aside0.mk (blk_new W3 (.cells #[.slice (some ⟨gm, 0, none⟩) n cm] 106))
  have HF4 := Aside0.mk ((HFX.out.trans HF3.out (fun _ _ h => h)).alloc (.cells #[.slice (some ⟨gm, 0, none⟩) n cm] 106))
  have hs3 := HF3.out.size
  have hs4 := World.size_alloc W3 (.cells #[.slice (some ⟨gm, 0, none⟩) n cm] 106)
  clear HR3 HS2 HI2 HF3 HFX l0 l1
  obtain ⟨um, hum⟩ : ∃ um, W3.heap.size = um := ⟨_, rfl⟩
  obtain ⟨W4, hW4⟩ : ∃ W4, W3.alloc (.cells #[.slice (some ⟨gm, 0, none⟩) n cm] 106) = W4 := ⟨_, rfl⟩
  rw [hW4] at HR4 HS4 HI4 HM4 HF4 hs4
  rw [hum] at HM4 hs3 hs4
  simp only [hW4, hum]
  clear hW4 hum
  have m0 := (blk_cell HM4.out 0).trans (show _ = some (Value.slice (some ⟨gm, 0, none⟩) n cm) from rfl)
  obtain ⟨m1, m2⟩ := Kd.R_celln false HR4.out (0 : Int) (by omega) (by omega)
  have hr0 : rdOf false (List.replicate n false) (0 : Int) = false := by
    simp only [rdOf, List.getD_eq_getElem?_getD, List.getElem?_replicate]
    split <;> rfl
  rw [hr0] at m1
  simp only [Int.toNat_zero] at m1 m2
  have hnp : (0 : Int) < (n : Int) := by omega
  go_upto_region 4 with (fail)
  obtain ⟨cells, hgc⟩ := Kd.R_typed HR4.out gm rfl
  have HR5 := Aside0.mk (Kd.R_putg HR4.out (0 : Int) true).1
  have HS5 := Aside0.mk (Kd.S_set HS4.out hgc neE4 0 (.bool true))
  have HI5 := Aside0.mk (blk_far HI4.out (p := ⟨gm, 0, none⟩) (typed_ne2 HI4.out hgc (by decide)) (.bool true))
  have HM5 := Aside0.mk (blk_far HM4.out (p := ⟨gm, 0, none⟩) (typed_ne2 HM4.out hgc (by decide)) (.bool true))
  have hgmb : W2.heap.size ≤ gm ∨ True := .inr trivial
  have hbgm : b0 ≤ gm := Kd.R_base HR4.out gm rfl
  have HF5 := Aside0.mk ((HF4.out.mono (T := fun k => b0 ≤ k) (fun _ h => h.elim)).set (g := gm) (o := 0) (.bool true) (fun _ => hbgm))
  simp only [Int.toNat_zero] at HR5
  have hs5 : (W4.setCell ⟨gm, 0, none⟩ (.bool true)).heap.size = W4.heap.size := World.size_setCell _ _ _
  clear HR4 HS4 HI4 HM4 HF4 m0 m1 m2 hgc hgmb
  generalize W4.setCell ⟨gm, 0, none⟩ (.bool true) = W5 at HR5 HS5 HI5 HM5 HF5 hs5 ⊢
  have hW5 : b0 ≤ W5.heap.size := by omega
  have HA6 := Aside0.mk (new_one W5 0 (ok := fun _ => True) hW5 trivial)
  have HV6 := Aside0.mk (show EdV ((W5.alloc (.cells #[.int .i64 0] 3)).alloc (.cells #[.slice (some ⟨W5.heap.size, 0, none⟩) 1 1] 39)) b0 ui um (W5.heap.size + 1) gi ci gm cm n (List.replicate n []) ((List.replicate n false).set 0 true) (.slice (some ⟨W5.heap.size, 0, none⟩) 1 1) [0] from by
    refine ⟨blk_alloc (blk_alloc HI5.out _) _, blk_alloc (blk_alloc HM5.out _) _, ?_, Kd.S_alloc (Kd.S_alloc HS5.out _) _, Kd.R_alloc (Kd.R_alloc HR5.out _) _, Kd.R_alloc HA6.out _, by omega, by omega, by omega⟩
    have h := blk_new (W5.alloc (.cells #[.int .i64 0] 3)) (.cells #[.slice (some ⟨W5.heap.size, 0, none⟩) 1 1] 39)
    rwa [World.size_alloc] at h)
  have HF6 := Aside0.mk ((HF5.out.alloc (.cells #[.int .i64 0] 3)).alloc (.cells #[.slice (some ⟨W5.heap.size, 0, none⟩) 1 1] 39))
  have hs6 : ((W5.alloc (.cells #[.int .i64 0] 3)).alloc (.cells #[.slice (some ⟨W5.heap.size, 0, none⟩) 1 1] 39)).heap.size = W5.heap.size + 1 + 1 := by simp only [World.size_alloc]
  have HBF := Aside0.mk (show Bfs T nk (nk + nr) 0 0 [0] (List.replicate n []) ((List.replicate n false).set 0 true) from by rw [← HN.out]; exact Bfs.start HC.out)
  clear HR5 HS5 HI5 HM5 HF5 HA6 hs1 hs2 hs3 hs4 hs5 hr0 hnp hbgm
  go_upto_region 5 with (fail)
  obtain ⟨ut, hut⟩ : ∃ ut, W5.heap.size + 1 = ut := ⟨_, rfl⟩
  obtain ⟨W6, hW6⟩ : ∃ W6, (W5.alloc (.cells #[.int .i64 0] 3)).alloc (.cells #[.slice (some ⟨W5.heap.size, 0, none⟩) 1 1] 39) = W6 := ⟨_, rfl⟩
  rw [hW6, hut] at HV6 hs6
  rw [hW6] at HF6
  simp only [hW6, hut]
  clear hW6
  have hW6s : b0 ≤ W6.heap.size := by omega
  have HV7 := Aside0.mk (show ∃ vt, EdV W6 b0 ui um ut gi ci gm cm n (List.replicate n []) ((List.replicate n false).set 0 true) vt [0] from ⟨_, HV6.out⟩)
  clear HV6 hs6 hW5 hut
  go_wp2_with (fail)
  go_loopw [9] (fun a W => ∃ (i : Nat) (vt : Value) (TD : List Int) (IN : List (List S48)) (ME : List Bool), a = .int .i64 i ∧ i ≤ TD.length ∧ i ≤ 4096 ∧ Aside0 (EdV W b0 ui um ut gi ci gm cm n IN ME vt TD) ∧ Aside0 (Bfs T nk (nk + nr) i 0 TD IN ME) ∧ Aside0 (Fr (fun k => b0 ≤ k) W0 W) ∧ b0 ≤ W.heap.size) (fun a _ => 4097 - (intOf a).toNat)
  case atStart =>
    obtain ⟨vt, hv⟩ := HV7.out
    exact ⟨0, vt, [0], _, _, rfl, by simp, by omega, ⟨hv⟩, HBF, HF6, hW6s⟩
  case round =>
    clear HV7 HBF HF6 hW6s
    obtain ⟨i, vt, TD, IN, ME, rfl, hi, hi4, HV, HBF, HFW, hWs⟩ := hrel
    have htd : TD.length ≤ 4096 := by have h1 := HBF.out.td_le; have h2 := HN.out; omega
    have htp : 0 < TD.length := List.length_pos_of_mem HBF.out.z
    obtain ⟨gt, tc, hvt, _⟩ := Kd.R_form HV.out.rtd htp
    obtain ⟨tl, htl⟩ : ∃ tl, TD.length = tl := ⟨_, rfl⟩
    have HTL := Aside0.mk htl
    rw [htl] at hvt htd htp hi
    clear htl
    subst hvt
    have t0 := (blk_cell HV.out.bt 0).trans (show _ = some (Value.slice (some ⟨gt, 0, none⟩) tl tc) from rfl)
    by_cases hlt : i < tl
    case neg =>
      obtain rfl : i = tl := by omega
      have HED := Aside0.mk (show IsEdges T nk IN ME from by
        have h := HBF.out
        rw [← HTL.out] at h
        exact h.fin HC.out hk hr)
      have i0 := (blk_cell HV.out.bi 0).trans (show _ = some (Value.slice (some ⟨gi, 0, none⟩) n ci) from rfl)
      have m0 := (blk_cell HV.out.bm 0).trans (show _ = some (Value.slice (some ⟨gm, 0, none⟩) n cm) from rfl)
      have HFIN := Aside0.mk (show ∀ W, Fr (fun _ => False) wr W → EdgesPost w T nk (.returned (.tuple #[.slice (some ⟨gi, 0, none⟩) n ci, .slice (some ⟨gm, 0, none⟩) n cm])) W from fun W hF => by
        have hlow : w.heap.size ≤ b0 := by have := HP.out; have := HW.out; omega
        refine ⟨(HF0.out.trans HFW.out (fun k hk h => by have := HW.out; omega)).trans hF (fun _ _ h => h), gi, ci, gm, cm, IN, ME, by rw [HN.out], HED.out, ?_, ?_⟩
        · rw [HN.out]
          exact Kd.S_lower (Kd.S_below HV.out.rin hF.to_below) hlow
        · rw [HN.out]
          exact Kd.R_lower (hF.R HV.out.rme (fun _ _ => id)) hlow)
      go_wp2_with (fail)
      go_quiet (fail)
      go_wp2_with (fail)
      go_ret2
      exact HFIN.out _ ((Fr.refl _ _).drewN _)
    case pos =>
    have hi0 : (0 : Int) ≤ (i : Int) := by omega
    have hi1 : (i : Int) < (tl : Int) := by omega
    have x0 := (Kd.R_celln (0 : Int) HV.out.rtd (i : Int) hi0 hi1).1
    simp only [Int.toNat_natCast] at x0
    have HAT := Aside0.mk (HBF.out.at_ (by rw [HTL.out]; exact hlt))
    obtain ⟨s, hs⟩ : ∃ s : Nat, rd TD (i : Int) = s := ⟨(rd TD (i : Int)).toNat, by have := HAT.out.1; omega⟩
    have HS := Aside0.mk hs
    have hsn : s < n := by have h1 := HAT.out.2.1; have h2 := HN.out; rw [hs] at h1; omega
    rw [show rdOf (0 : Int) TD (i : Int) = (s : Int) from hs] at x0
    clear hs
    go_upto_region 9 with (fail)
    have HE9 := Aside0.mk (HV.out.own (s : Int))
    have HF9 := Aside0.mk (HFW.out.alloc (.cells #[.int .i64 s] 3))
    have hs9 := World.size_alloc wr (.cells #[.int .i64 s] 3)
    have HPF := Aside0.mk (show rd TD (i : Int) = (s : Int) ∧ i < TD.length from ⟨HS.out, by rw [HTL.out]; exact hlt⟩)
    obtain ⟨us, hus⟩ : ∃ us, wr.heap.size = us := ⟨_, rfl⟩
    obtain ⟨W9, hW9⟩ : ∃ W9, wr.alloc (.cells #[.int .i64 s] 3) = W9 := ⟨_, rfl⟩
    rw [hW9] at HE9 HF9 hs9
    rw [hus] at HE9 hs9 hWs
    simp only [hW9, hus]
    have hW9s : b0 ≤ W9.heap.size := by omega
    clear hus hW9 t0 x0 HV HFW hs9 hWs HS HAT hi hi0 hi1 htp hlt
    have HOLD := Aside0.mk (show ∀ W, Fr (fun k => b0 ≤ k) W0 W → Fr (fun k => b0 ≤ k) w W from fun W h => (HF0.out.mono (T := fun k => b0 ≤ k) (fun _ h => h.elim)).trans h (fun k _ h => h))
    have HPL := Aside0.mk (show ¬ b0 ≤ p0 ∧ ¬ b0 ≤ p1 from by have := HP.out; omega)
    have hsT : s < T.mv.length := by rw [HN.out]; exact hsn
    obtain ⟨wide1, wide2⟩ := HC.out.wide hsT
    obtain ⟨adr, C1, cap1, rfl, hx, hlc, hCr⟩ := at_L2 HT.out.mv (s : Int) (by omega) (by omega)
    simp only [Int.toNat_natCast] at hx
    have hxw := World.block_lt_of_cell? w _ hx
    have hxb : ¬ b0 ≤ (adr.add s).block := by have := HP.out; have := HW.out; omega
    have HX := Aside0.mk hx
    rw [wide1] at hx hlc
    have HCR := Aside0.mk hCr
    replace hx := (HOLD.out W9 HF9.out).cell hx hxb
    clear hCr
    have l0 := (blk_cell (HF9.out.blk HP1.out HPL.out.2) 0).trans (show _ = some (Value.slice (some adr) n d0) from rfl)
    have us0 := (blk_cell HE9.out.bs 0).trans (show _ = some (Value.int .i64 s) from rfl)
    have hs0 : (0 : Int) ≤ (s : Int) := by omega
    have hs1 : (s : Int) < (n : Int) := by omega
    obtain ⟨row, hrow⟩ : ∃ row, rd_L2 T.mv (s : Int) = row := ⟨_, rfl⟩
    have HROW := Aside0.mk hrow
    rw [hrow] at HCR wide1
    clear hrow
    go_wp2_with (fail)
    go_loopw [44] (fun a W => ∃ (k : Nat) (vt : Value) (TD : List Int) (IN : List (List S48)) (ME : List Bool), a = .int .i64 k ∧ k ≤ nk ∧ Aside0 (EdS W b0 ui us um ut gi ci gm cm n s IN ME vt TD) ∧ Aside0 (Bfs T nk (nk + nr) i k TD IN ME) ∧ Aside0 (rd TD (i : Int) = (s : Int) ∧ i < TD.length) ∧ Aside0 (Fr (fun k => b0 ≤ k) W0 W) ∧ b0 ≤ W.heap.size) (fun a _ => nk - (intOf a).toNat)
    case atStart => exact ⟨0, _, TD, IN, ME, rfl, Nat.zero_le _, HE9, HBF, HPF, HF9, hW9s⟩
    case round =>
      clear HE9 HBF HPF HF9 hW9s l0 us0 hx
      obtain ⟨k, vt, TD, IN, ME, rfl, hkk, HE, HBF, HPF, HFW, hWs⟩ := hrel
      by_cases hlt : k < nk
      case neg =>
        obtain rfl : k = nk := by omega
        clear hkk hlt
        obtain ⟨adg, G1, gcap, hB1, hy, hlg, hGr⟩ := at_L3 HT.out.gt (s : Int) (by have := HC.out.len; omega) (by have := HC.out.len; omega)
        subst hB1
        simp only [Int.toNat_natCast] at hy
        have hyw := World.block_lt_of_cell? w _ hy
        have hyb : ¬ b0 ≤ (adg.add s).block := by have := HP.out; have := HW.out; omega
        rw [wide2] at hy hlg
        have HGR := Aside0.mk hGr
        replace hy := (HOLD.out wr HFW.out).cell hy hyb
        clear hGr
        have l1 := (blk_cell (HFW.out.blk HP1.out HPL.out.2) 1).trans (show _ = some (Value.slice (some adg) T.gt.length d1) from rfl)
        have us0 := (blk_cell HE.out.bs 0).trans (show _ = some (Value.int .i64 s) from rfl)
        have hs2 : (s : Int) < (T.gt.length : Int) := by have := HC.out.len; omega
        obtain ⟨grow, hgrow⟩ : ∃ row, rd_L3 T.gt (s : Int) = row := ⟨_, rfl⟩
        have HGROW := Aside0.mk hgrow
        rw [hgrow] at HGR wide2
        clear hgrow
        go_wp2_with (fail)
        have HBF0 := Aside0.mk (show Bfs T k (k + nr) i ((k : Int) + ((0 : Nat) : Int)) TD IN ME from by have h := HBF.out; rwa [show (k : Int) + ((0 : Nat) : Int) = (k : Int) by omega])
        go_loopw [64] (fun a W => ∃ (r : Nat) (vt : Value) (TD : List Int) (IN : List (List S48)) (ME : List Bool), a = .int .i64 r ∧ r ≤ nr ∧ Aside0 (EdS W b0 ui us um ut gi ci gm cm n s IN ME vt TD) ∧ Aside0 (Bfs T k (k + nr) i ((k : Int) + (r : Int)) TD IN ME) ∧ Aside0 (rd TD (i : Int) = (s : Int) ∧ i < TD.length) ∧ Aside0 (Fr (fun k => b0 ≤ k) W0 W) ∧ b0 ≤ W.heap.size) (fun a _ => nr - (intOf a).toNat)
        case atStart => exact ⟨0, vt, TD, IN, ME, rfl, Nat.zero_le _, HE, HBF0, HPF, HFW, hWs⟩
        case round =>
          clear HE HBF HBF0 HPF HFW hWs l1 us0 hy
          obtain ⟨r, vt, TD, IN, ME, rfl, hrr, HE, HBF, HPF, HFW, hWs⟩ := hrel
          by_cases hlt : r < nr
          case neg =>
            obtain rfl : r = nr := by omega
            have HBN := Aside0.mk (HBF.out.next HC.out)
            have HVN := Aside0.mk HE.out.lay
            have hil := HPF.out.2
            have htd := HBF.out.td_le
            rw [HN.out] at htd
            go_wp2_with (fail)
            exact ⟨⟨i + 1, vt, TD, IN, ME, by go_num, by omega, by omega, HVN, HBN, HFW, hWs⟩, by simp [intOf]; omega⟩
          case pos =>
          obtain ⟨ade, hade, e0⟩ := Kd.at_int HGR.out (r : Int) (by omega) (by omega)
          obtain ⟨x, hx⟩ : ∃ x, rd grow (r : Int) = x := ⟨_, rfl⟩
          have HXE := Aside0.mk hx
          simp only [Int.toNat_natCast, hx] at e0
          have eb0 := World.block_lt_of_cell? w _ e0
          have hn0 : ¬ b0 ≤ (ade.add r).block := by have := HP.out; have := HW.out; omega
          replace e0 := (HOLD.out wr HFW.out).cell e0 hn0
          subst hade
          clear hx eb0
          by_cases hx0 : 0 ≤ x
          case neg =>
            have HBN := Aside0.mk (show Bfs T k (k + nr) i ((k : Int) + (r : Int) + 1) TD IN ME from HBF.out.skip HPF.out.2 (by omega) (fun q he => by
              rw [HPF.out.1, Int.toNat_natCast] at he
              rcases he with ⟨k', e, h1, _⟩ | ⟨r', e, h1, h2⟩
              · rw [HROW.out, wide1] at h1
                omega
              · obtain rfl : r = r' := by omega
                rw [HGROW.out, HXE.out] at h2
                omega))
            have HBN2 := Aside0.mk (show Bfs T k (k + nr) i ((k : Int) + ((r + 1 : Nat) : Int)) TD IN ME from by have h := HBN.out; rwa [show (k : Int) + (r : Int) + 1 = (k : Int) + ((r + 1 : Nat) : Int) by omega] at h)
            go_wp2_with (fail)
            exact ⟨⟨r + 1, vt, TD, IN, ME, by go_num, by omega, HE, HBN2, HPF, HFW, hWs⟩, by simp [intOf]; omega⟩
          case pos =>
          obtain ⟨q, rfl⟩ := Int.eq_ofNat_of_zero_le hx0
          have HED := Aside0.mk (show IsEd T k (rd TD (i : Int)).toNat ((k : Int) + (r : Int)) q from by
            rw [HPF.out.1, Int.toNat_natCast]
            exact .inr ⟨r, rfl, by rw [HGROW.out]; omega, by rw [HGROW.out]; exact HXE.out⟩)
          have hq : q < n := by
            have h := (HC.out.ed (s := s) (by rw [HN.out]; exact hsn) (by have := HED.out; rwa [HPF.out.1, Int.toNat_natCast] at this)).2.2
            rw [HN.out] at h
            exact h
          have HST := Aside0.mk (HBF.out.step HC.out HPF.out.2 (by omega) HED.out)
          have hcn := HBF.out.cnt q
          have htd := HBF.out.td_le
          have hmul : i * (k + nr) ≤ 4096 * 2097152 := Nat.mul_le_mul hi4 (by omega)
          have HCL := Aside0.mk (step_calls wr b0 ui us um ut gi ci gm cm n s ((k : Int) + (r : Int)) q IN ME vt TD HE.out hq hWs (by omega) (by rw [HN.out] at htd; omega))
          have k0 := (blk_cell (HFW.out.blk HP0.out HPL.out.1) 0).trans (show _ = some (Value.slice A0 k c0) from rfl)
          clear hcn htd hmul
          go_wp2_with (fail)
          refine HCL.out.mono ?_
          rintro e W5 ⟨rfl, hF5, vt5, hE5⟩
          have HE5 := Aside0.mk hE5
          have HFW5 := Aside0.mk (HFW.out.trans hF5 (fun k _ h => h))
          have hWs5 : b0 ≤ W5.heap.size := Nat.le_trans hWs hF5.size
          have HPF5 := Aside0.mk (show rd (if rdOf false ME (q : Int) = true then TD else TD ++ [(q : Int)]) (i : Int) = (s : Int) ∧ i < (if rdOf false ME (q : Int) = true then TD else TD ++ [(q : Int)]).length from by
            split
            · exact HPF.out
            · exact ⟨by rw [rd_snoc HPF.out.2]; exact HPF.out.1, by rw [List.length_append]; have := HPF.out.2; omega⟩)
          have HST2 := Aside0.mk (show Bfs T k (k + nr) i ((k : Int) + ((r + 1 : Nat) : Int)) (if rdOf false ME (q : Int) = true then TD else TD ++ [(q : Int)]) (IN.set q (rd_L2 IN (q : Int) ++ [⟨(s : Int), (k : Int) + (r : Int)⟩])) (if rdOf false ME (q : Int) = true then ME else ME.set q true) from by
            have h := HST.out
            rwa [HPF.out.1, show (k : Int) + (r : Int) + 1 = (k : Int) + ((r + 1 : Nat) : Int) by omega] at h)
          clear hF5 hE5 HST HCL k0 e0
          go_wp2_with (fail)
          exact ⟨⟨r + 1, _, _, _, _, by go_num, by omega, HE5, HST2, HPF5, HFW5, hWs5⟩, by simp [intOf]; omega⟩
      case pos =>
      obtain ⟨ade, hade, e0, e1⟩ := at_T48 HCR.out (k : Int) (by omega) (by omega)
      obtain ⟨x, hx⟩ : ∃ x, rd_T48 row (k : Int) = x := ⟨_, rfl⟩
      have HXE := Aside0.mk hx
      simp only [Int.toNat_natCast, hx] at e0 e1
      have eb0 := World.block_lt_of_cell? w _ e0
      have eb1 := World.block_lt_of_cell? w _ e1
      have hn0 : ¬ b0 ≤ (ade.add (k * 2)).block := by have := HP.out; have := HW.out; omega
      replace e0 := (HOLD.out wr HFW.out).cell e0 hn0
      replace e1 := (HOLD.out wr HFW.out).cell e1 hn0
      subst hade
      clear hx eb0 eb1
      obtain ⟨xf, xn⟩ := x
      simp only at e0 e1
      go_upto_region 13 with (fail)
      have HEA := Aside0.mk (HE.out.fr ((Fr.refl (fun _ => False) wr).alloc (.cells #[.int .i64 xf, .int .i64 xn] 48)))
      have HFA := Aside0.mk (HFW.out.alloc (.cells #[.int .i64 xf, .int .i64 xn] 48))
      have HXB := Aside0.mk (blk_new wr (.cells #[.int .i64 xf, .int .i64 xn] 48))
      have hsA := World.size_alloc wr (.cells #[.int .i64 xf, .int .i64 xn] 48)
      obtain ⟨bx, hbx⟩ : ∃ b, wr.heap.size = b := ⟨_, rfl⟩
      obtain ⟨WA, hWA⟩ : ∃ W, wr.alloc (.cells #[.int .i64 xf, .int .i64 xn] 48) = W := ⟨_, rfl⟩
      rw [hWA] at HEA HFA HXB hsA
      rw [hbx] at HXB hsA hWs
      simp only [hWA, hbx]
      have hWA2 : b0 ≤ WA.heap.size := by omega
      clear HE HFW e0 e1 hbx hWA hsA hWs
      have x0 := (blk_cell HXB.out 0).trans (show _ = some (Value.int .i64 xf) from rfl)
      have x1 := (blk_cell HXB.out 1).trans (show _ = some (Value.int .i64 xn) from rfl)
      by_cases hf : xf = 1
      case neg =>
        have hfb : (xf == 1) = false := beq_eq_false_iff_ne.2 hf
        have HBN := Aside0.mk (show Bfs T nk (nk + nr) i ((k : Int) + 1) TD IN ME from HBF.out.skip HPF.out.2 (by omega) (fun q he => by
          rw [HPF.out.1, Int.toNat_natCast] at he
          rcases he with ⟨k', e, h1, h2, _⟩ | ⟨r', e, h1, h2⟩
          · obtain rfl : k = k' := by omega
            rw [HROW.out, HXE.out] at h2
            exact hf h2
          · omega))
        have HBN2 := Aside0.mk (show Bfs T nk (nk + nr) i ((k + 1 : Nat) : Int) TD IN ME from by have h := HBN.out; rwa [show (k : Int) + 1 = ((k + 1 : Nat) : Int) by omega] at h)
        clear hf
        go_wp2_with (fail)
        exact ⟨⟨k + 1, vt, TD, IN, ME, by go_num, by omega, HEA, HBN2, HPF, HFA, hWA2⟩, by simp [intOf]; omega⟩
      case pos =>
      subst hf
      have HSH := Aside0.mk (HC.out.shift (s := s) (k := k) (by rw [HN.out]; exact hsn) hlt (by rw [HROW.out, HXE.out]))
      obtain ⟨q, rfl⟩ := Int.eq_ofNat_of_zero_le (show 0 ≤ xn by have h := HSH.out.1; rw [HROW.out, HXE.out] at h; exact h)
      have hq : q < n := by
        have h := HSH.out.2
        rw [HROW.out, HXE.out, HN.out] at h
        simp only at h
        omega
      have HED := Aside0.mk (show IsEd T nk (rd TD (i : Int)).toNat (k : Int) q from by
        rw [HPF.out.1, Int.toNat_natCast]
        exact .inl ⟨k, rfl, by rw [HROW.out]; omega, by rw [HROW.out, HXE.out], by rw [HROW.out, HXE.out]⟩)
      have HST := Aside0.mk (HBF.out.step HC.out HPF.out.2 (by omega) HED.out)
      have hcn := HBF.out.cnt q
      have htd := HBF.out.td_le
      have hmul : i * (nk + nr) ≤ 4096 * 2097152 := Nat.mul_le_mul hi4 (by omega)
      have HCL := Aside0.mk (step_calls WA b0 ui us um ut gi ci gm cm n s (k : Int) q IN ME vt TD HEA.out hq hWA2 (by omega) (by rw [HN.out] at htd; omega))
      clear hcn htd hmul
      go_wp2_with (fail)
      refine HCL.out.mono ?_
      rintro e W5 ⟨rfl, hF5, vt5, hE5⟩
      have HE5 := Aside0.mk hE5
      have HFW5 := Aside0.mk (HFA.out.trans hF5 (fun k _ h => h))
      have hWs5 : b0 ≤ W5.heap.size := Nat.le_trans hWA2 hF5.size
      have HPF5 := Aside0.mk (show rd (if rdOf false ME (q : Int) = true then TD else TD ++ [(q : Int)]) (i : Int) = (s : Int) ∧ i < (if rdOf false ME (q : Int) = true then TD else TD ++ [(q : Int)]).length from by
        split
        · exact HPF.out
        · exact ⟨by rw [rd_snoc HPF.out.2]; exact HPF.out.1, by rw [List.length_append]; have := HPF.out.2; omega⟩)
      have HST2 := Aside0.mk (show Bfs T nk (nk + nr) i ((k + 1 : Nat) : Int) (if rdOf false ME (q : Int) = true then TD else TD ++ [(q : Int)]) (IN.set q (rd_L2 IN (q : Int) ++ [⟨(s : Int), (k : Int)⟩])) (if rdOf false ME (q : Int) = true then ME else ME.set q true) from by
        have h := HST.out
        rwa [HPF.out.1, show (k : Int) + 1 = ((k + 1 : Nat) : Int) by omega] at h)
      clear hF5 hE5 HST HCL x0 x1
      go_wp2_with (fail)
      exact ⟨⟨k + 1, _, _, _, _, by go_num, by omega, HE5, HST2, HPF5, HFW5, hWs5⟩, by simp [intOf]; omega⟩
end Go.Proofs.Ytlpmjmanmncmnaa.Tab
/-
Whether a table is sound for a grammar: table.Sound, walked.
-/
set_option linter.unusedSimpArgs false
set_option linter.unusedVariables false
namespace Go.Proofs.Ytlpmjmanmncmnaa.Tab
open Go.RowKit Go.Maps Go.Proofs.YtlpmjmanmncmnaaW.PrintWords Go.Proofs.YtlpmjmanmncmnaaW.PrintLast Go.Proofs.YtlpmjmanmncmnaaW.PrintMore Go.Proofs.Ytlpmjmanmncmnaa.Fr Go.Proofs.Ytlpmjmanmncmnaa.PT
open Go.Proofs.Ytlpmjmanmncmnaa.Gram (Gr GAt CheckOk base_true)
/-- A table may be, for a grammar. -/
def TabOk (G : Gr) (T : Tb) : Prop := ¬ bad1 G.kinds.length G.rules.length G.prods.length ∧ ¬ bad2 T ∧ ∀ s : Nat, s < T.mv.length → StOk T G.kinds.length G.rules.length G.prods.length s
theorem TabOk.chk {G : Gr} {T : Tb} (h : TabOk G T) : TChk T G.kinds.length G.rules.length G.prods.length := by
  obtain ⟨_, h2, h3⟩ := h
  unfold bad2 at h2
  exact ⟨by omega, by omega, by omega, fun s hs => (h3 s hs).1, fun s hs => (h3 s hs).2⟩
theorem chk_iff {G : Gr} {T : Tb} {r : Int} (h : IsChk T G.kinds.length G.rules.length G.prods.length r) : r = 0 ↔ TabOk G T := by
  by_cases b1 : bad1 G.kinds.length G.rules.length G.prods.length
  · rw [h.one b1]
    exact ⟨fun h => by omega, fun h => absurd b1 h.1⟩
  · by_cases b2 : bad2 T
    · rw [h.two b1 b2]
      exact ⟨fun h => by omega, fun h => absurd b2 h.2.1⟩
    · by_cases b3 : ∀ s : Nat, s < T.mv.length → StOk T G.kinds.length G.rules.length G.prods.length s
      · exact ⟨fun _ => ⟨b1, b2, b3⟩, fun _ => h.ok b1 b2 b3⟩
      · refine ⟨fun e => ?_, fun h => absurd h.2.2 b3⟩
        obtain ⟨s, hs⟩ := Classical.not_forall.1 b3
        obtain ⟨hs, hn⟩ := Classical.not_imp.1 hs
        have := h.no b1 b2 s hs hn
        omega
/-- What Sound answers. -/
structure IsSnd (G : Gr) (T : Tb) (r f : Int) : Prop where
  gr : ¬ CheckOk G → r = 0 ∧ f = 130
  tb : CheckOk G → ¬ TabOk G T → r = 0 ∧ f = 170
  ok : CheckOk G → TabOk G T → (∀ s : Nat, Rc T G.kinds.length s → StSound T G.kinds.length G s) → r = 0 ∧ f = 0
  no : CheckOk G → TabOk G T → ∀ s : Nat, Rc T G.kinds.length s → ¬ StSound T G.kinds.length G s → (∀ s1 : Nat, s1 < s → Rc T G.kinds.length s1 → StSound T G.kinds.length G s1) → r = s ∧ f = 170
theorem least_snd {T : Tb} {nk : Nat} {G : Gr} : ∀ n : Nat, (∀ s : Nat, s < n → Rc T nk s → StSound T nk G s) ∨ ∃ s : Nat, s < n ∧ Rc T nk s ∧ ¬ StSound T nk G s ∧ ∀ s1 : Nat, s1 < s → Rc T nk s1 → StSound T nk G s1
  | 0 => .inl fun s hs => absurd hs (by omega)
  | n + 1 => by
    rcases least_snd (T := T) (nk := nk) (G := G) n with h | ⟨s, h1, h2⟩
    · by_cases hn : Rc T nk n ∧ ¬ StSound T nk G n
      · exact .inr ⟨n, by omega, hn.1, hn.2, h⟩
      · refine .inl fun s hs hr => ?_
        by_cases e : s = n
        · subst e
          exact Classical.byContradiction fun h2 => hn ⟨hr, h2⟩
        · exact h s (by omega) hr
    · exact .inr ⟨s, by omega, h2⟩
theorem IsSnd.one {G : Gr} {T : Tb} {r f r1 f1 : Int} (h : IsSnd G T r f) (k : IsSnd G T r1 f1) : r = r1 ∧ f = f1 := by
  by_cases b1 : CheckOk G
  · by_cases b2 : TabOk G T
    · rcases least_snd (T := T) (nk := G.kinds.length) (G := G) T.mv.length with b3 | ⟨s, h1, h2, h3, h4⟩
      · have := h.ok b1 b2 (fun s hs => b3 s (b2.chk.rc hs) hs)
        have := k.ok b1 b2 (fun s hs => b3 s (b2.chk.rc hs) hs)
        omega
      · have := h.no b1 b2 s h2 h3 h4
        have := k.no b1 b2 s h2 h3 h4
        omega
    · have := h.tb b1 b2
      have := k.tb b1 b2
      omega
  · have := h.gr b1
    have := k.gr b1
    omega
def SndPost (w : World) (G : Gr) (T : Tb) (e : Ending) (w' : World) : Prop := ∃ r f : Int, e = .returned (.tuple #[.int .i64 r, .int .i64 f]) ∧ IsSnd G T r f ∧ Fr (fun _ => False) w w'
set_option maxHeartbeats 8000000 in
set_option maxRecDepth 100000 in
theorem tsound_calls (w : World) (T : Tb) (G : Gr) (B0 B1 : Option Addr) (d0 d1 : Nat) (hT : TAt w T B0 B1 d0 d1) (A0 A1 A2 A3 : Option Addr) (c0 c1 c2 c3 : Nat) (hG : GAt w G A0 A1 A2 A3 c0 c1 c2 c3) :
    Calls Try.prog 30 #[.agg #[.slice A0 G.kinds.length c0, .slice A1 G.precs.length c1, .slice A2 G.rules.length c2, .slice A3 G.prods.length c3, .int .i64 G.start], .agg #[.slice B0 T.mv.length d0, .slice B1 T.gt.length d1]] w (SndPost w G T) := by
  have hu := Try.underlying72
  have hu2 := Try.underlying25
  have hm0 := Kd.C_max hG.kinds
  have hm2 := Kd.C_max hG.rules
  have hm3 := Kd.C_max hG.prods
  have HT := Aside0.mk hT
  have HG := Aside0.mk hG
  clear hT hG
  obtain ⟨vp, hvp⟩ : ∃ vp, (#[.slice A0 G.kinds.length c0, .slice A1 G.precs.length c1, .slice A2 G.rules.length c2, .slice A3 G.prods.length c3, .int .i64 G.start] : Array Value) = vp := ⟨_, rfl⟩
  obtain ⟨vt, hvt⟩ : ∃ vt, (#[.slice B0 T.mv.length d0, .slice B1 T.gt.length d1] : Array Value) = vt := ⟨_, rfl⟩
  have HW0 := Aside0.mk (EnW.new w vp vt)
  rw [← hvp, ← hvt] at HW0
  have HVP := Aside0.mk hvp
  have HVT := Aside0.mk hvt
  clear hvp hvt
  go_enter Try.func30, Try.ntmps30
  go_upto_region 1 with (fail)
  obtain ⟨W0, hW0⟩ : ∃ W0, ((w.alloc (.cells #[.slice A0 G.kinds.length c0, .slice A1 G.precs.length c1, .slice A2 G.rules.length c2, .slice A3 G.prods.length c3, .int .i64 G.start] 72)).alloc (.cells #[.slice B0 T.mv.length d0, .slice B1 T.gt.length d1] 25)) = W0 := ⟨_, rfl⟩
  rw [hW0] at HW0
  simp only [hW0]
  clear hW0
  rw [HVP.out, HVT.out] at HW0
  obtain ⟨p0, hp0⟩ : ∃ p0, w.heap.size = p0 := ⟨_, rfl⟩
  have HP0 := Aside0.mk hp0
  simp only [hp0]
  obtain ⟨p1, hp1⟩ : ∃ p1, p0 + 1 = p1 := ⟨_, rfl⟩
  have HP1 := Aside0.mk hp1
  simp only [hp1]
  clear hp0 hp1
  have HBX := Aside0.mk (show ∀ W, EnW w W vp vt → (W.cell? ⟨p0, 0, none⟩ = some (.slice A0 G.kinds.length c0) ∧ W.cell? ⟨p0, 1, none⟩ = some (.slice A1 G.precs.length c1) ∧ W.cell? ⟨p0, 2, none⟩ = some (.slice A2 G.rules.length c2) ∧ W.cell? ⟨p0, 3, none⟩ = some (.slice A3 G.prods.length c3) ∧ W.cell? ⟨p0, 4, none⟩ = some (.int .i64 G.start)) ∧ W.cell? ⟨p1, 0, none⟩ = some (.slice B0 T.mv.length d0) ∧ W.cell? ⟨p1, 1, none⟩ = some (.slice B1 T.gt.length d1) from fun W h => by
    have h0 := h.b0
    have h1 := h.b1
    rw [HP0.out, ← HVP.out] at h0
    rw [HP0.out, HP1.out, ← HVT.out] at h1
    exact ⟨⟨(blk_cell h0 0).trans rfl, (blk_cell h0 1).trans rfl, (blk_cell h0 2).trans rfl, (blk_cell h0 3).trans rfl, (blk_cell h0 4).trans rfl⟩, (blk_cell h1 0).trans rfl, (blk_cell h1 1).trans rfl⟩)
  obtain ⟨⟨k0, k1, k2, k3, k4⟩, l0, l1⟩ := HBX.out _ HW0.out
  have HC1 := Aside0.mk (Gram.check_calls W0 G A0 A1 A2 A3 c0 c1 c2 c3 (HG.out.go HW0.out.fr))
  go_wp2_with (fail)
  refine HC1.out.mono ?_
  rintro e W1 ⟨⟨e1, rfl, hz1, hv1⟩, hF1⟩
  have HW1 := Aside0.mk (HW0.out.go hF1)
  have HZ1 := Aside0.mk hz1
  clear hF1 HC1 HW0 k0 k1 k2 k3 k4 l0 l1 hz1
  by_cases he1 : e1 = 0
  case neg =>
    have HN := Aside0.mk (fun h => he1 (HZ1.out.2 h))
    go_wp2_with (fail)
    go_ret2
    exact ⟨0, 130, rfl, ⟨fun _ => ⟨rfl, rfl⟩, fun h => absurd h HN.out, fun h => absurd h HN.out, fun h => absurd h HN.out⟩, HW1.out.fr⟩
  case pos =>
  subst he1
  have HOK := Aside0.mk (HZ1.out.1 rfl)
  obtain ⟨⟨k0, k1, k2, k3, k4⟩, l0, l1⟩ := HBX.out _ HW1.out
  have HC2 := Aside0.mk (check_calls W1 T B0 B1 d0 d1 (HT.out.fr HW1.out.fr) G.kinds.length G.rules.length G.prods.length)
  clear hv1 HZ1
  go_wp2_with (fail)
  refine HC2.out.mono ?_
  rintro e W2 ⟨e2, rfl, hz2, hF2⟩
  have HW2 := Aside0.mk (HW1.out.go hF2)
  have HZ2 := Aside0.mk (chk_iff hz2)
  clear hF2 HC2 HW1 k0 k1 k2 k3 k4 l0 l1 hz2
  by_cases he2 : e2 = 0
  case neg =>
    have HN := Aside0.mk (fun h => he2 (HZ2.out.2 h))
    go_wp2_with (fail)
    go_ret2
    exact ⟨0, 170, rfl, ⟨fun h => absurd HOK.out h, fun _ _ => ⟨rfl, rfl⟩, fun _ h => absurd h HN.out, fun _ h => absurd h HN.out⟩, HW2.out.fr⟩
  case pos =>
  subst he2
  have HTO := Aside0.mk (HZ2.out.1 rfl)
  have HCK := Aside0.mk HTO.out.chk
  have hnk : G.kinds.length ≤ 1048576 := by have := HOK.out.kinds.max; omega
  have hrl := (base_true HOK.out.base).2.2.1
  have hs0 := (base_true HOK.out.base).2.2.2.1
  have hs1 := (base_true HOK.out.base).2.2.2.2.1
  obtain ⟨⟨k0, k1, k2, k3, k4⟩, l0, l1⟩ := HBX.out _ HW2.out
  have HC3 := Aside0.mk (edges_calls W2 T G.kinds.length G.rules.length G.prods.length HCK.out hnk (by omega) B0 B1 d0 d1 (HT.out.fr HW2.out.fr) A0 A1 A2 A3 c0 c1 c2 c3 G.precs.length G.rules.length G.prods.length G.start)
  clear HZ2
  go_wp2_with (fail)
  refine HC3.out.mono ?_
  rintro e W3 ⟨hF3, gi, ci, gm, cm, IN, ME, rfl, hED, hS3, hM3⟩
  have HW3 := Aside0.mk (HW2.out.go hF3)
  have HE := Aside0.mk hED
  have HI := Aside0.mk (show Kd.C kE W3 (some ⟨gi, 0, none⟩) T.mv.length IN from by
    obtain ⟨h1, _, h2⟩ := Kd.S_reads' hS3
    rw [h1]
    exact h2)
  have HM := Aside0.mk hM3
  clear hF3 HC3 HW2 k0 k1 k2 k3 k4 l0 l1 hED hS3 hM3
  obtain ⟨⟨k0, k1, k2, k3, k4⟩, l0, l1⟩ := HBX.out _ HW3.out
  have HFR := Aside0.mk (Fr.refl (fun _ => False) W3)
  have HAL := Aside0.mk (show ∀ s : Nat, s < 0 → Rc T G.kinds.length s → StSound T G.kinds.length G s from fun s hs => absurd hs (by omega))
  have hmax := HCK.out.max
  go_wp2_with (fail)
  go_loopw [33] (fun a W => ∃ i : Nat, a = .int .i64 i ∧ i ≤ T.mv.length ∧ Aside0 (EnW w W vp vt) ∧ Aside0 (Fr (fun _ => False) W3 W) ∧ Aside0 (∀ s : Nat, s < i → Rc T G.kinds.length s → StSound T G.kinds.length G s)) (fun a _ => T.mv.length - (intOf a).toNat)
  case atStart => exact ⟨0, rfl, Nat.zero_le _, HW3, HFR, HAL⟩
  case round =>
    clear HW3 HFR HAL k0 k1 k2 k3 k4 l0 l1
    obtain ⟨i, rfl, hi, HW, HFR, HAL⟩ := hrel
    by_cases hlt : i < T.mv.length
    case neg =>
      obtain rfl : i = T.mv.length := by omega
      go_wp2_with (fail)
      go_ret2
      exact ⟨0, 0, rfl, ⟨fun h => absurd HOK.out h, fun _ h => absurd HTO.out h, fun _ _ _ => ⟨rfl, rfl⟩, fun _ _ s hr hn _ => absurd (HAL.out s (HCK.out.rc hr) hr) hn⟩, HW.out.fr⟩
    case pos =>
    have hi0 : (0 : Int) ≤ (i : Int) := by omega
    have hi1 : (i : Int) < (T.mv.length : Int) := by omega
    have m0 := HFR.out.cell (Kd.R_celln false HM.out (i : Int) hi0 hi1).1 id
    simp only [Int.toNat_natCast] at m0
    have HME := Aside0.mk (HE.out.me i hlt)
    obtain ⟨c, hc⟩ : ∃ c, rdOf false ME (i : Int) = c := ⟨_, rfl⟩
    rw [hc] at m0 HME
    clear hc
    cases c with
    | false =>
      have HNX := Aside0.mk (show ∀ s : Nat, s < i + 1 → Rc T G.kinds.length s → StSound T G.kinds.length G s from fun s hs hr => by
        by_cases e : s = i
        · subst e
          exact absurd (HME.out.2 hr) (by decide)
        · exact HAL.out s (by omega) hr)
      go_wp2_with (fail)
      exact ⟨⟨i + 1, by go_num, by omega, HW, HFR, HNX⟩, by simp [intOf]; omega⟩
    | true =>
      have HRI := Aside0.mk (HME.out.1 rfl)
      have HC4 := Aside0.mk (sound_calls wr T G.rules.length G HCK.out B0 B1 d0 d1 (HT.out.fr HW.out.fr) A0 A1 A2 A3 c0 c1 c2 c3 (HG.out.go HW.out.fr) IN ME HE.out (some ⟨gi, 0, none⟩) ci (Kd.C_below HI.out HFR.out.to_below) hnk hs0 (by omega) (fun p hp => ⟨(HOK.out.prods p hp).l0, (HOK.out.prods p hp).l1⟩) i HRI.out)
      obtain ⟨⟨k0, k1, k2, k3, k4⟩, l0, l1⟩ := HBX.out _ HW.out
      go_wp2_with (fail)
      refine HC4.out.mono ?_
      rintro e W4 ⟨b, rfl, hiff, hF4⟩
      have HW4 := Aside0.mk (HW.out.go hF4)
      have HFR4 := Aside0.mk (HFR.out.trans hF4 (fun _ _ h => h))
      have HIF := Aside0.mk hiff
      clear hiff hF4 HC4 HW HFR m0 k0 k1 k2 k3 k4 l0 l1
      cases b with
      | false =>
        go_wp2_with (fail)
        go_ret2
        have hno : ¬ StSound T G.kinds.length G i := fun h => by have h1 := HIF.out.2 h; cases h1
        refine ⟨i, 170, rfl, ⟨fun h => absurd HOK.out h, fun _ h => absurd HTO.out h, fun _ _ h => absurd (h i HRI.out) hno, fun _ _ s hr hn hl => ?_⟩, HW4.out.fr⟩
        have h1 : ¬ s < i := fun h => hn (HAL.out s h hr)
        have h2 : ¬ i < s := fun h => hno (hl i h HRI.out)
        exact ⟨by omega, rfl⟩
      | true =>
        have HNX := Aside0.mk (show ∀ s : Nat, s < i + 1 → Rc T G.kinds.length s → StSound T G.kinds.length G s from fun s hs hr => by
          by_cases e : s = i
          · subst e
            exact HIF.out.1 rfl
          · exact HAL.out s (by omega) hr)
        go_wp2_with (fail)
        exact ⟨⟨i + 1, by go_num, by omega, HW4, HFR4, HNX⟩, by simp [intOf]; omega⟩
end Go.Proofs.Ytlpmjmanmncmnaa.Tab
/-
The reference's marks and edges as they grow: in plain Lean.
-/
set_option linter.unusedSimpArgs false
set_option linter.unusedVariables false
namespace Go.Proofs.Ytlpmjmanmncmnaa.Tab
open Go.RowKit Go.Maps Go.Proofs.YtlpmjmanmncmnaaW.PrintWords Go.Proofs.YtlpmjmanmncmnaaW.PrintLast Go.Proofs.YtlpmjmanmncmnaaW.PrintMore Go.Proofs.Ytlpmjmanmncmnaa.Fr Go.Proofs.Ytlpmjmanmncmnaa.PT
/-- Marks of states to which ways lead. -/
structure Mk (T : Tb) (nk : Nat) (RE : List Bool) : Prop where
  len : RE.length = T.mv.length
  snd : ∀ q : Nat, rdOf false RE (q : Int) = true → Rc T nk q
  z : rdOf false RE (0 : Int) = true
/-- One pass over the states below i: nothing was marked, and they are closed; or something was. -/
structure Ps (T : Tb) (nk : Nat) (RE0 : List Bool) (i : Nat) (b : Bool) (RE : List Bool) : Prop where
  marks : Mk T nk RE
  no : b = false → RE = RE0 ∧ ∀ (s q : Nat) (y : Int), s < i → rdOf false RE0 (s : Int) = true → IsEd T nk s y q → rdOf false RE0 (q : Int) = true
  yes : b = true → RE0.count true < RE.count true
section
variable {T : Tb} {nk nr np i : Nat} {RE0 RE RE1 : List Bool} {b b1 : Bool}
theorem Mk.start (hC : TChk T nk nr np) : Mk T nk ((List.replicate T.mv.length false).set 0 true) := by
  have h1 := hC.one
  have hs : ∀ q : Nat, rdOf false ((List.replicate T.mv.length false).set 0 true) (q : Int) = if q = 0 then true else false := fun q => by
    rw [rdOf_setT (by rw [List.length_replicate]; omega), rdOf_no]
  refine ⟨by simp, fun q hq => ?_, hs 0⟩
  rw [hs] at hq
  split at hq
  · rename_i e
    rw [e]
    exact Rc.zero
  · cases hq
theorem Mk.rc (h : Mk T nk RE) (hcl : ∀ (s q : Nat) (y : Int), rdOf false RE (s : Int) = true → IsEd T nk s y q → rdOf false RE (q : Int) = true) (q : Nat) : rdOf false RE (q : Int) = true ↔ Rc T nk q := by
  refine ⟨h.snd q, fun hq => ?_⟩
  induction hq with
  | zero => exact h.z
  | step _ he ih => exact hcl _ _ _ ih he
theorem Ps.start (h : Mk T nk RE0) : Ps T nk RE0 0 false RE0 := ⟨h, fun _ => ⟨rfl, fun s q y hs => by omega⟩, fun h => (by cases h)⟩
theorem Ps.skip (h : Ps T nk RE0 i b RE) (h0 : rdOf false RE (i : Int) = false) : Ps T nk RE0 (i + 1) b RE := by
  refine ⟨h.marks, fun e => ⟨(h.no e).1, fun s q y hs h1 h2 => ?_⟩, h.yes⟩
  by_cases es : s = i
  · subst es
    rw [(h.no e).1] at h0
    rw [h0] at h1
    cases h1
  · exact (h.no e).2 s q y (by omega) h1 h2
theorem Ps.step (h : Ps T nk RE0 i b RE) (h0 : rdOf false RE (i : Int) = true) (hl : RE1.length = RE.length) (hi : ∀ q : Nat, rdOf false RE1 (q : Int) = true ↔ rdOf false RE (q : Int) = true ∨ ∃ y : Int, IsEd T nk i y q) (hno : b1 = false → RE1 = RE) (hyes : b1 = true → RE.count true < RE1.count true) :
    Ps T nk RE0 (i + 1) (b1 || b) RE1 := by
  refine ⟨⟨by rw [hl]; exact h.marks.len, fun q hq => ?_, (hi 0).2 (.inl h.marks.z)⟩, fun e => ?_, fun e => ?_⟩
  · rcases (hi q).1 hq with h1 | ⟨y, h1⟩
    · exact h.marks.snd q h1
    · exact Rc.step (h.marks.snd i h0) h1
  · rw [Bool.or_eq_false_iff] at e
    have e1 := hno e.1
    obtain ⟨e2, h2⟩ := h.no e.2
    subst e1
    refine ⟨e2, fun s q y hs h3 h4 => ?_⟩
    by_cases es : s = i
    · subst es
      rw [← e2]
      exact (hi q).2 (.inr ⟨y, h4⟩)
    · exact h2 s q y (by omega) h3 h4
  · have key : RE.count true ≤ RE1.count true := by
      cases b1 with
      | true => exact Nat.le_of_lt (hyes rfl)
      | false => rw [hno rfl]; exact Nat.le_refl _
    cases b1 with
    | true =>
      have h1 := hyes rfl
      cases b with
      | true => have := h.yes rfl; omega
      | false => have := (h.no rfl).1; rw [this] at h1; exact h1
    | false =>
      have := h.yes (by simpa using e)
      omega
theorem Ps.done (h : Ps T nk RE0 i false RE) (hi : i = T.mv.length) (q : Nat) : rdOf false RE (q : Int) = true ↔ Rc T nk q := by
  obtain ⟨e, h2⟩ := h.no rfl
  refine h.marks.rc (fun s q y h3 h4 => ?_) q
  have hs : s < i := by
    have hl := h.marks.len
    by_cases hs : s < i
    · exact hs
    · exfalso
      have h5 : rdOf false RE (s : Int) = false := by
        simp only [rdOf, Int.toNat_natCast, List.getD_eq_getElem?_getD]
        rw [List.getElem?_eq_none (by omega)]
        rfl
      rw [h5] at h3
      cases h3
  rw [e] at h3 ⊢
  exact h2 s q y hs h3 h4
theorem Mk.le (h : Mk T nk RE) : RE.count true ≤ T.mv.length := by
  rw [← h.len]
  exact List.count_le_length
end
/-- The edges of states below i, and of state i by the symbols below c. -/
structure WyN (T : Tb) (nk w i : Nat) (c : Int) (EL : List S115) : Prop where
  ins : ∀ x : S115, x ∈ EL ↔ (0 ≤ x.f0 ∧ 0 ≤ x.f2 ∧ Rc T nk x.f0.toNat ∧ IsEd T nk x.f0.toNat x.f1 x.f2.toNat) ∧ (x.f0 < i ∨ x.f0 = i ∧ x.f1 < c)
  cnt : EL.length ≤ i * w + c.toNat
section
variable {T : Tb} {nk nr np w i : Nat} {c : Int} {EL : List S115}
theorem WyN.start (hC : TChk T nk nr np) : WyN T nk w 0 0 [] := by
  refine ⟨fun x => ⟨fun h => (by cases h), fun ⟨⟨h1, h2, h3, h4⟩, h5⟩ => ?_⟩, by simp⟩
  have := (hC.ed (hC.rc h3) h4).1
  omega
theorem WyN.out (h : WyN T nk w i 0 EL) (hC : TChk T nk nr np) (hn : ¬ Rc T nk i) : WyN T nk w (i + 1) 0 EL := by
  refine ⟨fun x => ?_, by have := h.cnt; rw [Nat.succ_mul]; omega⟩
  rw [h.ins x]
  constructor
  · rintro ⟨h1, h2⟩
    exact ⟨h1, by omega⟩
  · rintro ⟨h1, h2⟩
    have := (hC.ed (hC.rc h1.2.2.1) h1.2.2.2).1
    by_cases e : x.f0 = i
    · have h3 := h1.2.2.1
      rw [e, Int.toNat_natCast] at h3
      exact absurd h3 hn
    · exact ⟨h1, by omega⟩
theorem WyN.skip (h : WyN T nk w i c EL) (hc : 0 ≤ c) (hn : ∀ q, ¬ IsEd T nk i c q) : WyN T nk w i (c + 1) EL := by
  refine ⟨fun x => ?_, by have := h.cnt; omega⟩
  rw [h.ins x]
  constructor
  · rintro ⟨h1, h2⟩
    exact ⟨h1, by omega⟩
  · rintro ⟨h1, h2⟩
    by_cases e : x.f0 = i ∧ x.f1 = c
    · have h3 := h1.2.2.2
      rw [e.1, e.2, Int.toNat_natCast] at h3
      exact absurd h3 (hn _)
    · exact ⟨h1, by omega⟩
theorem WyN.step (h : WyN T nk w i c EL) (hC : TChk T nk nr np) (hc : 0 ≤ c) (hi : Rc T nk i) {q : Nat} (he : IsEd T nk i c q) : WyN T nk w i (c + 1) (EL ++ [⟨i, c, q⟩]) := by
  refine ⟨fun x => ?_, by have := h.cnt; rw [List.length_append, List.length_singleton]; omega⟩
  rw [List.mem_append, h.ins x, List.mem_singleton]
  constructor
  · rintro (⟨h1, h2⟩ | rfl)
    · exact ⟨h1, by omega⟩
    · exact ⟨⟨by simp, by simp, by simpa using hi, by simpa using he⟩, .inr ⟨rfl, by simp only; omega⟩⟩
  · rintro ⟨h1, h2⟩
    by_cases e : x.f0 = i ∧ x.f1 = c
    · right
      obtain ⟨h3, h4, h5, h6⟩ := h1
      rw [e.1, e.2, Int.toNat_natCast] at h6
      have h7 := hC.one_ed (hC.rc hi) h6 he
      obtain ⟨a, y, p⟩ := x
      simp only at e h4 h7
      rw [e.1, e.2, show p = (q : Int) by omega]
    · exact .inl ⟨h1, by omega⟩
theorem WyN.next (h : WyN T nk (nk + nr) i ((nk : Int) + nr) EL) (hC : TChk T nk nr np) : WyN T nk (nk + nr) (i + 1) 0 EL := by
  refine ⟨fun x => ?_, by have := h.cnt; rw [Nat.succ_mul]; omega⟩
  rw [h.ins x]
  constructor
  · rintro ⟨h1, h2⟩
    exact ⟨h1, by omega⟩
  · rintro ⟨h1, h2⟩
    have := hC.ed (hC.rc h1.2.2.1) h1.2.2.2
    exact ⟨h1, by omega⟩
theorem WyN.done (h : WyN T nk w T.mv.length 0 EL) (hC : TChk T nk nr np) : IsWays T nk EL := by
  refine ⟨fun x => ?_⟩
  rw [h.ins x]
  constructor
  · exact fun h => h.1
  · intro h1
    have := hC.rc h1.2.2.1
    exact ⟨h1, by omega⟩
end
end Go.Proofs.Ytlpmjmanmncmnaa.Tab
/-
Of our texts of package gram: what the reference's Check wants.
-/
set_option linter.unusedSimpArgs false
set_option linter.unusedVariables false
namespace Go.Proofs.Ytlpmjmanmncmnaa.Gram
open Go.RowKit Go.Proofs.YtlpmjmanmncmnaaW.PrintWords Go.Proofs.YtlpmjmanmncmnaaW.PrintLast Go.Proofs.YtlpmjmanmncmnaaW.PrintMore Go.Proofs.Ytlpmjmanmncmnaa.Fr Go.Proofs.Ytlpmjmanmncmnaa.PT Go.Proofs.Ytlpmjmanmncmnaa.TextSet
theorem parts_ge (syms : Int) : ∀ (N : Nat) (a : S130), SizeOf.sizeOf a < N → ∀ n : Int, n + 1 ≤ (partsF syms a n).2
  | 0, _, h, _ => absurd h (Nat.not_lt_zero _)
  | N + 1, a, h, n => by
    have key : ∀ (l : List S130), (∀ k, k ∈ l → SizeOf.sizeOf k < N) → ∀ (ok : Bool) (n : Int), n ≤ (kidsF syms l ok n).2 := by
      intro l
      induction l with
      | nil => intro _ ok n; simp [kidsF]
      | cons k ks ih =>
        intro hk ok n
        simp only [kidsF]
        split
        · have h1 := parts_ge syms N k (hk k (List.mem_cons_self ..)) n
          have h2 := ih (fun x hx => hk x (List.mem_cons_of_mem _ hx)) (partsF syms k n).1 (partsF syms k n).2
          omega
        · exact ih (fun x hx => hk x (List.mem_cons_of_mem _ hx)) _ _
    rw [partsF_eq]
    refine key a.f3 (fun k hk => ?_) _ _
    have h2 := List.sizeOf_lt_of_mem hk
    have h3 : SizeOf.sizeOf a.f3 < SizeOf.sizeOf a := by
      cases a
      simp
      omega
    omega
theorem kids_false (syms : Int) : ∀ (l : List S130) (n : Int), (kidsF syms l false n).1 = false
  | [], n => by simp [kidsF]
  | k :: ks, n => by
    simp only [kidsF]
    rw [if_neg (by simp)]
    exact kids_false syms ks n
theorem mem_T130 {l : List S130} {i : Nat} (h : i < l.length) : rd_T130 l i ∈ l := by
  simp [rd_T130, List.getD_eq_getElem?_getD, h]
theorem drop_T130 {l : List S130} {i : Nat} (h : i < l.length) : l.drop i = rd_T130 l i :: l.drop (i + 1) := by
  rw [List.drop_eq_getElem_cons h]
  simp [rd_T130, List.getD_eq_getElem?_getD, h]
theorem namesF_iff {ok : Bool} {l : List ByteArray} : ∀ {k : Nat}, namesF ok l k = true ↔ ok = true ∧ ∀ j, j < k → nameF l j = true
  | 0 => ⟨fun h => ⟨h, fun j hj => by omega⟩, fun h => h.1⟩
  | k + 1 => by
    simp only [namesF, Bool.and_eq_true]
    rw [namesF_iff (k := k)]
    constructor
    · rintro ⟨⟨h1, h2⟩, h3⟩
      refine ⟨h1, fun j hj => ?_⟩
      by_cases e : j = k
      · rw [e]; exact h3
      · exact h2 j (by omega)
    · rintro ⟨h1, h2⟩
      exact ⟨⟨h1, fun j hj => h2 j (by omega)⟩, h2 k (by omega)⟩
theorem nameF_iff {l : List ByteArray} {k : Nat} : nameF l k = true ↔ (1 ≤ (rdS l k).size ∧ (rdS l k).size ≤ 4096) ∧ ¬ rdS l k ∈ l.take k := by
  simp only [nameF, Bool.and_eq_true, decide_eq_true_eq, Bool.not_eq_true', ← inS_iff (ks := l.take k)]
  constructor
  · rintro ⟨h1, h2, h3⟩
    exact ⟨⟨by omega, by omega⟩, by rw [h3]; decide⟩
  · rintro ⟨⟨h1, h2⟩, h3⟩
    exact ⟨by omega, by omega, by cases hb : inS (rdS l k) (l.take k) with
      | false => rfl
      | true => exact absurd hb h3⟩
end Go.Proofs.Ytlpmjmanmncmnaa.Gram
