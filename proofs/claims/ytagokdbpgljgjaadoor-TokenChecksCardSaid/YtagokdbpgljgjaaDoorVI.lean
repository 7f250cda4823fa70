/-
alive's row read back: token.Read, walked at its lines.
-/
import Derived.Test.YtagokdbpgljgjaaDoorVH
namespace Go.Proofs.YtagokdbpgljgjaaDoor.Tok
open Go.RowKit Go.Proofs.YtagokdbpgljgjaaDoorW.PrintWords Go.Proofs.YtagokdbpgljgjaaDoorW.PrintLast Go.Proofs.YtagokdbpgljgjaaDoorW.PrintMore Go.Proofs.YtagokdbpgljgjaaDoor.Fr Go.Proofs.YtagokdbpgljgjaaDoor.PGramFirsts Go.Proofs.YtagokdbpgljgjaaDoor.TextSet Go.Proofs.YtagokdbpgljgjaaDoor.Bld

/-- The library's first variable stands. -/
def Mx (w : World) : Prop := ∃ m, w.cell? ⟨0, 0, none⟩ = some (.int .i64 m)
theorem Mx.fr {w w1 : World} {S : Nat → Prop} (h : Mx w) (hF : Fr S w w1) (hS : ∀ k, k < w.heap.size → ¬ S k) : Mx w1 := by
  obtain ⟨m, hm⟩ := h
  exact ⟨m, hF.cell hm (hS _ (World.block_lt_of_cell? w _ hm))⟩
theorem cut_calls (W : World) (h : Mx W) : Calls Tryd.prog 40 #[.string line12, .string ⟨#[10]⟩] W fun e w' => e = .returned (.tuple #[.string lineCut, .string ⟨#[]⟩, .bool true]) ∧ Fr (fun _ => False) W w' := by
  obtain ⟨m, hm⟩ := h
  refine (Tryd.strings_Cut line12 ⟨#[10]⟩ m W (by decide) hm).mono ?_
  rintro e W2 ⟨rfl, n2, rfl⟩
  have h2 : Lib.cut line12.data.toList (⟨#[10]⟩ : ByteArray).data.toList = (lineCut.data.toList, [], true) := cut12
  rw [h2]
  exact ⟨rfl, (Fr.refl _ _).drewN _⟩
theorem split_calls (W : World) (h : Mx W) : Calls Tryd.prog 41 #[.string lineCut, .string ⟨#[32]⟩, .int .i64 4] W fun e w' => e = .returned (.slice (some ⟨W.heap.size, 0, none⟩) 4 4) ∧ w'.cell? ⟨W.heap.size, 0, none⟩ = some (.string ⟨#[110, 117, 109]⟩) ∧ w'.cell? ⟨W.heap.size, 1, none⟩ = some (.string (dec 0)) ∧ w'.cell? ⟨W.heap.size, 2, none⟩ = some (.string (dec 2)) ∧ Fr (fun _ => False) W w' := by
  obtain ⟨m, hm⟩ := h
  refine (Tryd.strings_SplitN lineCut ⟨#[32]⟩ 4 m W (by decide) hm (by decide) (by decide) (by decide)).mono ?_
  rintro e W2 ⟨rfl, rfl⟩
  rw [split12]
  have d0 : dec 0 = ⟨#[48]⟩ := by decide +kernel
  have d2 : dec 2 = ⟨#[50]⟩ := by decide +kernel
  rw [d0, d2]
  refine ⟨rfl, ?_, ?_, ?_, (Fr.refl _ _).alloc _⟩
  · exact (blk_cell (blk_new W _) 0).trans rfl
  · exact (blk_cell (blk_new W _) 1).trans rfl
  · exact (blk_cell (blk_new W _) 2).trans rfl
theorem find_calls (W : World) (A : Option Addr) (cp : Nat) (hcp : 3 ≤ cp) (hA : Kd.string.C W A 3 names3) : Calls Tryd.prog 11 #[.slice A 3 cp, .string ⟨#[110, 117, 109]⟩] W fun e w' => e = .returned (.tuple #[.int .i64 2, .bool true]) ∧ Fr (fun _ => False) W w' := by
  refine (token_Find.calls 10 A cp names3 _ 2 true W hA hcp find12).mono ?_
  rintro e W2 ⟨rfl, hd⟩
  exact ⟨rfl, Fr.drawn hd⟩
theorem line12_calls (W : World) (A : Option Addr) (cp : Nat) (hA : Kd.string.C W A 3 names3) : Calls Tryd.prog 36 #[.slice A 3 cp, .string src12, .agg #[.int .i64 2, .int .i64 0, .int .i64 2]] W fun e w' => e = .returned (.tuple #[.string line12, .bool true]) ∧ Fr (fun _ => False) W w' := by
  have hx : src12.extract 0 2 = src12 := by decide +kernel
  refine (line_calls W names3 A cp hA src12 2 0 2 (by decide) (by decide +kernel) (by decide) (by decide) (by decide) (by rw [hx]; exact plain12)).mono ?_
  rintro e W2 ⟨rfl, hF⟩
  rw [hx]
  have hn : rdOf ByteArray.empty names3 ((2 : Nat) : Int) = ⟨#[110, 117, 109]⟩ := by decide +kernel
  rw [hn, line12_eq]
  exact ⟨rfl, hF⟩
set_option maxHeartbeats 4000000 in
set_option maxRecDepth 100000 in
theorem read_calls (w : World) (A : Option Addr) (cp : Nat) (hcp : 3 ≤ cp) (hA : Kd.string.C w A 3 names3) (hm : Mx w) :
    Calls Tryd.prog 20 #[.slice A 3 cp, .string src12, .string line12] w fun e w' => (∃ v, e = .returned (.tuple #[v, .agg #[.int .i64 0, .int .i64 0]]) ∧ k55.R 55 w' w.heap.size (fun _ => True) v [tok12]) ∧ Fr (fun _ => False) w w' := by
  go_enter Tryd.func20, Tryd.ntmps20
  have HA := Aside0.mk hA
  have HM := Aside0.mk hm
  clear hA hm
  go_wp2_with (fail)
  have HF0 := Aside0.mk ((Fr.refl (fun _ => False) w).alloc (.cells #[.int .i64 0, .int .i64 0] 43))
  have HR0 := Aside0.mk (blk_new w (.cells #[.int .i64 0, .int .i64 0] 43))
  refine (kinds_calls _ names3 A cp (HF0.out.C ByteArray.empty HA.out (fun _ _ _ => id)) sizes3).mono ?_
  rintro e W1 ⟨⟨r, rfl, hr⟩, hF⟩
  obtain rfl : r = 0 := hr.2 kinds3
  have HF1 := Aside0.mk (HF0.out.trans hF (fun _ _ h => h))
  have HR1 := Aside0.mk (hF.blk HR0.out id)
  clear hF hr HF0 HR0
  go_wp2_with (fail)
  go_loopw [2, 8, 9, 10] (fun a b c d W => Aside0 (Fr (fun _ => False) w W) ∧ Aside0 (W.heap[w.heap.size]? = some (.cells #[.int .i64 0, .int .i64 0] 43 (0, 0))) ∧ ((a = .string line12 ∧ b = .slice none 0 0 ∧ c = .int .i64 0 ∧ d = .int .i64 0) ∨ (a = .string ⟨#[]⟩ ∧ c = .int .i64 2 ∧ d = .int .i64 1 ∧ Aside0 (k55.R 55 W w.heap.size (fun _ => True) b [tok12])))) (fun _ _ _ d _ => 1 - (intOf d).toNat)
  case atStart => exact ⟨HF1, HR1, .inl ⟨rfl, rfl, rfl, rfl⟩⟩
  case round =>
    clear HF1 HR1
    obtain ⟨HF, HR, (⟨rfl, rfl, rfl, rfl⟩ | ⟨rfl, rfl, rfl, HV⟩)⟩ := hrel
    · have HM0 := Aside0.mk (HM.out.fr HF.out (fun _ _ => id))
      have HF1 := Aside0.mk (HF.out.alloc (.cells #[.int .i64 5, .int .i64 0] 43))
      have HR1 := Aside0.mk (blk_alloc HR.out (.cells #[.int .i64 5, .int .i64 0] 43))
      have HM1 := Aside0.mk (HM.out.fr HF1.out (fun _ _ => id))
      clear HM0 HF HR
      have hne : (line12.toList == []) = false := by decide +kernel
      go_wp2_with (fail)
      refine (cut_calls _ HM1.out).mono ?_
      rintro e W2 ⟨rfl, hF⟩
      have HF2 := Aside0.mk (HF1.out.trans hF (fun _ _ h => h))
      have HR2 := Aside0.mk (hF.blk HR1.out id)
      have HM2 := Aside0.mk (HM.out.fr HF2.out (fun _ _ => id))
      clear hF HF1 HR1 HM1
      go_wp2_with (fail)
      refine (split_calls _ HM2.out).mono ?_
      rintro e W3 ⟨rfl, hx0, hx1, hx2, hF⟩
      have HF3 := Aside0.mk (HF2.out.trans hF (fun _ _ h => h))
      have HR3 := Aside0.mk (hF.blk HR2.out id)
      clear hF HF2 HR2 HM2
      generalize W2.heap.size = b2 at hx0 hx1 hx2
      go_wp2_with (fail)
      refine (find_calls W3 A cp hcp (HF3.out.C ByteArray.empty HA.out (fun _ _ _ => id))).mono ?_
      rintro e W4 ⟨rfl, hF⟩
      have HF4 := Aside0.mk (HF3.out.trans hF (fun _ _ h => h))
      have HR4 := Aside0.mk (hF.blk HR3.out id)
      replace hx0 := hF.cell hx0 id
      replace hx1 := hF.cell hx1 id
      replace hx2 := hF.cell hx2 id
      clear hF HF3 HR3
      go_wp2_with (fail)
      refine (number_calls W4 0 (by decide)).mono ?_
      rintro e W5 ⟨rfl, hF⟩
      have HF5 := Aside0.mk (HF4.out.trans hF (fun _ _ h => h))
      have HR5 := Aside0.mk (hF.blk HR4.out id)
      replace hx0 := hF.cell hx0 id
      replace hx1 := hF.cell hx1 id
      replace hx2 := hF.cell hx2 id
      clear hF HF4 HR4
      go_wp2_with (fail)
      refine (number_calls W5 2 (by decide)).mono ?_
      rintro e W6 ⟨rfl, hF⟩
      have HF6 := Aside0.mk (HF5.out.trans hF (fun _ _ h => h))
      have HR6 := Aside0.mk (hF.blk HR5.out id)
      clear hF HF5 HR5 hx0 hx1 hx2
      have hz : src12.size = 2 := rfl
      have hz1 : (Int.ofNat 0) = 0 := rfl
      go_wp2_with (fail)
      have HF7 := Aside0.mk (HF6.out.alloc (.cells #[.int .i64 2, .int .i64 0, .int .i64 2] 55))
      have HR7 := Aside0.mk (blk_alloc HR6.out (.cells #[.int .i64 2, .int .i64 0, .int .i64 2] 55))
      have HT7 := Aside0.mk (blk_new W6 (.cells #[.int .i64 2, .int .i64 0, .int .i64 2] 55))
      refine (line12_calls _ A cp (HF7.out.C ByteArray.empty HA.out (fun _ _ _ => id))).mono ?_
      rintro e W8 ⟨rfl, hF⟩
      have HF8 := Aside0.mk (HF7.out.trans hF (fun _ _ h => h))
      have HR8 := Aside0.mk (hF.blk HR7.out id)
      have HT8 := Aside0.mk (hF.blk HT7.out id)
      clear hF HF7 HR7 HT7 HF6 HR6
      generalize W6.heap.size = b6 at HT8
      have hsz := HF8.out.size
      have hc0 : W8.cell? ⟨b6, 0, none⟩ = some (.int .i64 2) := (blk_cell HT8.out 0).trans rfl
      have hc1 : W8.cell? ⟨b6, 1, none⟩ = some (.int .i64 0) := (blk_cell HT8.out 1).trans rfl
      have hc2 : W8.cell? ⟨b6, 2, none⟩ = some (.int .i64 2) := (blk_cell HT8.out 2).trans rfl
      have hq : (line12.toList == (lineCut ++ ⟨#[10]⟩).toList) = true := by decide +kernel
      have hls : lineCut.size = 12 := rfl
      go_wp2_with (at_builtin; go_must (refine Kd.R_append k55 (w0 := W8) w.heap.size rfl (.tmp 129) (.tmp 131) 23 55 (.agg #[(.int .i64 0), (.int .i64 0), (.int .i64 0)]) 24 rfl Tryd.underlying23 info55 rfl (by decide) (by decide) (.slice none 0 0) [] tok12 [.int .i64 2, .int .i64 0, .int .i64 2] (fun _ => True) (fun _ => False) rfl rfl (k55_mkM _ _ _ tok12) (fun _ hk => hk.elim) (fun _ _ => trivial) (Kd.R_nil _ _ _ _ _) (Below.refl _ _) (by omega) (by decide) ?_; intro v2 w2 h1 hb h2 _; have HV := Aside0.mk h1; have HF9 := Aside0.mk (HF8.out.grown h2 (fun _ h => by cases h)); have HR9 := Aside0.mk (blk_grown HR8.out h2 (by intro h; cases h)); clear h1 h2 hb))
      exact ⟨⟨HF9, HR9, .inr ⟨rfl, rfl, rfl, HV⟩⟩, by decide⟩
    · obtain ⟨B, hB⟩ : ∃ B, w.heap.size = B := ⟨_, rfl⟩
      have hc0 : wr.cell? ⟨B, 0, none⟩ = some (.int .i64 0) := (blk_cell (by rw [← hB]; exact HR.out) 0).trans rfl
      have hc1 : wr.cell? ⟨B, 1, none⟩ = some (.int .i64 0) := (blk_cell (by rw [← hB]; exact HR.out) 1).trans rfl
      have hf0 := blk_frozen (show wr.heap[B]? = _ by rw [← hB]; exact HR.out) 0
      have hf1 := blk_frozen (show wr.heap[B]? = _ by rw [← hB]; exact HR.out) 1
      simp only [hB]
      go_wp2_with (fail)
      have hb0 : wr.heap[B]? = some (.cells #[.int .i64 0, .int .i64 0] 43 (0, 0)) := by rw [← hB]; exact HR.out
      have hb1 := blk_put hb0 0 (.int .i64 0) rfl
      have hb2 := blk_put hb1 1 (.int .i64 0) rfl
      refine bodyPost_ret (results_tc rfl _ _ B _ _ _ _ rfl hb2 Tryd.underlying43 rfl (by kernel_rfl)) rfl ?_
      refine ⟨⟨_, rfl, ?_⟩, (HF.out.set _ (fun h => absurd h (by omega))).set _ (fun h => absurd h (by omega))⟩
      have hE : ∀ q, q ∈ 55 :: k55.E → q ≠ 43 := (show ∀ q, q ∈ [55] → q ≠ 43 by decide)
      exact Kd.R_set (Kd.R_set HV.out hb0 hE 0 (.int .i64 0)) hb1 hE 1 (.int .i64 0)
end Go.Proofs.YtagokdbpgljgjaaDoor.Tok
