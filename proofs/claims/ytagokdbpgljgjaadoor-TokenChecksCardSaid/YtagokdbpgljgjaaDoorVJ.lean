/-
alive: a row of one token, walked.
-/
import Derived.Test.YtagokdbpgljgjaaDoorVI
import Derived.Test.YtagokdbpgljgjaaDoorPTB
namespace Go.Proofs.YtagokdbpgljgjaaDoor.Tok
open Go.RowKit Go.Proofs.YtagokdbpgljgjaaDoorW.PrintWords Go.Proofs.YtagokdbpgljgjaaDoorW.PrintLast Go.Proofs.YtagokdbpgljgjaaDoorW.PrintMore Go.Proofs.YtagokdbpgljgjaaDoor.Fr Go.Proofs.YtagokdbpgljgjaaDoor.PGramFirsts Go.Proofs.YtagokdbpgljgjaaDoor.TextSet Go.Proofs.YtagokdbpgljgjaaDoor.Bld

theorem names3_C (W : World) (b : Nat) {t : TypeId} (h : W.heap[b]? = some (.cells #[.string ⟨#[101, 110, 100]⟩, .string ⟨#[101, 114, 114, 111, 114]⟩, .string ⟨#[110, 117, 109]⟩] t (0, 0))) : Kd.string.C W (some ⟨b, 0, none⟩) 3 names3 := by
  refine Kd.C_of_reads (d := ByteArray.empty) ⟨rfl, by decide, fun _ => ⟨_, rfl, fun j hj => ?_⟩⟩
  rcases (by omega : j = 0 ∨ j = 1 ∨ j = 2) with rfl | rfl | rfl
  · exact (blk_cell h 0).trans rfl
  · exact (blk_cell h 1).trans rfl
  · exact (blk_cell h 2).trans rfl
theorem tok12_C (W : World) (b : Nat) {t : TypeId} (h : W.heap[b]? = some (.cells #[.int .i64 2, .int .i64 0, .int .i64 2] t (0, 0))) : Kd.C k55 W (some ⟨b, 0, none⟩) 1 [tok12] := by
  refine ⟨rfl, by decide, fun _ => ⟨_, rfl, fun j p hj => ?_⟩⟩
  rcases j with _ | j
  · obtain rfl : tok12 = p := by simpa using hj
    refine ⟨_, rfl, k55_mk W tok12, fun i u hu => ?_⟩
    rcases (by have := (List.getElem?_eq_some_iff.1 hu).1; simp at this; omega : i = 0 ∨ i = 1 ∨ i = 2) with rfl | rfl | rfl
    · exact (blk_cell h 0).trans hu
    · exact (blk_cell h 1).trans hu
    · exact (blk_cell h 2).trans hu
  · simp at hj
theorem same12 : quoinref07_Same.f 5 [tok12] [tok12] = some true := by decide +kernel
theorem lines12_calls (W : World) (A A2 : Option Addr) (hA : Kd.string.C W A 3 names3) (hC : Kd.C k55 W A2 1 [tok12]) : Calls Tryd.prog 18 #[.slice A 3 3, .string src12, .slice A2 1 1] W fun e w' => e = .returned (.tuple #[.string line12, .int .i64 0]) ∧ Fr (fun _ => False) W w' := by
  have hr : ∀ i : Nat, i < [tok12].length → rd_T55 [tok12] i = tok12 := by
    intro i hi
    obtain rfl : i = 0 := by simpa using hi
    rfl
  refine (lines_calls W names3 A 3 hA sizes3 src12 [tok12] A2 1 hC kinds3 (by decide) check12 (fun _ => line12) (fun _ _ => by decide) (fun i hi W1 hF => ?_)).mono ?_
  · rw [hr i hi]
    exact line12_calls W1 A 3 (hF.C ByteArray.empty hA (fun ad e _ h => by
      subst e
      obtain ⟨ad', e, hx⟩ := Kd.at_string hA 0 (by omega) (by omega)
      injection e with e
      subst e
      have := World.block_lt_of_cell? W _ hx
      rw [Fr.add_block] at this
      omega))
  · rintro e W2 ⟨rfl, hF⟩
    have h : linesB (fun _ => line12) [tok12] = line12.data.toList := by simp [linesB]
    rw [h]
    exact ⟨rfl, hF⟩
set_option maxHeartbeats 4000000 in
set_option maxRecDepth 100000 in
theorem alive_calls (w : World) (hm : Mx w) : Calls Tryd.prog 17 #[] w fun e w' => e = .returned (.bool true) ∧ Fr (fun _ => False) w w' := by
  go_enter Tryd.func17, Tryd.ntmps17
  have HM := Aside0.mk hm
  clear hm
  go_wp2_with (fail)
  obtain ⟨W1, hW1⟩ : ∃ W1, (w.alloc (.cells #[.string ⟨#[101, 110, 100]⟩, .string ⟨#[101, 114, 114, 111, 114]⟩, .string ⟨#[110, 117, 109]⟩] 9)).alloc (.cells #[.int .i64 2, .int .i64 0, .int .i64 2] 55) = W1 := ⟨_, rfl⟩
  have HF1 := Aside0.mk (show Fr (fun _ => False) w W1 from by rw [← hW1]; exact ((Fr.refl _ _).alloc _).alloc _)
  have HN1 := Aside0.mk (names3_C W1 w.heap.size (t := 9) (by rw [← hW1]; exact blk_alloc (blk_new w _) _))
  have HT1 := Aside0.mk (tok12_C W1 (w.heap.size + 1) (t := 55) (by rw [← hW1]; simpa using blk_new (w.alloc (.cells #[.string ⟨#[101, 110, 100]⟩, .string ⟨#[101, 114, 114, 111, 114]⟩, .string ⟨#[110, 117, 109]⟩] 9)) (.cells #[.int .i64 2, .int .i64 0, .int .i64 2] 55)))
  simp only [hW1]
  clear hW1
  refine (lines12_calls W1 _ _ HN1.out HT1.out).mono ?_
  rintro e W2 ⟨rfl, hF⟩
  have HF2 := Aside0.mk (HF1.out.trans hF (fun _ _ h => h))
  have HN2 := Aside0.mk (Kd.C_below HN1.out hF.to_below)
  have HT2 := Aside0.mk (Kd.C_below HT1.out hF.to_below)
  have HM2 := Aside0.mk (HM.out.fr HF2.out (fun _ _ => id))
  clear hF HF1 HN1 HT1 HM
  go_wp2_with (fail)
  refine (read_calls W2 _ 3 (by decide) HN2.out HM2.out).mono ?_
  rintro e W3 ⟨⟨v, rfl, hR⟩, hF⟩
  obtain ⟨A, c, rfl, hl, hC⟩ := Kd.R_reads hR
  have HF3 := Aside0.mk (HF2.out.trans hF (fun _ _ h => h))
  have HN3 := Aside0.mk (Kd.C_below HN2.out hF.to_below)
  have HT3 := Aside0.mk (Kd.C_below HT2.out hF.to_below)
  have HV3 := Aside0.mk hC
  have HL3 := Aside0.mk hl
  clear hF HF2 HN2 HT2 HM2 hC hl hR
  go_wp2_with (fail)
  have HF4 := Aside0.mk (HF3.out.alloc (.cells #[.int .i64 0, .int .i64 0] 43))
  have HN4 := Aside0.mk (Kd.C_alloc HN3.out (.cells #[.int .i64 0, .int .i64 0] 43))
  have HT4 := Aside0.mk (Kd.C_alloc HT3.out (.cells #[.int .i64 0, .int .i64 0] 43))
  have HV4 := Aside0.mk (Kd.C_alloc HV3.out (.cells #[.int .i64 0, .int .i64 0] 43))
  have HB4 := Aside0.mk (blk_new W3 (.cells #[.int .i64 0, .int .i64 0] 43))
  refine (kinds_calls _ names3 _ 3 HN4.out sizes3).mono ?_
  rintro e W5 ⟨⟨r, rfl, hr⟩, hF⟩
  obtain rfl : r = 0 := hr.2 kinds3
  have HF5 := Aside0.mk (HF4.out.trans hF (fun _ _ h => h))
  have HT5 := Aside0.mk (Kd.C_below HT4.out hF.to_below)
  have HV5 := Aside0.mk (Kd.C_below HV4.out hF.to_below)
  have HB5 := Aside0.mk (hF.blk HB4.out id)
  clear hF hr HF4 HN4 HT4 HV4 HB4 HF3 HN3 HT3 HV3
  generalize W3.heap.size = b3 at HB5
  have hc0 : W5.cell? ⟨b3, 0, none⟩ = some (.int .i64 0) := (blk_cell HB5.out 0).trans rfl
  have hc1 : W5.cell? ⟨b3, 1, none⟩ = some (.int .i64 0) := (blk_cell HB5.out 1).trans rfl
  have hq : (line12.toList == [110, 117, 109, 32, 48, 32, 50, 32, 34, 49, 50, 34, 10]) = true := by decide +kernel
  go_wp2_with (fail)
  refine (quoinref07_Same.calls 5 _ 1 [tok12] _ c [tok12] true W5 HT5.out (by decide) HV5.out HL3.out same12).mono ?_
  rintro e W6 ⟨rfl, hd⟩
  go_wp2_with (fail)
  go_ret
  exact ⟨rfl, HF5.out.trans (Fr.drawn hd) (fun _ _ h => h)⟩
end Go.Proofs.YtagokdbpgljgjaaDoor.Tok
