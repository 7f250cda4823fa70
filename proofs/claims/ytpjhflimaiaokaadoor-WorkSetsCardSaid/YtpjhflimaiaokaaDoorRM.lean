/-
The reference's sets: Within and Meets, walked.
-/
import Derived.Test.YtpjhflimaiaokaaDoorRD
namespace Go.Proofs.YtpjhflimaiaokaaDoor.RSet
open Go.RowKit Go.Proofs.YtpjhflimaiaokaaDoorW.PrintWords Go.Proofs.YtpjhflimaiaokaaDoorW.PrintLast Go.Proofs.YtpjhflimaiaokaaDoorW.PrintMore Go.Proofs.YtpjhflimaiaokaaDoor.Fr Go.Proofs.YtpjhflimaiaokaaDoor.Sets Go.Proofs.YtpjhflimaiaokaaDoor.SetW

/-- Two sets by value, each in a box of its own. -/
structure Boxes (w : World) (A : Option Addr) (c : Nat) (xs : List Int) (A2 : Option Addr) (c2 : Nat) (ys : List Int) (W : World) : Prop where
  b1 : W.heap[w.heap.size]? = some (.cells #[.slice A xs.length c] 40 (0, 0))
  b2 : W.heap[w.heap.size + 1]? = some (.cells #[.slice A2 ys.length c2] 40 (0, 0))
  fr : Fr (fun _ => False) w W
theorem Boxes.start (w : World) (A : Option Addr) (c : Nat) (xs : List Int) (A2 : Option Addr) (c2 : Nat) (ys : List Int) : Boxes w A c xs A2 c2 ys ((w.alloc (.cells #[.slice A xs.length c] 40)).alloc (.cells #[.slice A2 ys.length c2] 40)) :=
  ⟨blk_alloc (blk_new w _) _, by simpa using blk_new (w.alloc (.cells #[.slice A xs.length c] 40)) (.cells #[.slice A2 ys.length c2] 40), ((Fr.refl _ _).alloc _).alloc _⟩
theorem Boxes.step {w W W1 : World} {A : Option Addr} {c : Nat} {xs : List Int} {A2 : Option Addr} {c2 : Nat} {ys : List Int} (h : Boxes w A c xs A2 c2 ys W) (hF : Fr (fun _ => False) W.drew W1) : Boxes w A c xs A2 c2 ys W1 :=
  ⟨hF.blk (blk_drew h.b1) id, hF.blk (blk_drew h.b2) id, h.fr.drew.trans hF (fun _ _ hf => hf)⟩
set_option maxRecDepth 100000 in
set_option maxHeartbeats 2000000 in
theorem rwithin_calls (w : World) (xs ys : List Int) (A : Option Addr) (c : Nat) (A2 : Option Addr) (c2 : Nat) (hA : kI.C w A xs.length xs) (hB : kI.C w A2 ys.length ys) :
    Calls Tryd.prog 42 #[.agg #[.slice A xs.length c], .agg #[.slice A2 ys.length c2]] w fun e w' => e = .returned (.bool (decide (∀ x, x ∈ xs → x ∈ ys))) ∧ Fr (fun _ => False) w w' := by
  have hm := Kd.C_max hA
  have hu := Tryd.underlying40
  have HA := Aside0.mk hA
  have HB := Aside0.mk hB
  clear hA hB
  have HW := Aside0.mk (Boxes.start w A c xs A2 c2 ys)
  go_enter Tryd.func42, Tryd.ntmps42
  go_wp2_with (fail)
  go_loopw [5] (fun a W => ∃ k : Nat, a = .int .i64 k ∧ k ≤ xs.length ∧ Aside0 (∀ j : Nat, j < k → rd xs j ∈ ys) ∧ Aside0 (Boxes w A c xs A2 c2 ys W)) (fun a _ => xs.length - (intOf a).toNat)
  case atStart => exact ⟨0, rfl, Nat.zero_le _, ⟨fun j hj => by omega⟩, HW⟩
  case round =>
    clear HW
    obtain ⟨k, rfl, hk, HK, HL⟩ := hrel
    have hc1 : wr.cell? ⟨w.heap.size, 0, none⟩ = some (.slice A xs.length c) := (blk_cell HL.out.b1 0).trans rfl
    have hc2 : wr.cell? ⟨w.heap.size + 1, 0, none⟩ = some (.slice A2 ys.length c2) := (blk_cell HL.out.b2 0).trans rfl
    by_cases hlt : k < xs.length
    · obtain ⟨ad, rfl, hx⟩ := Kd.at_int (HL.out.fr.C (S := fun _ => False) 0 HA.out (fun _ _ _ => id)) (k : Int) (by omega) (by omega)
      simp only [Int.toNat_natCast] at hx
      have HBW := Aside0.mk (HL.out.fr.drew.C (S := fun _ => False) 0 HB.out (fun _ _ _ => id))
      by_cases hin : rd xs (k : Int) ∈ ys
      · have HD := Lib.hid (decide_eq_true hin)
        have HI := Aside0.mk hin
        clear hin
        go_wp2_with (fail)
        go_region_with (go_at_call 40; refine (rhas_calls _ ys A2 c2 _ HBW.out).mono ?_; rintro e W1 ⟨rfl, hF⟩; have HL1 := Aside0.mk (HL.out.step hF); have hd1 := (blk_cell HL1.out.b1 0).trans (show _ = some (Value.slice (some ad) xs.length c) from rfl); have hd2 := (blk_cell HL1.out.b2 0).trans (show _ = some (Value.slice A2 ys.length c2) from rfl); have hdx := hF.cell (show wr.drew.cell? (ad.add k) = _ from hx) id; clear hF hc1 hc2 hx; rw [HD.out])
        all_goals go_wp2_with (fail)
        all_goals exact ⟨⟨k + 1, by go_num, by omega, ⟨fun j hj => by
            by_cases e : j = k
            · rw [e]; exact HI.out
            · exact HK.out j (by omega)⟩, HL1⟩, by simp [intOf]; omega⟩
      · have HD := Lib.hid (decide_eq_false hin)
        have HI := Aside0.mk hin
        have HE := Lib.hid (show decide (∀ x, x ∈ xs → x ∈ ys) = false from decide_eq_false (fun hall => hin (hall _ (mem_iff_rd.2 ⟨k, hlt, rfl⟩))))
        clear hin
        go_wp2_with (fail)
        go_region_with (go_at_call 40; refine (rhas_calls _ ys A2 c2 _ HBW.out).mono ?_; rintro e W1 ⟨rfl, hF⟩; have HL1 := Aside0.mk (HL.out.step hF); have hd1 := (blk_cell HL1.out.b1 0).trans (show _ = some (Value.slice (some ad) xs.length c) from rfl); have hd2 := (blk_cell HL1.out.b2 0).trans (show _ = some (Value.slice A2 ys.length c2) from rfl); have hdx := hF.cell (show wr.drew.cell? (ad.add k) = _ from hx) id; clear hF hc1 hc2 hx; rw [HD.out])
        all_goals go_wp2_with (fail)
        all_goals go_ret
        all_goals exact ⟨ret_b HE.out.symm, HL1.out.fr⟩
    · have HE := Lib.hid (show decide (∀ x, x ∈ xs → x ∈ ys) = true from decide_eq_true (fun x hx => by
        obtain ⟨j, hj, rfl⟩ := mem_iff_rd.1 hx
        exact HK.out j (by omega)))
      go_wp2_with (fail)
      go_ret
      exact ⟨ret_b HE.out.symm, HL.out.fr⟩
set_option maxRecDepth 100000 in
set_option maxHeartbeats 2000000 in
theorem rmeets_calls (w : World) (xs ys : List Int) (A : Option Addr) (c : Nat) (A2 : Option Addr) (c2 : Nat) (hA : kI.C w A xs.length xs) (hB : kI.C w A2 ys.length ys) :
    Calls Tryd.prog 41 #[.agg #[.slice A xs.length c], .agg #[.slice A2 ys.length c2]] w fun e w' => e = .returned (.bool (decide (∃ x, x ∈ xs ∧ x ∈ ys))) ∧ Fr (fun _ => False) w w' := by
  have hm := Kd.C_max hA
  have hu := Tryd.underlying40
  have HA := Aside0.mk hA
  have HB := Aside0.mk hB
  clear hA hB
  have HW := Aside0.mk (Boxes.start w A c xs A2 c2 ys)
  go_enter Tryd.func41, Tryd.ntmps41
  go_wp2_with (fail)
  go_loopw [5] (fun a W => ∃ k : Nat, a = .int .i64 k ∧ k ≤ xs.length ∧ Aside0 (∀ j : Nat, j < k → ¬ rd xs j ∈ ys) ∧ Aside0 (Boxes w A c xs A2 c2 ys W)) (fun a _ => xs.length - (intOf a).toNat)
  case atStart => exact ⟨0, rfl, Nat.zero_le _, ⟨fun j hj => by omega⟩, HW⟩
  case round =>
    clear HW
    obtain ⟨k, rfl, hk, HK, HL⟩ := hrel
    have hc1 : wr.cell? ⟨w.heap.size, 0, none⟩ = some (.slice A xs.length c) := (blk_cell HL.out.b1 0).trans rfl
    have hc2 : wr.cell? ⟨w.heap.size + 1, 0, none⟩ = some (.slice A2 ys.length c2) := (blk_cell HL.out.b2 0).trans rfl
    by_cases hlt : k < xs.length
    · obtain ⟨ad, rfl, hx⟩ := Kd.at_int (HL.out.fr.C (S := fun _ => False) 0 HA.out (fun _ _ _ => id)) (k : Int) (by omega) (by omega)
      simp only [Int.toNat_natCast] at hx
      have HBW := Aside0.mk (HL.out.fr.drew.C (S := fun _ => False) 0 HB.out (fun _ _ _ => id))
      by_cases hin : rd xs (k : Int) ∈ ys
      · have HD := Lib.hid (decide_eq_true hin)
        have HI := Aside0.mk hin
        have HE := Lib.hid (show decide (∃ x, x ∈ xs ∧ x ∈ ys) = true from decide_eq_true ⟨_, mem_iff_rd.2 ⟨k, hlt, rfl⟩, hin⟩)
        clear hin
        go_wp2_with (fail)
        go_region_with (go_at_call 40; refine (rhas_calls _ ys A2 c2 _ HBW.out).mono ?_; rintro e W1 ⟨rfl, hF⟩; have HL1 := Aside0.mk (HL.out.step hF); have hd1 := (blk_cell HL1.out.b1 0).trans (show _ = some (Value.slice (some ad) xs.length c) from rfl); have hd2 := (blk_cell HL1.out.b2 0).trans (show _ = some (Value.slice A2 ys.length c2) from rfl); have hdx := hF.cell (show wr.drew.cell? (ad.add k) = _ from hx) id; clear hF hc1 hc2 hx; rw [HD.out])
        all_goals go_wp2_with (fail)
        all_goals go_ret
        all_goals exact ⟨ret_b HE.out.symm, HL1.out.fr⟩
      · have HD := Lib.hid (decide_eq_false hin)
        have HI := Aside0.mk hin
        clear hin
        go_wp2_with (fail)
        go_region_with (go_at_call 40; refine (rhas_calls _ ys A2 c2 _ HBW.out).mono ?_; rintro e W1 ⟨rfl, hF⟩; have HL1 := Aside0.mk (HL.out.step hF); have hd1 := (blk_cell HL1.out.b1 0).trans (show _ = some (Value.slice (some ad) xs.length c) from rfl); have hd2 := (blk_cell HL1.out.b2 0).trans (show _ = some (Value.slice A2 ys.length c2) from rfl); have hdx := hF.cell (show wr.drew.cell? (ad.add k) = _ from hx) id; clear hF hc1 hc2 hx; rw [HD.out])
        all_goals go_wp2_with (fail)
        all_goals exact ⟨⟨k + 1, by go_num, by omega, ⟨fun j hj => by
            by_cases e : j = k
            · rw [e]; exact HI.out
            · exact HK.out j (by omega)⟩, HL1⟩, by simp [intOf]; omega⟩
    · have HE := Lib.hid (show decide (∃ x, x ∈ xs ∧ x ∈ ys) = false from decide_eq_false (fun ⟨x, hx, hx2⟩ => by
        obtain ⟨j, hj, rfl⟩ := mem_iff_rd.1 hx
        exact HK.out j (by omega) hx2))
      go_wp2_with (fail)
      go_ret
      exact ⟨ret_b HE.out.symm, HL.out.fr⟩
end Go.Proofs.YtpjhflimaiaokaaDoor.RSet
