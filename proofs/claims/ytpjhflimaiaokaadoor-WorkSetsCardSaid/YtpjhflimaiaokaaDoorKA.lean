/-
The set of numbers: Copy, Join, Within, Meets and Same, walked.
-/
import Derived.Test.YtpjhflimaiaokaaDoorSC
namespace Go.Proofs.YtpjhflimaiaokaaDoor.SetW
open Go.RowKit Go.Proofs.YtpjhflimaiaokaaDoorW.PrintWords Go.Proofs.YtpjhflimaiaokaaDoorW.PrintLast Go.Proofs.YtpjhflimaiaokaaDoorW.PrintMore Go.Proofs.YtpjhflimaiaokaaDoor.Fr Go.Proofs.YtpjhflimaiaokaaDoor.Sets

def CopyPost (w : World) (l : List Int) (e : Ending) (w' : World) : Prop := ∃ q sv, e = .returned (.pointer (some ⟨q, 0, none⟩)) ∧ w.heap.size ≤ q ∧ Nums w' w.heap.size q sv l ∧ Fr (fun _ => False) w w'
set_option maxRecDepth 100000 in
theorem copy_calls (w : World) (B g : Nat) (sv : Value) (l : List Int) (h : Nums w B g sv l) (hlen : l.length ≤ 1048577) : Calls Tryd.prog 9 #[.pointer (some ⟨g, 0, none⟩)] w (CopyPost w l) := by
  have hu := Tryd.underlying67
  have HH := Aside0.mk h
  clear h
  go_enter Tryd.func9, Tryd.ntmps9
  go_wp2_with (fail)
  refine (all_calls w B g sv l HH.out hlen).mono ?_
  rintro e W1 ⟨v, rfl, hR, hF⟩
  obtain ⟨A, c, rfl⟩ := Kd.R_slice hR
  have HR := Aside0.mk hR
  have HF := Aside0.mk hF
  clear hR hF
  go_wp2_with (fail)
  go_ret
  exact ⟨W1.heap.size, _, rfl, HF.out.size, ⟨blk_new _ _, Kd.R_alloc HR.out _⟩, HF.out.alloc _⟩

def JoinPost (w : World) (B g : Nat) (sv : Value) (l l2 : List Int) (e : Ending) (w' : World) : Prop := ∃ l', AddInv l l2 l' l2.length ∧ e = .returned (.int .i64 ((l'.length : Int) - l.length)) ∧ STurned w B g sv l' w'
set_option maxRecDepth 100000 in
theorem join_calls (w : World) (B g : Nat) (sv : Value) (l : List Int) (B2 g2 : Nat) (sv2 : Value) (l2 : List Int) (h : Nums w B g sv l) (h2 : Nums w B2 g2 sv2 l2) (hB : B ≤ w.heap.size) (hl : Rising l) (hn : ∀ x, x ∈ l → isNum x = true) (hl2 : Rising l2) (hn2 : ∀ x, x ∈ l2 → isNum x = true) :
    Calls Tryd.prog 10 #[.pointer (some ⟨g, 0, none⟩), .pointer (some ⟨g2, 0, none⟩)] w (JoinPost w B g sv l l2) := by
  have hlen := len_le hl2 hn2
  have HH := Aside0.mk h
  have HH2 := Aside0.mk h2
  have HL := Aside0.mk hl
  have HN := Aside0.mk hn
  have HN2 := Aside0.mk hn2
  clear h h2 hl hn hn2 hl2
  go_enter Tryd.func10, Tryd.ntmps10
  go_wp2_with (fail)
  refine (all_calls w B2 g2 sv2 l2 HH2.out (by omega)).mono ?_
  rintro e W1 ⟨v, rfl, hR, hF⟩
  obtain ⟨A, c, rfl⟩ := Kd.R_slice hR
  have HR := Aside0.mk hR
  have HF := Aside0.mk hF
  have HH1 := Aside0.mk (show Nums W1 B g sv l from ⟨hF.blk HH.out.blk id, hF.R HH.out.row (fun _ _ => id)⟩)
  have hsz := hF.size
  have HA := Aside0.mk (show Away W1 g sv A l2.length l2 from ⟨(Kd.R_reads' hR).2.2, fun ad e hp => by
    obtain ⟨q, cap, e2, hq, hq2, _⟩ := Kd.R_form hR hp
    injection e2 with e2 _ _
    rw [e] at e2
    injection e2 with e2
    subst e2
    refine ⟨fun e => ?_, fun e => ?_, hq2⟩
    · have := blk_lt HH.out.blk
      simp only at e
      omega
    · have := ((Kd.R_bound HH.out.row).1 _ e).2.2.1
      simp only at this
      omega⟩)
  clear hR hF
  go_wp2_with (fail)
  refine (add_calls W1 B g sv l l2 A c HH1.out (by omega) HL.out HN.out HA.out).mono ?_
  rintro e W2 hP
  rcases hP with ⟨_, l', hI, rfl, hS⟩ | ⟨⟨y, hy, hz⟩, _⟩
  rotate_left
  · rw [HN2.out y hy] at hz; cases hz
  have HI := Aside0.mk hI
  have HS := Aside0.mk (STurned.trans (HF.out.mono (fun _ hf => hf.elim)) (.inl rfl) hS)
  clear hI hS
  go_wp2_with (fail)
  go_ret
  exact ⟨l', HI.out, rfl, HS.out⟩

set_option maxRecDepth 100000 in
theorem within_calls (w : World) (B g : Nat) (sv : Value) (l : List Int) (B2 g2 : Nat) (sv2 : Value) (l2 : List Int) (h : Nums w B g sv l) (h2 : Nums w B2 g2 sv2 l2) (hl2 : Rising l2) (hlen2 : l2.length ≤ 1048577) :
    Calls Tryd.prog 14 #[.pointer (some ⟨g, 0, none⟩), .pointer (some ⟨g2, 0, none⟩)] w fun e w' => e = .returned (.bool (decide (∀ x, x ∈ l → x ∈ l2))) ∧ Drawn0 w w' := by
  obtain ⟨A, c, rfl, _, hC⟩ := Kd.R_reads h.row
  have hc := h.cell
  have hm := Kd.C_max hC
  have hu := Tryd.underlying67
  have HC := Aside0.mk hC
  have HH2 := Aside0.mk h2
  have HL2 := Aside0.mk hl2
  clear h hC h2 hl2
  go_enter Tryd.func14, Tryd.ntmps14
  go_wp2_with (fail)
  go_loopw [14] (fun a W => ∃ k : Nat, a = .int .i64 k ∧ k ≤ l.length ∧ Aside0 (∀ j : Nat, j < k → rd l j ∈ l2) ∧ Drawn0 w W) (fun a _ => l.length - (intOf a).toNat)
  case atStart => exact ⟨0, rfl, Nat.zero_le _, ⟨fun j hj => by omega⟩, Drawn0.refl _⟩
  case round =>
    obtain ⟨k, rfl, hk, HK, ⟨q, rfl⟩⟩ := hrel
    by_cases hlt : k < l.length
    · obtain ⟨ad, rfl, hx⟩ := Kd.at_int HC.out (k : Int) (by omega) (by omega)
      simp only [Int.toNat_natCast] at hx
      have hx2 : (w.drewN q).cell? (ad.add k) = some (.int .i64 (rd l k)) := hx
      go_wp2_with (fail)
      refine (has_calls _ B2 g2 sv2 l2 _ (HH2.out.drewN q) HL2.out hlen2).mono ?_
      rintro e W1 ⟨rfl, hd⟩
      have HD := Aside0.mk (show Drawn0 w W1 by obtain ⟨q2, rfl⟩ := hd; exact Drawn0.step ⟨_, rfl⟩ _)
      clear hd
      by_cases hin : rd l (k : Int) ∈ l2
      · rw [decide_eq_true hin]
        have HI := Aside0.mk hin
        clear hin
        go_wp2_with (fail)
        exact ⟨⟨k + 1, by go_num, by omega, ⟨fun j hj => by
            by_cases e : j = k
            · rw [e]; exact HI.out
            · exact HK.out j (by omega)⟩, HD.out⟩, by simp [intOf]; omega⟩
      · rw [decide_eq_false hin]
        have HE := Lib.hid (show decide (∀ x, x ∈ l → x ∈ l2) = false from decide_eq_false (fun hall => hin (hall _ (mem_iff_rd.2 ⟨k, hlt, rfl⟩))))
        clear hin
        go_wp2_with (fail)
        go_ret
        exact ⟨ret_b HE.out.symm, HD.out⟩
    · have HE := Lib.hid (show decide (∀ x, x ∈ l → x ∈ l2) = true from decide_eq_true (fun x hx => by
        obtain ⟨j, hj, rfl⟩ := mem_iff_rd.1 hx
        exact HK.out j (by omega)))
      go_wp2_with (fail)
      go_ret
      exact ⟨ret_b HE.out.symm, ⟨_, rfl⟩⟩

set_option maxRecDepth 100000 in
theorem meets_calls (w : World) (B g : Nat) (sv : Value) (l : List Int) (B2 g2 : Nat) (sv2 : Value) (l2 : List Int) (h : Nums w B g sv l) (h2 : Nums w B2 g2 sv2 l2) (hl2 : Rising l2) (hlen2 : l2.length ≤ 1048577) :
    Calls Tryd.prog 15 #[.pointer (some ⟨g, 0, none⟩), .pointer (some ⟨g2, 0, none⟩)] w fun e w' => e = .returned (.bool (decide (∃ x, x ∈ l ∧ x ∈ l2))) ∧ Drawn0 w w' := by
  obtain ⟨A, c, rfl, _, hC⟩ := Kd.R_reads h.row
  have hc := h.cell
  have hm := Kd.C_max hC
  have hu := Tryd.underlying67
  have HC := Aside0.mk hC
  have HH2 := Aside0.mk h2
  have HL2 := Aside0.mk hl2
  clear h hC h2 hl2
  go_enter Tryd.func15, Tryd.ntmps15
  go_wp2_with (fail)
  go_loopw [14] (fun a W => ∃ k : Nat, a = .int .i64 k ∧ k ≤ l.length ∧ Aside0 (∀ j : Nat, j < k → ¬ rd l j ∈ l2) ∧ Drawn0 w W) (fun a _ => l.length - (intOf a).toNat)
  case atStart => exact ⟨0, rfl, Nat.zero_le _, ⟨fun j hj => by omega⟩, Drawn0.refl _⟩
  case round =>
    obtain ⟨k, rfl, hk, HK, ⟨q, rfl⟩⟩ := hrel
    by_cases hlt : k < l.length
    · obtain ⟨ad, rfl, hx⟩ := Kd.at_int HC.out (k : Int) (by omega) (by omega)
      simp only [Int.toNat_natCast] at hx
      have hx2 : (w.drewN q).cell? (ad.add k) = some (.int .i64 (rd l k)) := hx
      go_wp2_with (fail)
      refine (has_calls _ B2 g2 sv2 l2 _ (HH2.out.drewN q) HL2.out hlen2).mono ?_
      rintro e W1 ⟨rfl, hd⟩
      have HD := Aside0.mk (show Drawn0 w W1 by obtain ⟨q2, rfl⟩ := hd; exact Drawn0.step ⟨_, rfl⟩ _)
      clear hd
      by_cases hin : rd l (k : Int) ∈ l2
      · rw [decide_eq_true hin]
        have HE := Lib.hid (show decide (∃ x, x ∈ l ∧ x ∈ l2) = true from decide_eq_true ⟨_, mem_iff_rd.2 ⟨k, hlt, rfl⟩, hin⟩)
        clear hin
        go_wp2_with (fail)
        go_ret
        exact ⟨ret_b HE.out.symm, HD.out⟩
      · rw [decide_eq_false hin]
        have HI := Aside0.mk hin
        clear hin
        go_wp2_with (fail)
        exact ⟨⟨k + 1, by go_num, by omega, ⟨fun j hj => by
            by_cases e : j = k
            · rw [e]; exact HI.out
            · exact HK.out j (by omega)⟩, HD.out⟩, by simp [intOf]; omega⟩
    · have HE := Lib.hid (show decide (∃ x, x ∈ l ∧ x ∈ l2) = false from decide_eq_false (fun ⟨x, hx, hx2⟩ => by
        obtain ⟨j, hj, rfl⟩ := mem_iff_rd.1 hx
        exact HK.out j (by omega) hx2))
      go_wp2_with (fail)
      go_ret
      exact ⟨ret_b HE.out.symm, ⟨_, rfl⟩⟩

set_option maxRecDepth 100000 in
theorem samew_calls (w : World) (B g : Nat) (sv : Value) (l : List Int) (B2 g2 : Nat) (sv2 : Value) (l2 : List Int) (h : Nums w B g sv l) (h2 : Nums w B2 g2 sv2 l2) (hl2 : Rising l2) (hlen2 : l2.length ≤ 1048577) :
    Calls Tryd.prog 16 #[.pointer (some ⟨g, 0, none⟩), .pointer (some ⟨g2, 0, none⟩)] w fun e w' => e = .returned (.bool (decide (l.length = l2.length ∧ ∀ x, x ∈ l → x ∈ l2))) ∧ Drawn0 w w' := by
  have HH := Aside0.mk h
  have HH2 := Aside0.mk h2
  have HL2 := Aside0.mk hl2
  clear h h2 hl2
  go_enter Tryd.func16, Tryd.ntmps16
  go_wp2_with (fail)
  refine (slen_calls _ _ _ _ _ HH.out).mono ?_
  rintro e W1 ⟨rfl, rfl⟩
  go_wp2_with (fail)
  refine (slen_calls _ _ _ _ _ HH2.out).mono ?_
  rintro e W1 ⟨rfl, rfl⟩
  by_cases he : l.length = l2.length
  · have heb : ((l.length : Int) == (l2.length : Int)) = true := by rw [he]; simp
    have HE := Lib.hid he
    clear he
    go_wp2_with (fail)
    refine (within_calls w B g sv l B2 g2 sv2 l2 HH.out HH2.out HL2.out hlen2).mono ?_
    rintro e W1 ⟨rfl, hd⟩
    have HD := Aside0.mk hd
    have HQ := Lib.hid (show decide (l.length = l2.length ∧ ∀ x, x ∈ l → x ∈ l2) = decide (∀ x, x ∈ l → x ∈ l2) by simp [HE.out])
    clear hd
    go_wp2_with (fail)
    go_ret
    exact ⟨ret_b HQ.out.symm, HD.out⟩
  · have heb : ((l.length : Int) == (l2.length : Int)) = false := by simp; omega
    have HQ := Lib.hid (show decide (l.length = l2.length ∧ ∀ x, x ∈ l → x ∈ l2) = false from decide_eq_false (fun h => he h.1))
    clear he
    go_wp2_with (fail)
    go_ret
    exact ⟨ret_b HQ.out.symm, Drawn0.refl _⟩
end Go.Proofs.YtpjhflimaiaokaaDoor.SetW
