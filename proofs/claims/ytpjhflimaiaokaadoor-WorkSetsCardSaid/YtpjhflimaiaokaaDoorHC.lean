/-
The heap of tasks: Init, Fix, Push and Pop of the library, walked over the tasks' methods.
-/
import Derived.Test.YtpjhflimaiaokaaDoorHB
import Derived.Test.YtpjhflimaiaokaaDoorProg
import Derived.Lib.Hide
import Derived.Outline
import Derived.Deep.RegionLaw
namespace Go.Proofs.YtpjhflimaiaokaaDoor.Hand
open Go.RowKit Go.Proofs.YtpjhflimaiaokaaDoorW.PrintWords Go.Proofs.YtpjhflimaiaokaaDoorW.PrintLast Go.Proofs.YtpjhflimaiaokaaDoorW.PrintMore Go.Proofs.YtpjhflimaiaokaaDoor.Fr


set_option maxRecDepth 100000 in
theorem tPop_calls (w : World) (B g : Nat) (gr n cap : Nat) (ts : List Tk) (h : Tasks w B g (.slice (some ⟨gr, 0, none⟩) n cap) ts) (hn : 0 < n) (hl : n ≤ 1048577) :
    Calls Tryd.prog 89 #[.pointer (some ⟨g, 0, none⟩)] w fun e w' => e = .returned (.iface 99 (.agg #[.int .i64 (ts.getD (n - 1) Tk.z).n, .int .i64 (ts.getD (n - 1) Tk.z).w])) ∧
      Tasks w' B g (.slice (some ⟨gr, 0, none⟩) (n - 1) cap) (ts.take (n - 1)) ∧ Fr (Foot g (.slice (some ⟨gr, 0, none⟩) n cap)) w w' := by
  obtain ⟨m, rfl⟩ : ∃ m, n = m + 1 := ⟨n - 1, by omega⟩
  have hc := h.cell
  have hf := h.frozen
  obtain ⟨hnu, hncap, hC⟩ := Kd.R_reads' h.row
  obtain ⟨ad, e, i1, i2⟩ := at_tk (show kT.C w _ (m + 1) ts by rw [hnu]; exact hC) (m : Int) (by omega) (by omega)
  cases e
  simp only [Int.toNat_natCast, add_plain] at i1 i2
  have HR := Aside0.mk (Kd.R_take h.row (show m ≤ ts.length by omega))
  have HB := Aside0.mk h.blk
  have HL := Lib.hid (show (ts.take m).length = m by rw [List.length_take]; omega)
  clear hC hnu h
  have hg : g ≠ w.heap.size := Nat.ne_of_lt (blk_lt HB.out)
  have hu := Tryd.underlying74
  have hu2 := Tryd.underlying99
  rw [show m + 1 - 1 = m from rfl]
  generalize ts.getD m Tk.z = x at *
  have hc2 : (w.alloc (.cells #[.int .i64 x.n, .int .i64 x.w] 99)).cell? ⟨g, 0, none⟩ = some (.slice (some ⟨gr, 0, none⟩) (m + 1) cap) := (blk_cell (blk_alloc HB.out _) 0).trans rfl
  have hf2 : (w.alloc (.cells #[.int .i64 x.n, .int .i64 x.w] 99)).frozen? ⟨g, 0, none⟩ = false := blk_frozen (blk_alloc HB.out _) 0
  go_enter Tryd.func89, Tryd.ntmps89
  go_wp2
  go_ret
  exact ⟨rfl, ⟨blk_put (blk_alloc HB.out _) 0 _ rfl, tasks_row_set (Kd.R_alloc HR.out _) (blk_alloc HB.out _) _⟩, ((Fr.refl _ _).alloc _).set _ (fun _ => .inl rfl)⟩

theorem Tasks.form {w : World} {B g : Nat} {sv : Value} {ts : List Tk} (h : Tasks w B g sv ts) (hp : 0 < ts.length) : ∃ gr cap, sv = .slice (some ⟨gr, 0, none⟩) ts.length cap := by
  obtain ⟨gr, cap, e, _⟩ := Kd.R_form h.row hp
  exact ⟨gr, cap, e⟩
theorem Tasks.len {w : World} {B g gr n cap : Nat} {ts : List Tk} (h : Tasks w B g (.slice (some ⟨gr, 0, none⟩) n cap) ts) : n = ts.length := (Kd.R_reads' h.row).1

/-- What a heap is when the task at i has been given its place. -/
def fixF (ts : List Tk) (i : Nat) : List Tk := if i < (downF ts ts.length i).2 then (downF ts ts.length i).1 else upF (downF ts ts.length i).1 i
theorem downF_len (ts : List Tk) (n i : Nat) : (downF ts n i).1.length = ts.length := by
  fun_induction downF ts n i <;> simp_all [swapT_length]

set_option maxRecDepth 100000 in
theorem hFix_calls (w : World) (B g : Nat) (gr n cap : Nat) (ts : List Tk) (h : Tasks w B g (.slice (some ⟨gr, 0, none⟩) n cap) ts) (i : Int) (hi : 0 ≤ i) (hin : i < n) (hl : n ≤ 1048577) :
    Calls Tryd.prog 44 #[.iface 95 (.pointer (some ⟨g, 0, none⟩)), .int .i64 i] w fun e w' => e = .returned (.tuple #[]) ∧ Tasks w' B g (.slice (some ⟨gr, 0, none⟩) n cap) (fixF ts i.toNat) ∧ Fr (Foot g (.slice (some ⟨gr, 0, none⟩) n cap)) w w' := by
  have hm1 := mLen w _ _ h.cell
  have HL := Lib.hid h.len
  by_cases hd : i < ((downF ts n i.toNat).2 : Int)
  · have HD := Lib.hid (decide_eq_true hd)
    have HD2 := Lib.hid (show fixF ts i.toNat = (downF ts n i.toNat).1 by unfold fixF; rw [← h.len, if_pos (by omega)])
    clear hd
    go_enter Tryd.func44, Tryd.ntmps44
    go_wp2_with (first | (go_at_call 84; refine (tLen_calls _ _ _ _).mono ?_; rintro e W1 ⟨rfl, rfl⟩) | (go_at_call 49; refine (hDown_calls _ B g gr n cap ts h i n hi (by omega) (by omega) hl).mono ?_; rintro e W1 ⟨rfl, hT, hF⟩; rw [Int.toNat_natCast] at hT ⊢; rw [HD.out]))
    go_end0
    exact ⟨rfl, by rw [HD2.out]; exact hT, hF⟩
  · have HD := Lib.hid (decide_eq_false hd)
    have HD2 := Lib.hid (show fixF ts i.toNat = upF (downF ts n i.toNat).1 i.toNat by unfold fixF; rw [← h.len, if_neg (by omega)])
    have HD3 := Lib.hid (show (downF ts n i.toNat).1.length = n by rw [downF_len]; exact h.len.symm)
    clear hd
    go_enter Tryd.func44, Tryd.ntmps44
    go_wp2_with (first | (go_at_call 84; refine (tLen_calls _ _ _ _).mono ?_; rintro e W1 ⟨rfl, rfl⟩) | (go_at_call 49; refine (hDown_calls _ B g gr n cap ts h i n hi (by omega) (by omega) hl).mono ?_; rintro e W1 ⟨rfl, hT, hF⟩; rw [Int.toNat_natCast] at hT ⊢; rw [HD.out]; have HT := Aside0.mk hT; have HF := Aside0.mk hF; clear hT hF) |
      (go_at_call 50; refine (hUp_calls _ B g _ _ HT.out i hi (by rw [HD3.out]; exact hin) (by rw [HD3.out]; exact hl)).mono ?_; rintro e W2 ⟨rfl, hT2, hF2⟩))
    go_end0
    exact ⟨rfl, by rw [HD2.out]; exact hT2, HF.out.trans hF2 (fun _ _ hk => hk)⟩

theorem upF_len (ts : List Tk) (i : Nat) : (upF ts i).length = ts.length := by
  fun_induction upF ts i <;> simp_all [swapT_length]

/-- A heap with a task more. -/
def pushF (ts : List Tk) (x : Tk) : List Tk := upF (ts ++ [x]) ts.length
set_option maxRecDepth 100000 in
theorem hPush_calls (w : World) (B g : Nat) (sv : Value) (ts : List Tk) (x : Tk) (h : Tasks w B g sv ts) (hB : B ≤ w.heap.size) (hl : ts.length ≤ 1048576) :
    Calls Tryd.prog 45 #[.iface 95 (.pointer (some ⟨g, 0, none⟩)), .iface 99 (.agg #[.int .i64 x.n, .int .i64 x.w])] w fun e w' => e = .returned (.tuple #[]) ∧ Turned w B g sv (pushF ts x) w' := by
  have hm1 := mPush w ⟨g, 0, none⟩
  have HLE := Lib.hid (show (ts ++ [x]).length = ts.length + 1 by simp)
  go_enter Tryd.func45, Tryd.ntmps45
  go_wp2_with (first | (go_at_call 90; refine (tPush_calls _ B g sv ts x h hB hl).mono ?_; rintro e W1 ⟨rfl, sv1, hT1, hF1, hA1⟩; obtain ⟨gr, cap, rfl⟩ := hT1.form (by simp); have hm2 := mLen W1 _ _ hT1.cell; have HT := Aside0.mk hT1; have HF := Aside0.mk hF1; have HA := Aside0.mk hA1; clear hT1 hF1 hA1) |
    (go_at_call 84; refine (tLen_calls _ _ _ _).mono ?_; rintro e W2 ⟨rfl, rfl⟩) |
    (go_at_call 50; refine (hUp_calls _ B g _ _ HT.out _ ?_ ?_ ?_).mono ?_; (all_goals try (first | omega | (rw [HLE.out]; omega))); rintro e W2 ⟨rfl, hT2, hF2⟩))
  go_end0
  exact ⟨rfl, _, by rw [show ((ts.length : Int)).toNat = ts.length from Int.toNat_natCast _] at hT2; exact hT2, foot_step HF.out HA.out hF2, HA.out⟩

/-- A heap without its first task. -/
def popF (ts : List Tk) : Tk × List Tk :=
  let d := (downF (swapT ts 0 (ts.length - 1)) (ts.length - 1) 0).1
  (d.getD (ts.length - 1) Tk.z, d.take (ts.length - 1))
set_option maxRecDepth 100000 in
theorem hPop_calls (w : World) (B g : Nat) (gr n cap : Nat) (ts : List Tk) (h : Tasks w B g (.slice (some ⟨gr, 0, none⟩) n cap) ts) (hn : 0 < n) (hl : n ≤ 1048577) :
    Calls Tryd.prog 46 #[.iface 95 (.pointer (some ⟨g, 0, none⟩))] w fun e w' => e = .returned (.iface 99 (.agg #[.int .i64 (popF ts).1.n, .int .i64 (popF ts).1.w])) ∧
      Tasks w' B g (.slice (some ⟨gr, 0, none⟩) (n - 1) cap) (popF ts).2 ∧ Fr (Foot g (.slice (some ⟨gr, 0, none⟩) n cap)) w w' := by
  have hm1 := mLen w _ _ h.cell
  have hm2 := mSwap w _ _ h.cell
  have HL := Lib.hid h.len
  have HP1 := Lib.hid (show (popF ts).1 = ((downF (swapT ts 0 (n - 1)) (n - 1) 0).1).getD (n - 1) Tk.z by unfold popF; rw [← h.len])
  have HP2 := Lib.hid (show (popF ts).2 = ((downF (swapT ts 0 (n - 1)) (n - 1) 0).1).take (n - 1) by unfold popF; rw [← h.len])
  obtain ⟨m, rfl⟩ : ∃ m, n = m + 1 := ⟨n - 1, by omega⟩
  rw [show m + 1 - 1 = m from rfl] at HP1 HP2 ⊢
  go_enter Tryd.func46, Tryd.ntmps46
  go_wp2_with (first | (go_at_call 84; refine (tLen_calls _ _ _ _).mono ?_; rintro e W1 ⟨rfl, rfl⟩) |
    (go_at_call 86; refine (tSwap_calls w B gr (m + 1) cap _ ts h.row 0 m (by omega) (by omega) (by omega) (by omega)).mono ?_; rintro e W1 ⟨rfl, hR, hG⟩; have HT := Aside0.mk (h.grown hR hG); have HF := Aside0.mk ((Fr.refl (Foot g (.slice (some ⟨gr, 0, none⟩) (m + 1) cap)) w).grown hG (fun k hk _ => .inr hk)); clear hR hG) |
    (go_at_call 49; refine (hDown_calls _ B g gr (m + 1) cap _ HT.out 0 m (by omega) (by omega) (by omega) hl).mono ?_; rintro e W2 ⟨rfl, hT, hF⟩; simp only [Int.toNat_natCast, Int.toNat_zero] at hT; have HT2 := Aside0.mk hT; have HF2 := Aside0.mk (HF.out.trans hF (fun _ _ hk => hk)); clear hT hF; have hm3 := mPop W2 ⟨g, 0, none⟩) |
    (go_at_call 89; refine (tPop_calls _ B g gr (m + 1) cap _ HT2.out (by omega) hl).mono ?_; rintro e W3 ⟨rfl, hT3, hF3⟩))
  go_ret
  exact ⟨by rw [HP1.out, List.getD_eq_getElem?_getD]; rfl, by rw [HP2.out]; exact hT3, HF2.out.trans hF3 (fun _ _ hk => hk)⟩
end Go.Proofs.YtpjhflimaiaokaaDoor.Hand
