/-
The list of work: New, Len, Pop and Push, walked.
-/
import Derived.Test.YtpjhflimaiaokaaDoorHC
import Derived.Test.YtpjhflimaiaokaaDoorSA
import Derived.Test.YtpjhflimaiaokaaDoorProg
import Derived.Lib.Hide
import Derived.Outline
import Derived.Deep.RegionLaw
namespace Go.Proofs.YtpjhflimaiaokaaDoor.Hand
open Go.RowKit Go.Proofs.YtpjhflimaiaokaaDoorW.PrintWords Go.Proofs.YtpjhflimaiaokaaDoorW.PrintLast Go.Proofs.YtpjhflimaiaokaaDoorW.PrintMore Go.Proofs.YtpjhflimaiaokaaDoor.Fr
open Go.Proofs.YtpjhflimaiaokaaDoor.Sets (isNum)
open Go.Proofs.YtpjhflimaiaokaaDoor.SetW (number_calls)



set_option maxRecDepth 100000 in
theorem lNew_calls (w : World) (B : Nat) : Calls Tryd.prog 31 #[] w fun e w' => e = .returned (.pointer (some ⟨w.heap.size, 0, none⟩)) ∧ Tasks w' B w.heap.size (.slice none 0 0) [] ∧ Fr (fun _ => False) w w' := by
  have hu := Tryd.underlying76
  go_enter Tryd.func31, Tryd.ntmps31
  go_wp2
  go_ret
  exact ⟨rfl, ⟨blk_new _ _, Kd.R_nil _ _ _ _ _⟩, (Fr.refl _ _).alloc _⟩

set_option maxRecDepth 100000 in
theorem lLen_calls (w : World) (B g : Nat) (sv : Value) (ts : List Tk) (h : Tasks w B g sv ts) : Calls Tryd.prog 28 #[.pointer (some ⟨g, 0, none⟩)] w fun e w' => e = .returned (.int .i64 ts.length) ∧ w = w' := by
  obtain ⟨A, c, rfl⟩ := Kd.R_slice h.row
  have hc := h.cell
  have hu := Tryd.underlying76
  go_enter Tryd.func28, Tryd.ntmps28
  go_wp2
  go_ret
  exact ⟨rfl, rfl⟩

/-- How a list answers a Pop. -/
def lPopF (ts : List Tk) : Tk × Bool × List Tk := if ts = [] then (Tk.z, false, []) else ((popF ts).1, true, (popF ts).2)
set_option maxRecDepth 100000 in
theorem lPop_calls (w : World) (B g : Nat) (sv : Value) (ts : List Tk) (h : Tasks w B g sv ts) (hl : ts.length ≤ 1048577) :
    Calls Tryd.prog 23 #[.pointer (some ⟨g, 0, none⟩)] w fun e w' => e = .returned (.tuple #[.int .i64 (lPopF ts).1.n, .int .i64 (lPopF ts).1.w, .bool (lPopF ts).2.1]) ∧ Turned w B g sv (lPopF ts).2.2 w' := by
  have hm1 := mLen w _ _ h.cell
  have hu := Tryd.underlying76
  have hu2 := Tryd.underlying99
  by_cases he : ts = []
  · subst he
    obtain ⟨A, c, rfl⟩ := Kd.R_slice h.row
    have HE := Lib.hid (show lPopF [] = (Tk.z, false, []) from rfl)
    go_enter Tryd.func23, Tryd.ntmps23
    go_wp2_with (go_at_call 84; refine (tLen_calls _ _ _ _).mono ?_; rintro e W1 ⟨rfl, rfl⟩)
    go_ret3
    exact ⟨rfl, _, h, Fr.refl _ _, .inl rfl⟩
  · have hp : 0 < ts.length := List.length_pos_iff.2 he
    have HE := Lib.hid (show lPopF ts = ((popF ts).1, true, (popF ts).2) by unfold lPopF; rw [if_neg he])
    obtain ⟨gr, cap, rfl⟩ := h.form hp
    obtain ⟨n, hn⟩ : ∃ n, n = ts.length := ⟨_, rfl⟩
    rw [← hn] at h hm1 hp hl ⊢
    have HN := Lib.hid hn
    have hta : ∀ (v : Value) (W : World), (Instr.typeAssert (.iface 99 v) 20 99 false).run Tryd.prog W = .ok v W := fun v W => by rfl
    have hnz : ((n : Int) == 0) = false := beq_eq_false_iff_ne.mpr (by omega)
    clear hn he
    go_enter Tryd.func23, Tryd.ntmps23
    go_wp2_with (first | (go_at_call 84; refine (tLen_calls _ _ _ _).mono ?_; rintro e W1 ⟨rfl, rfl⟩) | (go_at_call 46; refine (hPop_calls w B g gr n cap ts h hp hl).mono ?_; rintro e W1 ⟨rfl, hT, hF⟩; have HT := Aside0.mk hT; have HF := Aside0.mk hF; clear hT hF))
    go_quiet (fail)
    go_wp2
    go_ret3
    exact ⟨by rw [HE.out]; rfl, .slice (some ⟨gr, 0, none⟩) (n - 1) cap, by rw [HE.out]; exact (Tasks.alloc HT.out _).drewN _, (HF.out.alloc _).drewN _, .inl rfl⟩

/-- How a list answers a Push. -/
inductive PushSpec (ts : List Tk) (n x : Int) : Bool → Int → List Tk → Prop where
  | bad (h : isNum n = false) : PushSpec ts n x false 1 ts
  | there (i : Nat) (h : isNum n = true) (hi : i < ts.length) (he : (ts.getD i Tk.z).n = n) (hle : ¬ x < (ts.getD i Tk.z).w) : PushSpec ts n x false 0 ts
  | lighter (i : Nat) (h : isNum n = true) (hi : i < ts.length) (he : (ts.getD i Tk.z).n = n) (hlt : x < (ts.getD i Tk.z).w) : PushSpec ts n x false 0 (fixF (ts.set i ⟨n, x⟩) i)
  | new (h : isNum n = true) (hno : ∀ j, j < ts.length → (ts.getD j Tk.z).n ≠ n) : PushSpec ts n x true 0 (pushF ts ⟨n, x⟩)
def PushPost (w : World) (B g : Nat) (sv : Value) (ts : List Tk) (n x : Int) (e : Ending) (w' : World) : Prop :=
  ∃ b k ts', e = .returned (.tuple #[.bool b, .int .i64 k]) ∧ PushSpec ts n x b k ts' ∧ Turned w B g sv ts' w'
theorem Turned.refl {w : World} {B g : Nat} {sv : Value} {ts : List Tk} (h : Tasks w B g sv ts) : Turned w B g sv ts w := ⟨sv, h, Fr.refl _ _, .inl rfl⟩

theorem Tasks.weight {w : World} {B g gr n cap : Nat} {ts : List Tk} (h : Tasks w B g (.slice (some ⟨gr, 0, none⟩) n cap) ts) (i : Nat) (hi : i < n) (x : Int) :
    Tasks (w.setCell ⟨gr, i * 2 + 1, none⟩ (.int .i64 x)) B g (.slice (some ⟨gr, 0, none⟩) n cap) (ts.set i ⟨(ts.getD i Tk.z).n, x⟩) ∧ w.grownBy (w.setCell ⟨gr, i * 2 + 1, none⟩ (.int .i64 x)) (some gr) ∧
    w.cell? ⟨gr, i * 2, none⟩ = some (.int .i64 (ts.getD i Tk.z).n) ∧ w.cell? ⟨gr, i * 2 + 1, none⟩ = some (.int .i64 (ts.getD i Tk.z).w) ∧ w.frozen? ⟨gr, i * 2 + 1, none⟩ = false := by
  obtain ⟨ci, hci, hMi, hi0, hif⟩ := Kd.R_elem h.row Tk.z (i : Int) (by omega) (by omega)
  simp only [Int.toNat_natCast] at hMi hi0 hif
  obtain rfl := kT_openM hMi
  have hi0' : ∀ (j : Nat) (u : Value), ([Value.int IntKind.i64 (ts.getD i Tk.z).n, Value.int IntKind.i64 (ts.getD i Tk.z).w] : List Value)[j]? = some u → w.cell? ⟨gr, ((i : Int)).toNat * kT.sz + j, none⟩ = some u := by simpa using hi0
  obtain ⟨r1, g1⟩ := Kd.R_seg h.row (i : Int) (by omega) (by omega) (seg := [.int .i64 x]) (j := 1) (x' := ⟨(ts.getD i Tk.z).n, x⟩) hci hi0' (Nat.le_refl 2) (kT_mkM w B (fun _ => False) ⟨(ts.getD i Tk.z).n, x⟩) (fun _ hf => hf.elim)
  simp only [Int.toNat_natCast] at r1 g1
  exact ⟨h.grown r1 g1, g1, hi0 0 _ rfl, hi0 1 _ rfl, hif 1⟩

set_option maxRecDepth 100000 in
theorem lPush_calls (w : World) (B g : Nat) (sv : Value) (ts : List Tk) (h : Tasks w B g sv ts) (hB : B ≤ w.heap.size) (hl : ts.length ≤ 1048576) (n x : Int) :
    Calls Tryd.prog 22 #[.pointer (some ⟨g, 0, none⟩), .int .i64 n, .int .i64 x] w (PushPost w B g sv ts n x) := by
  obtain ⟨A, cap, rfl⟩ := Kd.R_slice h.row
  have hu := Tryd.underlying76
  have hu2 := Tryd.underlying99
  have hc := h.cell
  cases hb : isNum n with
  | false =>
    have HB := Lib.hid hb
    clear hb
    go_enter Tryd.func22, Tryd.ntmps22
    go_wp2_with (go_at_call 43; refine (number_calls _ _).mono ?_; rintro e W1 ⟨rfl, rfl⟩; rw [HB.out])
    go_ret2
    exact ⟨false, 1, ts, rfl, .bad HB.out, Turned.refl h⟩
  | true =>
    have HB := Lib.hid hb
    clear hb
    go_enter Tryd.func22, Tryd.ntmps22
    go_wp2_with (go_at_call 43; refine (number_calls _ _).mono ?_; rintro e W1 ⟨rfl, rfl⟩; rw [HB.out])
    go_loop [24, 9] (fun a b => ∃ k : Nat, a = .int .i64 k ∧ k ≤ ts.length ∧ Aside0 (∀ j, j < k → (ts.getD j Tk.z).n ≠ n)) (fun a b => ts.length - (intOf a).toNat)
    case atStart => exact ⟨0, rfl, Nat.zero_le _, ⟨fun j hj => by omega⟩⟩
    case round =>
      obtain ⟨k, rfl, hk, HK⟩ := hrel
      by_cases hlt : k < ts.length
      · obtain ⟨gr, cap', e⟩ := h.form (by omega)
        injection e with e1 _ e3
        subst e1 e3
        obtain ⟨hT, hG, hn, hw, hf⟩ := h.weight k hlt x
        obtain ⟨t, ht⟩ : ∃ t, t = ts.getD k Tk.z := ⟨_, rfl⟩
        rw [← ht] at hT hn hw
        have HT := Aside0.mk hT
        have HG := Aside0.mk hG
        have HQ := Lib.hid ht
        clear hT hG ht
        by_cases hen : t.n = n
        · have HE := Lib.hid hen
          have heb := beq_iff_eq.mpr hen
          clear hen
          by_cases hx : x < t.w
          · go_wp2_with (go_at_call 44; refine (hFix_calls _ B g gr ts.length cap _ HT.out k (by omega) (by omega) (by omega)).mono ?_; rintro e W1 ⟨rfl, hT1, hF1⟩; rw [Int.toNat_natCast] at hT1)
            go_ret2
            exact ⟨false, 0, _, rfl, .lighter k HB.out hlt (by rw [← HQ.out]; exact HE.out) (by rw [← HQ.out]; exact hx), .slice (some ⟨gr, 0, none⟩) ts.length cap, by rw [← HE.out]; exact hT1, ((Fr.refl _ _).grown HG.out (fun k hk _ => .inr hk)).trans hF1 (fun _ _ hk => hk), .inl rfl⟩
          · have hx' : t.w ≤ x := by omega
            have HX := Lib.hid hx
            clear hx
            go_wp2_with (fail)
            go_ret2
            exact ⟨false, 0, ts, rfl, .there k HB.out hlt (by rw [← HQ.out]; exact HE.out) (by rw [← HQ.out]; exact Int.not_lt.mpr HX.out), Turned.refl h⟩
        · have heb := beq_eq_false_iff_ne.mpr hen
          have HE := Lib.hid hen
          clear hen
          go_wp2_with (fail)
          exact ⟨⟨k + 1, by go_num, by omega, ⟨fun j hj => by
            by_cases e : j = k
            · rw [e, ← HQ.out]; exact HE.out
            · exact HK.out j (by omega)⟩⟩, by simp [intOf]; omega⟩
      · have HN := Aside0.mk (show ∀ j, j < ts.length → (ts.getD j Tk.z).n ≠ n from fun j hj => HK.out j (by omega))
        go_wp2_with (go_at_call 45; refine (hPush_calls _ B g _ ts ⟨n, x⟩ h hB hl).mono ?_; rintro e W1 ⟨rfl, hT1⟩)
        go_ret2
        exact ⟨true, 0, _, rfl, .new HB.out HN.out, hT1⟩
end Go.Proofs.YtpjhflimaiaokaaDoor.Hand
