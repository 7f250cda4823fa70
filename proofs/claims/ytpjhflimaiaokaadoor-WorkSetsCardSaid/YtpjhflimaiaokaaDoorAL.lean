/-
The test helper that tells whether a list is alive answers true, whatever the world.
-/
import Derived.Test.YtpjhflimaiaokaaDoorHD
import Derived.Test.YtpjhflimaiaokaaDoorSC
import Derived.Test.YtpjhflimaiaokaaDoorIA
import Derived.Deep.DeepFit
import Derived.Outline
namespace Go.Proofs.YtpjhflimaiaokaaDoor.Alive
open Go.RowKit Go.Proofs.YtpjhflimaiaokaaDoorW.PrintWords Go.Proofs.YtpjhflimaiaokaaDoorW.PrintLast Go.Proofs.YtpjhflimaiaokaaDoorW.PrintMore Go.Proofs.YtpjhflimaiaokaaDoor.Fr
open Go.Proofs.YtpjhflimaiaokaaDoor.Sets
open Go.Proofs.YtpjhflimaiaokaaDoor.SetW (kI Nums newSet_calls slen_calls has_calls)
open Go.Proofs.YtpjhflimaiaokaaDoor.Hand (Tk Tasks Turned PushSpec lPopF popF pushF upF upF_zero swapT downF downF_end lNew_calls lPush_calls lPop_calls)
open Go.Proofs.YtpjhflimaiaokaaDoor.IxW (newIx_calls at_calls)

theorem push_one {b : Bool} {k : Int} {ts : List Tk} (h : PushSpec [] 4 1 b k ts) : b = true ∧ k = 0 ∧ ts = [⟨4, 1⟩] := by
  cases h with
  | bad h => exact absurd h (by decide)
  | there i h hi => simp at hi
  | lighter i h hi => simp at hi
  | new h hno => exact ⟨rfl, rfl, by unfold pushF; exact upF_zero _⟩
theorem pop_one : lPopF [⟨4, 1⟩] = (⟨4, 1⟩, true, []) := by
  unfold lPopF popF
  simp only [List.length_cons, List.length_nil, Nat.zero_add, Nat.sub_self]
  rw [if_neg (by simp), downF_end (by omega)]
  rfl
theorem three {l : List Int} (h : AddInv [] [5, 1, 5] l [5, 1, 5].length) : l = [1, 5] := by
  refine sorted_ext (rising_iff.1 h.rise) (by simp) (fun x => ?_)
  rw [h.mem]
  simp
  omega

set_option maxRecDepth 100000 in
set_option maxHeartbeats 1000000 in
theorem alive_calls (w : World) : Calls Tryd.prog 7 #[] w fun e w' => e = .returned (.bool true) ∧ Fr (fun _ => False) w w' := by
  have hrow : kI.C (w.alloc (.cells #[.int .i64 5, .int .i64 1, .int .i64 5] 3)) (some ⟨w.heap.size, 0, none⟩) ([5, 1, 5] : List Int).length [5, 1, 5] := by
    have hb := blk_new w (.cells #[.int .i64 5, .int .i64 1, .int .i64 5] 3)
    refine Kd.C_of_reads (d := (0 : Int)) ⟨rfl, by decide, fun _ => ⟨_, rfl, fun j hj => ?_⟩⟩
    rw [add_plain, blk_cell hb]
    have hj' : j < 3 := hj
    match j, hj' with
    | 0, _ => rfl
    | 1, _ => rfl
    | 2, _ => rfl
  have HR := Aside0.mk hrow
  clear hrow
  go_enter Tryd.func7, Tryd.ntmps7
  go_wp2_with (fail)
  have hns := newSet_calls (w.alloc (.cells #[.int .i64 5, .int .i64 1, .int .i64 5] 3)) w.heap.size [5, 1, 5] (some ⟨w.heap.size, 0, none⟩) 3 (by simp) HR.out (fun ad e _ => by injection e with e; subst e; simp)
  rw [show ([5, 1, 5] : List Int).length = 3 from rfl] at hns
  refine hns.mono ?_
  clear hns
  rintro e W1 (⟨_, l, sv, hinv, rfl, hN, hS, hF⟩ | ⟨⟨y, hy, hb⟩, _⟩)
  · obtain rfl := three hinv
    simp only [World.size_alloc] at hN
    have HN := Aside0.mk hN
    have HF := Aside0.mk hF
    clear hinv hS hF hN
    go_wp2_with (first | (go_at_call 13; refine (slen_calls _ _ _ _ _ HN.out).mono ?_; rintro e W2 ⟨rfl, rfl⟩) | (go_at_call 12; refine (has_calls _ _ _ _ [1, 5] 5 HN.out ?_ ?_).mono ?_; (case refine_1 => exact rising_iff.2 (by simp)); (case refine_2 => simp); rintro e W2 ⟨rfl, hd⟩))
    have HF2 := Aside0.mk (((Fr.refl (fun _ => False) w).alloc (.cells #[.int .i64 5, .int .i64 1, .int .i64 5] 3)).trans (HF.out.drawn' hd) (fun _ _ hk => hk))
    clear hd HF HN
    refine (lNew_calls W2 W2.heap.size).mono ?_
    rintro e W3 ⟨rfl, hT3, hF3⟩
    have HT3 := Aside0.mk hT3
    have HF3 := Aside0.mk hF3
    clear hT3 hF3
    go_wp2_with (fail)
    refine (lPush_calls W3 W2.heap.size W2.heap.size _ [] HT3.out HF3.out.size (by simp) 4 1).mono ?_
    rintro e W4 ⟨b, k, ts, rfl, hp, hT4⟩
    obtain ⟨rfl, rfl, rfl⟩ := push_one hp
    obtain ⟨sv4, hT4, hF4, hO4⟩ := hT4
    have HT4 := Aside0.mk hT4
    have HF4 := Aside0.mk hF4
    have HO4 := Aside0.mk hO4
    clear hp hT4 hF4 hO4
    go_wp2_with (fail)
    refine (lPop_calls W4 W2.heap.size W2.heap.size sv4 [⟨4, 1⟩] HT4.out (by simp)).mono ?_
    rintro e W5 ⟨rfl, sv5, hT5, hF5, hO5⟩
    rw [pop_one]
    have HF5 := Aside0.mk hF5
    clear hT5 hF5 hO5
    go_wp2_with (fail)
    refine (newIx_calls W5).mono ?_
    rintro e W6 ⟨rfl, hX, hF6⟩
    have HX := Aside0.mk hX
    have HF6 := Aside0.mk hF6
    clear hX hF6
    go_wp2_with (fail)
    refine (at_calls W6 _ _ _ HX.out).mono ?_
    rintro e W7 ⟨rfl, hF7⟩
    have HF7 := Aside0.mk hF7
    clear hF7
    go_wp2_with (fail)
    go_ret
    have h3 : W2.heap.size ≤ W3.heap.size := HF3.out.size
    have h4 : Fr (fun i => W2.heap.size ≤ i) W2 W4 := (HF3.out.mono (fun _ hf => hf.elim)).trans HF4.out (fun i hi hk => by
      rcases hk with rfl | hk
      · exact Nat.le_refl _
      · simp [Value.ownBlock] at hk)
    have h5 : Fr (fun i => W2.heap.size ≤ i) W2 W5 := h4.trans HF5.out (fun i hi hk => by
      rcases hk with rfl | hk
      · exact Nat.le_refl _
      · rcases HO4.out with e | ⟨b, e, hb⟩
        · rw [e] at hk; simp [Value.ownBlock] at hk
        · rw [e] at hk; injection hk with hk; omega)
    have h6 : Fr (fun i => W2.heap.size ≤ i) W2 W6 := h5.trans HF6.out (fun i hi hk => hk.elim)
    have h7 : Fr (fun i => W2.heap.size ≤ i) W2 W7 := h6.trans HF7.out (fun i hi hk => by have := h5.size; rcases hk with rfl | rfl <;> omega)
    exact ⟨rfl, HF2.out.trans h7 (fun i hi hk => by have := HF2.out.size; omega)⟩
  · exfalso
    simp at hy
    rcases hy with rfl | rfl | rfl <;> exact absurd hb (by decide)
end Go.Proofs.YtpjhflimaiaokaaDoor.Alive
