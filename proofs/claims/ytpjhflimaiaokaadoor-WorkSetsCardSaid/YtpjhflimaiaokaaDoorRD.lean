/-
The reference's sets: Drop, walked.
-/
import Derived.Test.YtpjhflimaiaokaaDoorRC
namespace Go.Proofs.YtpjhflimaiaokaaDoor.RSet
open Go.RowKit Go.Proofs.YtpjhflimaiaokaaDoorW.PrintWords Go.Proofs.YtpjhflimaiaokaaDoorW.PrintLast Go.Proofs.YtpjhflimaiaokaaDoorW.PrintMore Go.Proofs.YtpjhflimaiaokaaDoor.Fr Go.Proofs.YtpjhflimaiaokaaDoor.Sets Go.Proofs.YtpjhflimaiaokaaDoor.SetW

/-- The numbers us without those of ys. -/
def less (us ys : List Int) : List Int := us.filter (fun x => decide (¬ x ∈ ys))
theorem less_step {us ys : List Int} {k : Nat} (hk : k < us.length) : less (us.take (k + 1)) ys = if rd us k ∈ ys then less (us.take k) ys else less (us.take k) ys ++ [rd us k] := by
  have e : us.take (k + 1) = us.take k ++ [rd us k] := by rw [List.take_add_one]; simp [rd, List.getD_eq_getElem?_getD, hk]
  unfold less
  rw [e, List.filter_append]
  by_cases h : rd us (k : Int) ∈ ys <;> simp [h]
theorem less_le (us ys : List Int) : (less us ys).length ≤ us.length := List.length_filter_le _ _
def RDropPost (ok : Nat → Prop) (w : World) (B : Nat) (us ys : List Int) (e : Ending) (w' : World) : Prop :=
  ∃ v, kI.R 3 w' B ok v (less us ys) ∧ Fr (fun _ => False) w w' ∧ e = .returned (.tuple #[.agg #[v], .int .i64 ((us.length : Int) - (less us ys).length)])
structure RDropW (w : World) (A : Option Addr) (c : Nat) (us ys : List Int) (k : Nat) (v : Value) (left : List Int) (W : World) : Prop where
  row : kI.R 3 W (w.heap.size + 1) (fun _ => True) v left
  left : left = less (us.take k) ys
  box : W.heap[w.heap.size]? = some (.cells #[.slice A us.length c] 40 (0, 0))
  res : W.heap[w.heap.size + 1]? = some (.cells #[.slice none 0 0] 40 (0, 0))
  fr : Fr (fun _ => False) w W
theorem RDropW.le {w : World} {A : Option Addr} {c : Nat} {us ys : List Int} {k : Nat} {v : Value} {left : List Int} {W : World} (h : RDropW w A c us ys k v left W) : left.length ≤ us.length := by
  rw [h.left]
  exact Nat.le_trans (less_le _ _) (by simp; omega)
theorem RDropW.fr1 {w : World} {A : Option Addr} {c : Nat} {us ys : List Int} {k : Nat} {v : Value} {left : List Int} {W W1 : World} (h : RDropW w A c us ys k v left W) (hF : Fr (fun _ => False) W W1) : RDropW w A c us ys k v left W1 :=
  ⟨hF.R h.row (fun _ _ => id), h.left, hF.blk h.box id, hF.blk h.res id, h.fr.trans hF (fun _ _ hf => hf)⟩
theorem RDropW.grown {w : World} {A A1 A2 : Option Addr} {c c1 c2 : Nat} {us ys : List Int} {k : Nat} {left : List Int} {W w1 : World} (h : RDropW w A c us ys k (.slice A1 left.length c1) left W) (hk : k < us.length) (hn : ¬ rd us k ∈ ys) (hg : W.grownBy w1 (Value.slice A1 left.length c1).ownBlock)
    (hR : kI.R 3 w1 (w.heap.size + 1) (fun _ => True) (.slice A2 (left ++ [rd us k]).length c2) (left ++ [rd us k])) : RDropW w A c us ys (k + 1) (.slice A2 (left.length + 1) c2) (left ++ [rd us k]) w1 :=
  ⟨by simpa using hR, by rw [less_step hk, if_neg hn, h.left], blk_grown h.box hg (Kd.R_ne h.row h.box (by decide)), blk_grown h.res hg (Kd.R_ne h.row h.res (by decide)), h.fr.grown hg (fun q hq hlt => by have := Kd.R_base h.row q hq; omega)⟩
theorem RDropW.skip {w : World} {A : Option Addr} {c : Nat} {us ys : List Int} {k : Nat} {v : Value} {left : List Int} {W : World} (h : RDropW w A c us ys k v left W) (hk : k < us.length) (hn : rd us k ∈ ys) : RDropW w A c us ys (k + 1) v left W :=
  ⟨h.row, by rw [less_step hk, if_pos hn, h.left], h.box, h.res, h.fr⟩

set_option maxRecDepth 100000 in
set_option maxHeartbeats 1000000 in
theorem rdrop_calls {ok0 ok : Nat → Prop} (w : World) (B : Nat) (v : Value) (us ys : List Int) (A : Option Addr) (c : Nat) (h : kI.R 3 w B ok0 v us) (hB : B ≤ w.heap.size) (hl : us.length ≤ 1048576) (hA : kI.C w A ys.length ys) (hok : ∀ k, w.heap.size ≤ k → ok k) :
    Calls Tryd.prog 39 #[.agg #[v], .slice A ys.length c] w (RDropPost ok w B us ys) := by
  obtain ⟨A0, c0, rfl, _, hC⟩ := Kd.R_reads h
  have hu := Tryd.underlying40
  have hm := Kd.C_max hA
  have HA := Aside0.mk hA
  have HC := Aside0.mk hC
  have HOK := Aside0.mk hok
  clear h hA hC hok
  go_enter Tryd.func39, Tryd.ntmps39
  go_wp2_with (fail)
  have HW := Aside0.mk (show RDropW w A0 c0 us ys 0 (.slice none 0 0) [] ((w.alloc (.cells #[.slice A0 us.length c0] 40)).alloc (.cells #[.slice none 0 0] 40)) from
    ⟨Kd.R_nil _ _ _ _ _, by simp [less], blk_alloc (blk_new w _) _, by simpa using blk_new (w.alloc (.cells #[.slice A0 us.length c0] 40)) (.cells #[.slice none 0 0] 40), ((Fr.refl _ _).alloc _).alloc _⟩)
  go_loopw [6, 7] (fun a b W => ∃ (k : Nat) (A1 : Option Addr) (c1 : Nat) (left : List Int), a = .slice A1 left.length c1 ∧ b = .int .i64 k ∧ k ≤ us.length ∧ Aside0 (RDropW w A0 c0 us ys k (.slice A1 left.length c1) left W)) (fun _ b _ => us.length - (intOf b).toNat)
  case atStart => exact ⟨0, none, 0, [], rfl, rfl, Nat.zero_le _, HW⟩
  case round =>
    clear HW
    obtain ⟨k, A1, c1, left, rfl, rfl, hk, HL⟩ := hrel
    have hc1 : wr.cell? ⟨w.heap.size, 0, none⟩ = some (.slice A0 us.length c0) := (blk_cell HL.out.box 0).trans rfl
    have hc2 : wr.cell? ⟨w.heap.size + 1, 0, none⟩ = some (.slice none 0 0) := (blk_cell HL.out.res 0).trans rfl
    have hf2 := blk_frozen HL.out.res 0
    have HCW := Aside0.mk (HL.out.fr.C (S := fun _ => False) 0 HC.out (fun _ _ _ => id))
    have HAW := Aside0.mk (HL.out.fr.C (S := fun _ => False) 0 HA.out (fun _ _ _ => id))
    have hle := HL.out.le
    by_cases hlt : k < us.length
    · obtain ⟨ad, rfl, hx⟩ := Kd.at_int HCW.out (k : Int) (by omega) (by omega)
      simp only [Int.toNat_natCast] at hx
      go_wp2_with (fail)
      refine (rhas_calls _ ys A c _ HAW.out).mono ?_
      rintro e W1 ⟨rfl, hF1⟩
      have HL1 := Aside0.mk (HL.out.fr1 hF1)
      have hd1 : W1.cell? ⟨w.heap.size, 0, none⟩ = some (.slice (some ad) us.length c0) := (blk_cell HL1.out.box 0).trans rfl
      have hdx : W1.cell? (ad.add k) = some (.int .i64 (rd us k)) := hF1.cell hx id
      have hsz : w.heap.size + 1 ≤ W1.heap.size := by have := blk_lt HL1.out.res; omega
      have hl2 : left.length ≤ 4194304 := by omega
      clear hc1 hc2 hf2 hF1 hx
      by_cases hin : rd us (k : Int) ∈ ys
      · rw [decide_eq_true hin]
        have HI := Aside0.mk hin
        clear hin
        go_wp2_with (fail)
        exact ⟨⟨k + 1, A1, c1, left, rfl, by go_num, by omega, Aside0.mk (HL1.out.skip hlt HI.out)⟩, by simp [intOf]; omega⟩
      · rw [decide_eq_false hin]
        have HI := Aside0.mk hin
        clear hin
        go_wp2_with (at_builtin; refine app_int (w.heap.size + 1) rfl _ _ rfl (.slice A1 left.length c1) left (rd us (k : Int)) rfl rfl HL1.out.row hsz hl2 ?_; intro v2 w2 h1 h2 _; obtain ⟨A2, c2, rfl⟩ := Kd.R_slice h1; have HQ := Aside0.mk (HL1.out.grown hlt HI.out h2 h1); clear h1 h2)
        exact ⟨⟨k + 1, A2, c2, left ++ [rd us k], by simp, by go_num, by omega, ⟨by simpa using HQ.out⟩⟩, by simp [intOf]; omega⟩
    · obtain rfl : k = us.length := by omega
      have HLT := Lib.hid (show left = less us ys by rw [HL.out.left, List.take_length])
      go_wp2_with (fail)
      go_region
      go_wp2_with (fail)
      exact bodyPost_ret (results_ct rfl _ _ (w.heap.size + 1) 40 #[.slice A1 left.length c1] (0, 0) _ rfl (blk_drew (blk_put HL.out.res 0 _ rfl)) hu rfl rset_info) rfl
        ⟨_, by rw [← HLT.out]; exact Kd.R_lower (Kd.R_mono (Kd.R_bound (Kd.R_drew (RS.set HL.out.row HL.out.res 0 _))) (fun k hk => HOK.out k (by have := hk.2.1; omega))) (by omega), (HL.out.fr.set _ (fun h => by omega)).drew, by rw [← HLT.out]; rfl⟩
end Go.Proofs.YtpjhflimaiaokaaDoor.RSet
