/-
The reference's sets: Add, walked.
-/
import Derived.Test.YtpjhflimaiaokaaDoorRB
namespace Go.Proofs.YtpjhflimaiaokaaDoor.RSet
open Go.RowKit Go.Proofs.YtpjhflimaiaokaaDoorW.PrintWords Go.Proofs.YtpjhflimaiaokaaDoorW.PrintLast Go.Proofs.YtpjhflimaiaokaaDoorW.PrintMore Go.Proofs.YtpjhflimaiaokaaDoor.Fr Go.Proofs.YtpjhflimaiaokaaDoor.Sets Go.Proofs.YtpjhflimaiaokaaDoor.SetW

theorem AddInv.with {l ys l1 l2 : List Int} {i : Nat} (h : AddInv l ys l1 i) (hi : i < ys.length) (hn : isNum (rd ys i) = true) (hw : With l1 (rd ys i) l2) : AddInv l ys l2 (i + 1) := by
  cases hw with
  | there hm => exact h.skip hi hm
  | new k hm hs => exact h.ins hi hm hn hs
def RAddPost (ok : Nat → Prop) (w : World) (B : Nat) (us ys : List Int) (e : Ending) (w' : World) : Prop :=
  ∃ v us', kI.R 3 w' B ok v us' ∧ Fr (fun _ => False) w w' ∧
    (((∀ y, y ∈ ys → isNum y = true) ∧ AddInv us ys us' ys.length ∧ e = .returned (.tuple #[.agg #[v], .int .i64 ((us'.length : Int) - us.length), .int .i64 0])) ∨
     ((∃ y, y ∈ ys ∧ isNum y = false) ∧ us' = us ∧ e = .returned (.tuple #[.agg #[v], .int .i64 0, .int .i64 1])))
structure RAddW (ok : Nat → Prop) (w : World) (B : Nat) (us ys : List Int) (k : Nat) (W : World) : Prop where
  ex : ∃ v us1, kI.R 3 W B ok v us1 ∧ AddInv us ys us1 k ∧ W.heap[w.heap.size]? = some (.cells #[v] 40 (0, 0))
  res : W.heap[w.heap.size + 1]? = some (.cells #[.slice none 0 0] 40 (0, 0))
  fr : Fr (fun _ => False) w W

theorem RS.set {ok : Nat → Prop} {w : World} {B g : Nat} {v : Value} {us : List Int} {cs : Array Value} (h : kI.R 3 w B ok v us) (hb : w.heap[g]? = some (.cells cs 40 (0, 0))) (j : Nat) (u : Value) : kI.R 3 (w.setCell ⟨g, j, none⟩ u) B ok v us :=
  Kd.R_set h hb (by intro q hq; simp only [List.mem_cons] at hq; rcases hq with rfl | hq; decide; exact absurd hq (by simp [kI, Kd.int, Kd.scalar])) j u
theorem RAddW.next {ok : Nat → Prop} {w W2 : World} {B k : Nat} {v x : Value} {us ys us2 : List Int} (hR : kI.R 3 W2 B ok v us2) (hi : AddInv us ys us2 k) (h1 : W2.heap[w.heap.size]? = some (.cells #[x] 40 (0, 0))) (h2 : W2.heap[w.heap.size + 1]? = some (.cells #[.slice none 0 0] 40 (0, 0)))
    (hF : Fr (fun _ => False) w W2) : RAddW ok w B us ys k (W2.setCell ⟨w.heap.size, 0, none⟩ v) :=
  ⟨⟨v, us2, RS.set hR h1 0 v, hi, blk_set h1 0 v⟩, blk_far h2 (p := ⟨w.heap.size, 0, none⟩) (by simp) v, hF.set v (fun h => by omega)⟩
set_option maxRecDepth 100000 in
set_option maxHeartbeats 1000000 in
theorem radd_calls {ok : Nat → Prop} (w : World) (B : Nat) (v : Value) (us ys : List Int) (A : Option Addr) (c : Nat) (h : kI.R 3 w B ok v us) (hB : B ≤ w.heap.size) (hr : Rising us) (hn : ∀ x, x ∈ us → isNum x = true) (hA : kI.C w A ys.length ys) (hok : ∀ k, w.heap.size ≤ k → ok k) :
    Calls Tryd.prog 18 #[.agg #[v], .slice A ys.length c] w (RAddPost ok w B us ys) := by
  obtain ⟨A0, c0, rfl⟩ := Kd.R_slice h
  have hu := Tryd.underlying40
  have hm := Kd.C_max hA
  have HH := Aside0.mk h
  have HA := Aside0.mk hA
  have HR := Aside0.mk hr
  have HN := Aside0.mk hn
  have HOK := Aside0.mk hok
  clear h hA hr hn hok
  go_enter Tryd.func18, Tryd.ntmps18
  go_wp2_with (fail)
  refine (numbers_calls _ ys A c (Kd.C_alloc (Kd.C_alloc HA.out _) _)).mono ?_
  rintro e W1 ⟨⟨b, rfl, hb⟩, rfl⟩
  have hb1 := blk_alloc (blk_new w (.cells #[.slice A0 us.length c0] 40)) (.cells #[.slice none 0 0] 40)
  have hb2 := blk_new (w.alloc (.cells #[.slice A0 us.length c0] 40)) (.cells #[.slice none 0 0] 40)
  have HF1 := Aside0.mk (((Fr.refl (fun _ => False) w).alloc (.cells #[.slice A0 us.length c0] 40)).alloc (.cells #[.slice none 0 0] 40))
  simp only [World.size_alloc] at hb2
  have HB1 := Aside0.mk hb1
  have HB2 := Aside0.mk hb2
  clear hb1 hb2
  cases b with
  | false =>
    have HY := Aside0.mk (show ∃ y, y ∈ ys ∧ isNum y = false from Classical.byContradiction fun hno => by
      have : false = true := hb.2 (fun y hy => by
        cases hy2 : isNum y with
        | true => rfl
        | false => exact absurd ⟨y, hy, hy2⟩ hno)
      cases this)
    clear hb
    go_wp2_with (fail)
    exact bodyPost_ret (results_ctt rfl _ _ (w.heap.size + 1) 40 #[.slice A0 us.length c0] (0, 0) _ rfl (by simpa using blk_new (w.alloc (.cells #[.slice A0 us.length c0] 40)) (.cells #[.slice A0 us.length c0] 40)) hu rfl rset_info) rfl
      ⟨_, us, RS.fr HH.out (((Fr.refl _ _).alloc _).alloc _), ((Fr.refl _ _).alloc _).alloc _, .inr ⟨HY.out, rfl, rfl⟩⟩
  | true =>
    have HY := Aside0.mk (hb.1 rfl)
    clear hb
    have HW := Aside0.mk (show RAddW ok w B us ys 0 ((w.alloc (.cells #[.slice A0 us.length c0] 40)).alloc (.cells #[.slice none 0 0] 40)) from ⟨⟨_, us, RS.fr HH.out HF1.out, AddInv.start ys HR.out HN.out, HB1.out⟩, HB2.out, HF1.out⟩)
    go_wp2_with (fail)
    go_loopw [8] (fun a W => ∃ k : Nat, a = .int .i64 k ∧ k ≤ ys.length ∧ Aside0 (RAddW ok w B us ys k W)) (fun a _ => ys.length - (intOf a).toNat)
    case atStart => exact ⟨0, rfl, Nat.zero_le _, HW⟩
    case round =>
      clear HW HB1 HB2 HF1
      obtain ⟨k, rfl, hk, HL⟩ := hrel
      obtain ⟨v1, us1, hv, hi, hb1⟩ := HL.out.ex
      obtain ⟨A1, c1, rfl⟩ := Kd.R_slice hv
      have HB1 := Aside0.mk hb1
      have HV := Aside0.mk hv
      have HI := Aside0.mk hi
      have hc1 : wr.cell? ⟨w.heap.size, 0, none⟩ = some (.slice A1 us1.length c1) := (blk_cell hb1 0).trans rfl
      have hf1 := blk_frozen hb1 0
      have hc2 : wr.cell? ⟨w.heap.size + 1, 0, none⟩ = some (.slice none 0 0) := (blk_cell HL.out.res 0).trans rfl
      have hf2 := blk_frozen HL.out.res 0
      have HCW := Aside0.mk (HL.out.fr.C (S := fun _ => False) 0 HA.out (fun _ _ _ => id))
      clear hv hb1
      by_cases hlt : k < ys.length
      · obtain ⟨ad, rfl, hx⟩ := Kd.at_int HCW.out (k : Int) (by omega) (by omega)
        simp only [Int.toNat_natCast] at hx
        go_wp2_with (fail)
        have hle := hi.len
        have hsz : B ≤ wr.heap.size := by have := HL.out.fr.size; omega
        have HOK2 := Aside0.mk (show ∀ k, wr.heap.size ≤ k → ok k from fun k hk => HOK.out k (by have := HL.out.fr.size; omega))
        clear hi
        go_region_with (go_at_call 38; refine (rwith_calls _ B _ us1 _ (Kd.R_drew HV.out) hsz HI.out.rise hle HOK2.out).mono ?_; rintro e W2 ⟨v2, us2, rfl, hw, hR2, hF2⟩; obtain ⟨A2, c2, rfl⟩ := Kd.R_slice hR2; have HR2 := Aside0.mk hR2; have HWI := Aside0.mk (AddInv.with HI.out hlt (HY.out _ (mem_iff_rd.2 ⟨k, hlt, rfl⟩)) hw); have HF2 := Aside0.mk (HL.out.fr.drew.trans hF2 (fun _ _ hf => hf)); have hd1 := hF2.blk (blk_drew HB1.out) id; have hd2 := hF2.blk (blk_drew HL.out.res) id; have HD1 := Aside0.mk hd1; have HD2 := Aside0.mk hd2; have hx1 := (blk_cell hd1 0).trans (show _ = some (Value.slice A1 us1.length c1) from rfl); have hxf := blk_frozen hd1 0; clear hw hR2 hF2 hd1 hd2 hc1 hf1 hc2 hf2)
        all_goals go_wp2_with (fail)
        all_goals exact ⟨⟨k + 1, by go_num, by omega, Aside0.mk (RAddW.next HR2.out HWI.out HD1.out HD2.out HF2.out)⟩, by simp [intOf]; omega⟩
      · obtain rfl : k = ys.length := by omega
        have hle := hi.len
        clear hi
        have HW64 := Lib.hid (show wrap64 ((us1.length : Int) - us.length) = (us1.length : Int) - us.length by have := len_le HR.out HN.out; simp only [wrap64]; omega)
        go_wp2_with (fail)
        go_region
        all_goals go_wp2_with (fail)
        exact bodyPost_ret (results_ctt rfl _ _ (w.heap.size + 1) 40 #[.slice A1 us1.length c1] (0, 0) _ rfl (blk_drew (blk_put HL.out.res 0 _ rfl)) hu rfl rset_info) rfl
          ⟨_, us1, Kd.R_drew (RS.set HV.out HL.out.res 0 _), (HL.out.fr.set _ (fun h => by omega)).drew, .inl ⟨HY.out, HI.out, by show Ending.returned (.tuple #[.agg #[.slice A1 us1.length c1], .int .i64 (wrap64 ((us1.length : Int) - us.length)), .int .i64 0]) = _; rw [HW64.out]⟩⟩
end Go.Proofs.YtpjhflimaiaokaaDoor.RSet
